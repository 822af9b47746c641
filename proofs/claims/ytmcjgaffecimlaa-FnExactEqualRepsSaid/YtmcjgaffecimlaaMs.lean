/- Slices of matrices: what reads so; the laws' own helpers on them (size, copy, comparison). -/
import Derived.Test.YtmcjgaffecimlaaSS
import Derived.Test.YtmcjgaffecimlaaMatAux
import Derived.Test.YtmcjgaffecimlaaMat2
import Derived.Deep.RegionHeld3
namespace Go.Proofs.Ytmcjgaffecimlaa
open Go.RowKit
set_option linter.unusedVariables false
set_option linter.unusedSimpArgs false

abbrev Mt := Int × Int × List Int
def mtG (L : List Mt) (i : Nat) : Mt := L.getD i (0, 0, [])
/-- a slice of matrices that came in -/
def RawM (w : World) (v : Value) (L : List Mt) : Prop :=
  ∃ a cap, v = .slice a L.length cap ∧ L.length ≤ cap ∧ cap ≤ 9223372036854775807 ∧
    (L = [] ∨ ∃ g off, a = some ⟨g, off, none⟩ ∧ g < w.heap.size ∧ ∀ i, i < L.length → ∃ u, w.cell? ⟨g, off + i * 3, none⟩ = some (.int .i64 (mtG L i).1) ∧ w.cell? ⟨g, off + i * 3 + 1, none⟩ = some (.int .i64 (mtG L i).2.1) ∧ w.cell? ⟨g, off + i * 3 + 2, none⟩ = some u ∧ Raw w u (mtG L i).2.2)
/-- a slice of matrices that the call made -/
def MatS (w : World) (v : Value) (L : List Mt) : Prop :=
  ∃ a cap, v = .slice a L.length cap ∧ L.length ≤ cap ∧ cap ≤ 9223372036854775807 ∧
    (L = [] ∨ ∃ g off, a = some ⟨g, off, none⟩ ∧ g < w.heap.size ∧ ∀ i, i < L.length → ∃ u, w.cell? ⟨g, off + i * 3, none⟩ = some (.int .i64 (mtG L i).1) ∧ w.cell? ⟨g, off + i * 3 + 1, none⟩ = some (.int .i64 (mtG L i).2.1) ∧ w.cell? ⟨g, off + i * 3 + 2, none⟩ = some u ∧ Ints w u (mtG L i).2.2)
theorem RawM.shape {w : World} {v : Value} {L : List Mt} (h : RawM w v L) : ∃ a cap, v = .slice a L.length cap ∧ L.length ≤ cap ∧ cap ≤ 9223372036854775807 := by
  obtain ⟨a, cap, rfl, h1, h2, _⟩ := h; exact ⟨a, cap, rfl, h1, h2⟩
theorem MatS.shape {w : World} {v : Value} {L : List Mt} (h : MatS w v L) : ∃ a cap, v = .slice a L.length cap ∧ L.length ≤ cap ∧ cap ≤ 9223372036854775807 := by
  obtain ⟨a, cap, rfl, h1, h2, _⟩ := h; exact ⟨a, cap, rfl, h1, h2⟩
theorem RawM.nil (w : World) : RawM w (.slice none 0 0) [] := ⟨none, 0, rfl, Nat.le_refl _, by omega, .inl rfl⟩
theorem RawM.below {w w' : World} {v : Value} {L : List Mt} (h : RawM w v L) (b : Below w.heap.size w w') : RawM w' v L := by
  obtain ⟨a, cap, rfl, h1, h2, h3 | ⟨g, off, rfl, hb, hc⟩⟩ := h
  · exact ⟨a, cap, rfl, h1, h2, .inl h3⟩
  · refine ⟨_, cap, rfl, h1, h2, .inr ⟨g, off, rfl, Nat.lt_of_lt_of_le hb b.size, fun i hi => ?_⟩⟩
    obtain ⟨u, h4, h5, h6, h7⟩ := hc i hi
    exact ⟨u, by rw [b.cell (p := ⟨g, off + i * 3, none⟩) hb]; exact h4, by rw [b.cell (p := ⟨g, off + i * 3 + 1, none⟩) hb]; exact h5, by rw [b.cell (p := ⟨g, off + i * 3 + 2, none⟩) hb]; exact h6, h7.below b⟩
theorem MatS.below {w w' : World} {v : Value} {L : List Mt} (h : MatS w v L) (b : Below w.heap.size w w') : MatS w' v L := by
  obtain ⟨a, cap, rfl, h1, h2, h3 | ⟨g, off, rfl, hb, hc⟩⟩ := h
  · exact ⟨a, cap, rfl, h1, h2, .inl h3⟩
  · refine ⟨_, cap, rfl, h1, h2, .inr ⟨g, off, rfl, Nat.lt_of_lt_of_le hb b.size, fun i hi => ?_⟩⟩
    obtain ⟨u, h4, h5, h6, h7⟩ := hc i hi
    exact ⟨u, by rw [b.cell (p := ⟨g, off + i * 3, none⟩) hb]; exact h4, by rw [b.cell (p := ⟨g, off + i * 3 + 1, none⟩) hb]; exact h5, by rw [b.cell (p := ⟨g, off + i * 3 + 2, none⟩) hb]; exact h6, h7.below b⟩
theorem MatS.drew {w : World} {v : Value} {L : List Mt} (h : MatS w v L) : MatS w.drew v L := h
theorem RawM.drew {w : World} {v : Value} {L : List Mt} (h : RawM w v L) : RawM w.drew v L := h
theorem RawM.cell {w : World} {a : Option Addr} {n cap : Nat} {L : List Mt} (h : RawM w (.slice a n cap) L) {i : Nat} (hi : i < L.length) :
    ∃ g off u, a = some ⟨g, off, none⟩ ∧ g < w.heap.size ∧ w.cell? ⟨g, off + i * 3, none⟩ = some (.int .i64 (mtG L i).1) ∧ w.cell? ⟨g, off + i * 3 + 1, none⟩ = some (.int .i64 (mtG L i).2.1) ∧ w.cell? ⟨g, off + i * 3 + 2, none⟩ = some u ∧ Raw w u (mtG L i).2.2 := by
  obtain ⟨a', cap', e, h1, h2, h3⟩ := h
  simp only [Value.slice.injEq] at e
  obtain ⟨rfl, rfl, rfl⟩ := e
  rcases h3 with rfl | ⟨g, off, rfl, hg, hc⟩
  · simp at hi
  · obtain ⟨u, h⟩ := hc i hi; exact ⟨g, off, u, rfl, hg, h⟩
theorem MatS.cell {w : World} {a : Option Addr} {n cap : Nat} {L : List Mt} (h : MatS w (.slice a n cap) L) {i : Nat} (hi : i < L.length) :
    ∃ g off u, a = some ⟨g, off, none⟩ ∧ g < w.heap.size ∧ w.cell? ⟨g, off + i * 3, none⟩ = some (.int .i64 (mtG L i).1) ∧ w.cell? ⟨g, off + i * 3 + 1, none⟩ = some (.int .i64 (mtG L i).2.1) ∧ w.cell? ⟨g, off + i * 3 + 2, none⟩ = some u ∧ Ints w u (mtG L i).2.2 := by
  obtain ⟨a', cap', e, h1, h2, h3⟩ := h
  simp only [Value.slice.injEq] at e
  obtain ⟨rfl, rfl, rfl⟩ := e
  rcases h3 with rfl | ⟨g, off, rfl, hg, hc⟩
  · simp at hi
  · obtain ⟨u, h⟩ := hc i hi; exact ⟨g, off, u, rfl, hg, h⟩
/-- the rows of cells -/
def mtR (L : List Mt) : List (List Int) := L.map (·.2.2)
theorem mtR_len (L : List Mt) : (mtR L).length = L.length := by simp [mtR]
theorem mtR_get {L : List Mt} {i : Nat} (h : i < L.length) : (mtR L).getD i [] = (mtG L i).2.2 := by simp [mtR, mtG, List.getD, h]
theorem mt_eq {la lb : List Mt} (h : la.length = lb.length) (hk : ∀ j, j < la.length → mtG la j = mtG lb j) : la = lb := by
  apply List.ext_getElem h
  intro i h1 h2
  have := hk i h1
  simpa [mtG, List.getD, h1, h2] using this
def MatNewS (L : List Mt) (w : World) (e : Ending) (w' : World) : Prop := ∃ v, e = .returned v ∧ MatS w' v L ∧ Below w.heap.size w w'

set_option maxRecDepth 100000 in
set_option maxHeartbeats 1000000 in
theorem l_szMatrixS (v : Value) (L : List Mt) (left : Int) (w : World) (hv : RawM w v L) (h0 : 0 ≤ left) (h1 : left ≤ 1048576) :
    Calls Try.prog 48 #[v, .int .i64 left] w (IntAnsC (szII left (mtR L)) w) := by
  obtain ⟨a, cap, rfl, hlc, hcm⟩ := hv.shape
  have HV := Lib.hid hv
  have hml := mtR_len L
  clear hv
  by_cases hlt : left < L.length
  · have HE := Lib.hid (show szII left (mtR L) = -1 from if_pos (by unfold szT; omega))
    clear hml
    go_enter Try.func48, Try.ntmps48
    go_wp2
    go_ret
    exact ⟨ret_int HE.out.symm, Below.refl _ _⟩
  · have HML := Lib.hid hml
    clear hml
    go_enter Try.func48, Try.ntmps48
    go_wp2
    go_loopw [1, 5] (fun l i wr => ∃ (k : Nat) (r : Int), k ≤ L.length ∧ i = .int .i64 k ∧ l = .int .i64 r ∧ 0 ≤ r ∧ r = left - L.length - (szU (mtR L) k : Int) ∧ Below w.heap.size w wr) (fun _ i _ => L.length - (intOf i).toNat)
    case atStart => exact ⟨0, left - L.length, Nat.zero_le _, rfl, rfl, by omega, by simp [szU], Below.refl _ _⟩
    case round =>
      obtain ⟨k, r, hk, rfl, rfl, hr0, hr, hbel⟩ := hrel
      have HR := Lib.hid hr
      have HBW := Lib.hid hbel
      have hr1 : r ≤ 1048576 := by omega
      clear hr hbel
      by_cases hkn : k < L.length
      · obtain ⟨g, off, u, rfl, hgs, hc0, hc1, hc2, hu⟩ := (HV.out.below HBW.out).cell hkn
        have hsu := szU_succ (ll := mtR L) (k := k) (by rw [HML.out]; exact hkn)
        have hmono := szU_le (ll := mtR L) (k + 1) L.length (by omega) (by rw [HML.out]; exact Nat.le_refl _)
        rw [mtR_get hkn] at hsu
        have HSU := Lib.hid hsu; have HMO := Lib.hid hmono
        obtain ⟨x0, hx0⟩ : ∃ x, x = (mtG L k).1 := ⟨_, rfl⟩
        obtain ⟨x1, hx1⟩ : ∃ x, x = (mtG L k).2.1 := ⟨_, rfl⟩
        obtain ⟨cs, hcs⟩ : ∃ x, x = (mtG L k).2.2 := ⟨_, rfl⟩
        rw [← hx0] at hc0; rw [← hx1] at hc1; rw [← hcs] at hu HSU
        have hcon := l_szMatrix x0 x1 u cs r wr hu hr0 hr1
        have hk0 : (0 : Int) ≤ (k : Int) := by omega
        have hk1 : (k : Int) < (L.length : Int) := by omega
        clear hx0 hx1 hcs hu hsu hmono
        by_cases hbad : r < cs.length
        · have e1 : szI r cs = -1 := if_pos hbad
          have HE := Lib.hid (show szII left (mtR L) = -1 from if_pos (by
            have := HR.out; have := HSU.out; have := HMO.out; have := HML.out
            unfold szT; rw [HML.out]; omega))
          rw [e1] at hcon
          clear e1 hbad
          go_wp2_with fail
          refine hcon.mono ?_; rintro e w' ⟨rfl, b1⟩
          have HB1 := Lib.hid (HBW.out.trans (b1.mono HBW.out.size))
          clear b1 hcon hc0 hc1 hc2
          go_wp2
          go_ret
          exact ⟨ret_int HE.out.symm, HB1.out⟩
        · obtain ⟨q, hq⟩ : ∃ q, szI r cs = q := ⟨_, rfl⟩
          have hq2 : q = r - cs.length := by rw [← hq]; exact if_neg hbad
          have hq0 : 0 ≤ q := by omega
          rw [hq] at hcon
          have HQ := Lib.hid hq2
          clear hq hq2 hbad
          go_wp2_with fail
          refine hcon.mono ?_; rintro e w' ⟨rfl, b1⟩
          have HB1 := Lib.hid (HBW.out.trans (b1.mono HBW.out.size))
          clear b1 hcon hc0 hc1 hc2
          go_wp2
          go_roundw
          case rel => exact ⟨k + 1, q, by omega, by go_num, rfl, hq0, by rw [HQ.out, HR.out, HSU.out]; simp; omega, HB1.out⟩
          case measure => simp [intOf]; omega
      · have HE := Lib.hid (show szII left (mtR L) = r by
          obtain rfl : k = L.length := by omega
          have := HR.out; have h2 := HML.out
          unfold szII szT
          rw [h2, if_neg (by omega)]; omega)
        go_wp2
        go_ret
        exact ⟨ret_int HE.out.symm, HBW.out⟩
end Go.Proofs.Ytmcjgaffecimlaa
