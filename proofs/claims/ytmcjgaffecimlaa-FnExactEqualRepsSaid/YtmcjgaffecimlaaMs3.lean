/- Slices of matrices: the laws' copy. -/
import Derived.Test.YtmcjgaffecimlaaMs2
namespace Go.Proofs.Ytmcjgaffecimlaa
open Go.RowKit
set_option linter.unusedVariables false
set_option linter.unusedSimpArgs false

/-- a slice of matrices all of whose blocks lie from B on -/
def MatF (B : Nat) (w : World) (v : Value) (L : List Mt) : Prop :=
  ∃ a cap, v = .slice a L.length cap ∧ L.length ≤ cap ∧ cap ≤ 9223372036854775807 ∧
    (L = [] ∨ ∃ g off, a = some ⟨g, off, none⟩ ∧ B ≤ g ∧ g < w.heap.size ∧ ∀ i, i < L.length → ∃ u, w.cell? ⟨g, off + i * 3, none⟩ = some (.int .i64 (mtG L i).1) ∧ w.cell? ⟨g, off + i * 3 + 1, none⟩ = some (.int .i64 (mtG L i).2.1) ∧ w.cell? ⟨g, off + i * 3 + 2, none⟩ = some u ∧ Ints w u (mtG L i).2.2 ∧ FreshV B u)
theorem MatF.mats {B : Nat} {w : World} {v : Value} {L : List Mt} (h : MatF B w v L) : MatS w v L := by
  obtain ⟨a, cap, rfl, h1, h2, h3 | ⟨g, off, rfl, _, hg, hc⟩⟩ := h
  · exact ⟨a, cap, rfl, h1, h2, .inl h3⟩
  · exact ⟨_, cap, rfl, h1, h2, .inr ⟨g, off, rfl, hg, fun i hi => by obtain ⟨u, a, b, c, d, _⟩ := hc i hi; exact ⟨u, a, b, c, d⟩⟩⟩
theorem MatF.set {B : Nat} {w : World} {v : Value} {L : List Mt} (h : MatF B w v L) {b : Nat} (hb : b < B) (j : Nat) (x : Value) : MatF B (w.setCell ⟨b, j, none⟩ x) v L := by
  obtain ⟨a, cap, rfl, h1, h2, h3 | ⟨g, off, rfl, hB, hg, hc⟩⟩ := h
  · exact ⟨a, cap, rfl, h1, h2, .inl h3⟩
  · have hs := ((Chg.refl (fun q => q = b) w).setCell (p := ⟨b, j, none⟩) rfl x).size
    refine ⟨_, cap, rfl, h1, h2, .inr ⟨g, off, rfl, hB, by omega, fun i hi => ?_⟩⟩
    obtain ⟨u, c0, c1, c2, hu, hf⟩ := hc i hi
    have hne : ∀ o : Nat, (⟨b, j, none⟩ : Addr) ≠ ⟨g, o, none⟩ := fun o e => by have := congrArg Addr.block e; simp only at this; omega
    have hk : ∀ (o : Nat) y, w.cell? ⟨g, o, none⟩ = some y → (w.setCell ⟨b, j, none⟩ x).cell? ⟨g, o, none⟩ = some y := fun o y hy => by
      rw [World.cell?_setCell_other _ _ _ _ (fun e => by have := congrArg Addr.block e; simp only at this; omega)]; exact hy
    exact ⟨u, hk _ _ c0, hk _ _ c1, hk _ _ c2, hu.keep fun q hq => heap_setCell_other w ⟨b, j, none⟩ q x (by have := hf q hq; show q ≠ b; omega), hf⟩
def MatNewF (L : List Mt) (w : World) (e : Ending) (w' : World) : Prop := ∃ v, e = .returned v ∧ MatF w.heap.size w' v L ∧ Below w.heap.size w w'
theorem infoMat : (Try.prog.info? 26).map (fun i => (i.zero, i.size, i.bytes)) = some (some (.agg #[.int .i64 0, .int .i64 0, .slice none 0 0]), 3, 40) := by kernel_rfl
theorem run_make_mats (n : Nat) (hn : n ≤ 1048576) (w : World) : ∃ Z : Array Value, Z.size = n * 3 ∧ (Instr.makeSlice 51 (.int .i64 n) (.int .i64 n)).run Try.prog w =
    .ok (.slice (some ⟨w.heap.size, 0, none⟩) n n) (w.alloc (.cells Z 26)) := by
  obtain ⟨i, hi, h0, h1, h2⟩ := info_parts infoMat
  have h := run_make (P := Try.prog) w 51 26 i (.agg #[.int .i64 0, .int .i64 0, .slice none 0 0]) Try.underlying51 hi h0 .i64 .i64 n n (by omega) (Int.le_refl _) (by rw [h2]; omega) (by omega)
  rw [h1] at h
  refine ⟨_, ?_, by simpa using h⟩
  simp [size_madeCells]
/-- the first k matrices stand in the block g -/
def MI (w : World) (g n k : Nat) (L : List Mt) : Prop :=
  ∃ cur, Blk w g cur 26 ∧ cur.size = n * 3 ∧ ∀ i, i < k → ∃ u, cur[i * 3]? = some (.int .i64 (mtG L i).1) ∧ cur[i * 3 + 1]? = some (.int .i64 (mtG L i).2.1) ∧ cur[i * 3 + 2]? = some u ∧ Ints w u (mtG L i).2.2 ∧ FreshV (g + 1) u
theorem MI.below {w w' : World} {g n k : Nat} {L : List Mt} (h : MI w g n k L) (b : Below w.heap.size w w') : MI w' g n k L := by
  obtain ⟨cur, h1, h2, h3⟩ := h
  refine ⟨cur, h1.below b, h2, fun i hi => ?_⟩
  obtain ⟨u, a, c, d, e, f⟩ := h3 i hi
  exact ⟨u, a, c, d, e.below b, f⟩
theorem MI.cells {w : World} {g n k j : Nat} {L : List Mt} (h : MI w g n k L) (hj : j < n * 3) : (∃ y, w.cell? ⟨g, j, none⟩ = some y) ∧ w.frozen? ⟨g, j, none⟩ = false := by
  obtain ⟨cur, h1, h2, _⟩ := h
  refine ⟨?_, h1.frozen j⟩
  rw [h1.cell j, Array.getElem?_eq_getElem (by omega)]
  exact ⟨_, rfl⟩
theorem MI.store {w : World} {g n k : Nat} {L : List Mt} {r c : Int} {v : Value} (h : MI w g n k L) (hk : k < n) (hr : (mtG L k).1 = r) (hc : (mtG L k).2.1 = c) (hv : Ints w v (mtG L k).2.2) (hf : FreshV (g + 1) v) :
    MI (((w.setCell ⟨g, k * 3, none⟩ (.int .i64 r)).setCell ⟨g, k * 3 + 1, none⟩ (.int .i64 c)).setCell ⟨g, k * 3 + 2, none⟩ v) g n (k + 1) L := by
  obtain ⟨cur, h1, h2, h3⟩ := h
  have keep : ∀ u l, Ints w u l → FreshV (g + 1) u → Ints (((w.setCell ⟨g, k * 3, none⟩ (.int .i64 r)).setCell ⟨g, k * 3 + 1, none⟩ (.int .i64 c)).setCell ⟨g, k * 3 + 2, none⟩ v) u l := fun u l hu hf => hu.keep fun q hq => by
    have := hf q hq
    have hne : q ≠ g := by omega
    rw [heap_setCell_other _ ⟨g, k * 3 + 2, none⟩ q _ hne, heap_setCell_other _ ⟨g, k * 3 + 1, none⟩ q _ hne, heap_setCell_other _ ⟨g, k * 3, none⟩ q _ hne]
  refine ⟨_, ((h1.set (k * 3) (.int .i64 r)).set (k * 3 + 1) (.int .i64 c)).set (k * 3 + 2) v, by simp [h2], fun i hi => ?_⟩
  by_cases e : i = k
  · subst e
    refine ⟨v, ?_, ?_, ?_, keep v _ hv hf, hf⟩
    · rw [Array.getElem?_setIfInBounds_ne (by omega), Array.getElem?_setIfInBounds_ne (by omega), Array.getElem?_setIfInBounds_self_of_lt (by omega), hr]
    · rw [Array.getElem?_setIfInBounds_ne (by omega), Array.getElem?_setIfInBounds_self_of_lt (by simp; omega), hc]
    · rw [Array.getElem?_setIfInBounds_self_of_lt (by simp; omega)]
  · obtain ⟨u, a, c', d, e', f⟩ := h3 i (by omega)
    refine ⟨u, ?_, ?_, ?_, keep u _ e' f, f⟩
    · rw [Array.getElem?_setIfInBounds_ne (by omega), Array.getElem?_setIfInBounds_ne (by omega), Array.getElem?_setIfInBounds_ne (by omega)]; exact a
    · rw [Array.getElem?_setIfInBounds_ne (by omega), Array.getElem?_setIfInBounds_ne (by omega), Array.getElem?_setIfInBounds_ne (by omega)]; exact c'
    · rw [Array.getElem?_setIfInBounds_ne (by omega), Array.getElem?_setIfInBounds_ne (by omega), Array.getElem?_setIfInBounds_ne (by omega)]; exact d
theorem MI.mats {w : World} {g n : Nat} {L : List Mt} (h : MI w g n n L) (hn : n = L.length) (hm : n ≤ 1048576) : MatF g w (.slice (some ⟨g, 0, none⟩) n n) L := by
  subst hn
  obtain ⟨cur, h1, h2, h3⟩ := h
  refine ⟨_, _, rfl, Nat.le_refl _, by omega, .inr ⟨g, 0, rfl, Nat.le_refl _, h1.lt, fun i hi => ?_⟩⟩
  obtain ⟨u, a, c, d, e, f⟩ := h3 i hi
  refine ⟨u, ?_, ?_, ?_, e, f.mono (by omega)⟩
  · rw [Nat.zero_add, h1.cell]; exact a
  · rw [Nat.zero_add, h1.cell]; exact c
  · rw [Nat.zero_add, h1.cell]; exact d
theorem szT_mt {L : List Mt} {k : Nat} (h : k < L.length) (hs : szT (mtR L) ≤ 1048576) : (mtG L k).2.2.length ≤ 1048576 := by
  have := (szT_row (ll := mtR L) (k := k) (by rw [mtR_len]; exact h)).1
  rw [mtR_get h] at this
  omega
set_option maxRecDepth 100000 in
set_option maxHeartbeats 1000000 in
theorem l_toMatrixS (v : Value) (L : List Mt) (w : World) (hv : RawM w v L) (hs : szT (mtR L) ≤ 1048576) :
    Calls Try.prog 53 #[v] w (MatNewF L w) := by
  obtain ⟨a, cap, rfl, hlc, hcm⟩ := hv.shape
  have HV := Lib.hid hv
  have hn : L.length ≤ 1048576 := by unfold szT at hs; rw [mtR_len] at hs; omega
  have HSZ := Lib.hid hs
  obtain ⟨Z, hZ, hmk⟩ := run_make_mats L.length hn w
  have hbZ : Below w.heap.size w (w.alloc (.cells Z 26)) := (Below.refl _ w).alloc (Nat.le_refl _) _
  have HI0 : Hid (MI (w.alloc (.cells Z 26)) w.heap.size L.length 0 L) := ⟨Z, Blk.new w Z _, hZ, fun i hi => absurd hi (by omega)⟩
  have HBZ := Lib.hid hbZ
  clear hv hs hZ hbZ
  go_enter Try.func53, Try.ntmps53
  go_wp2
  clear hmk
  go_loopw [4] (fun i wr => ∃ k : Nat, k ≤ L.length ∧ i = .int .i64 k ∧ Hid (MI wr w.heap.size L.length k L) ∧ Hid (Below w.heap.size w wr)) (fun i _ => L.length - (intOf i).toNat)
  case atStart => exact ⟨0, Nat.zero_le _, rfl, HI0, HBZ⟩
  case round =>
    obtain ⟨k, hk, rfl, HI, HBW⟩ := hrel
    by_cases hlt : k < L.length
    · obtain ⟨g, off, u, rfl, hgs, hc0, hc1, hc2, hu⟩ := (HV.out.below HBW.out).cell hlt
      obtain ⟨x0, hx0⟩ : ∃ x, (mtG L k).1 = x := ⟨_, rfl⟩
      obtain ⟨x1, hx1⟩ : ∃ x, (mtG L k).2.1 = x := ⟨_, rfl⟩
      obtain ⟨cs, hcs⟩ : ∃ x, (mtG L k).2.2 = x := ⟨_, rfl⟩
      have hcl := szT_mt hlt HSZ.out
      rw [hx0] at hc0; rw [hx1] at hc1; rw [hcs] at hu hcl
      have hcon := l_toMatrix x0 x1 u cs wr hu hcl
      have HX := Lib.hid (And.intro hx0 (And.intro hx1 hcs))
      have hk0 : (0 : Int) ≤ (k : Int) := by omega
      have hk1 : (k : Int) < (L.length : Int) := by omega
      clear hx0 hx1 hcs hu hcl
      go_wp2_with fail
      refine hcon.mono ?_; rintro e w2 ⟨v2, rfl, hv2, hf2, b2⟩
      obtain ⟨a2, cc2, rfl, _, _⟩ := hv2.shape
      have HI2 := Lib.hid (HI.out.below b2)
      obtain ⟨⟨y0, d0⟩, f0⟩ := HI2.out.cells (j := k * 3) (by omega)
      obtain ⟨⟨y1, d1⟩, f1⟩ := HI2.out.cells (j := k * 3 + 1) (by omega)
      obtain ⟨⟨y2, d2⟩, f2⟩ := HI2.out.cells (j := k * 3 + 2) (by omega)
      have hgw : w.heap.size < wr.heap.size := by
        obtain ⟨cur, h1, _⟩ := HI.out
        exact h1.lt
      have HI3 := Lib.hid (HI2.out.store hlt HX.out.1 HX.out.2.1 (by rw [HX.out.2.2]; exact hv2) (hf2.mono hgw))
      have hb3 := HBW.out.trans (b2.mono HBW.out.size)
      have HB3 := Lib.hid (((hb3.setCell (p := ⟨w.heap.size, k * 3, none⟩) (Nat.le_refl _) (.int .i64 x0)).setCell (p := ⟨w.heap.size, k * 3 + 1, none⟩) (Nat.le_refl _) (.int .i64 x1)).setCell (p := ⟨w.heap.size, k * 3 + 2, none⟩) (Nat.le_refl _) (.slice a2 cs.length cc2))
      clear hc0 hc1 hc2 hcon hv2 hf2 b2 hb3
      go_wp2
      go_roundw
      case rel => exact ⟨k + 1, by omega, by go_num, HI3, HB3⟩
      case measure => simp [intOf]; omega
    · have HQ := Lib.hid (show MatF w.heap.size wr (.slice (some ⟨w.heap.size, 0, none⟩) L.length L.length) L from by
        obtain rfl : k = L.length := by omega
        exact HI.out.mats rfl hn)
      go_wp2
      go_ret
      exact ⟨_, rfl, HQ.out, HBW.out⟩
end Go.Proofs.Ytmcjgaffecimlaa
