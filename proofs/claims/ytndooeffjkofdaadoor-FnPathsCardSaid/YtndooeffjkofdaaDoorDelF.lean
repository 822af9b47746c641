/- slices.DeleteFunc on a slice of paths that the call owns. -/
import Derived.Test.YtndooeffjkofdaaDoorPtsS
namespace Go.Proofs.YtndooeffjkofdaaDoor
open Go.RowKit
set_option linter.unusedVariables false
set_option linter.unusedSimpArgs false

theorem grown_below {w w' : World} {row : Option Nat} (b : Below w.heap.size w w') : w.grownBy w' row := ⟨b.os, b.tape, b.output, b.size, fun i hi _ => b.block i hi⟩
theorem grown_set {w : World} {g i : Nat} (u : Value) : w.grownBy (w.setCell ⟨g, i, none⟩ u) (some g) := by
  have c := (Chg.refl (fun k => k = g) w).setCell (p := ⟨g, i, none⟩) rfl u
  exact ⟨c.os, c.tape, c.output, c.size, fun k hk hne => c.block k hk (fun e => hne (by rw [e]))⟩
theorem grown_cells {g : Nat} : ∀ (vs : List Value) (o : Nat) (w : World), w.grownBy (w.setCells g o vs) (some g)
  | [], _, w => World.grownBy.refl w _
  | v :: vs, o, w => (grown_set v).trans (grown_cells vs (o + 1) _)
theorem take_filter {g : Pt → Bool} {L : List Pt} {k : Nat} (hk : k < L.length) (hg : g (L.getD k (0, [])) = true) (h : ∀ i, i < k → g (L.getD i (0, [])) = false) : L.take k = (L.take (k + 1)).filter (fun p => !g p) := by
  have h1 : ∀ m, m ≤ k → (L.take m).filter (fun p => !g p) = L.take m := by
    intro m
    induction m with
    | zero => intro _; simp
    | succ m ih =>
      intro hm
      rw [List.take_add_one, List.filter_append, ih (by omega), List.getElem?_eq_getElem (by omega)]
      have := h m (by omega)
      simp only [List.getD, List.getElem?_eq_getElem (show m < L.length by omega), Option.getD_some] at this
      simp [this]
  rw [List.take_add_one, List.filter_append, h1 k (Nat.le_refl _), List.getElem?_eq_getElem hk]
  simp only [List.getD, List.getElem?_eq_getElem hk, Option.getD_some] at hg
  simp [hg]
/-- what the rounds keep: the first i are the chosen ones of the first j; behind j all is as it was -/
def delI (g : Pt → Bool) (L : List Pt) (i j : Nat) (L' : List Pt) : Prop := i < j ∧ j ≤ L.length ∧ L'.length = L.length ∧ L'.take i = (L.take j).filter (fun p => !g p) ∧ L'.drop j = L.drop j
theorem delI_start {g : Pt → Bool} {L : List Pt} {k : Nat} (hk : k < L.length) (hg : g (L.getD k (0, [])) = true) (h : ∀ i, i < k → g (L.getD i (0, [])) = false) : delI g L k (k + 1) L :=
  ⟨by omega, by omega, rfl, take_filter hk hg h, rfl⟩
theorem delI_get {g : Pt → Bool} {L L' : List Pt} {i j : Nat} (h : delI g L i j L') (hj : j < L.length) : L'.getD j (0, []) = L.getD j (0, []) := by
  have h2 := congrArg (fun l => l[0]?) h.2.2.2.2
  simp only [List.getElem?_drop, Nat.add_zero] at h2
  simp [List.getD, h2]
theorem delI_skip {g : Pt → Bool} {L L' : List Pt} {i j : Nat} (h : delI g L i j L') (hj : j < L.length) (hg : g (L.getD j (0, [])) = true) : delI g L i (j + 1) L' := by
  refine ⟨by have := h.1; omega, by omega, h.2.2.1, ?_, ?_⟩
  · rw [h.2.2.2.1, List.take_add_one, List.filter_append, List.getElem?_eq_getElem hj]
    simp only [List.getD, List.getElem?_eq_getElem hj, Option.getD_some] at hg
    simp [hg]
  · have := congrArg (fun l => l.drop 1) h.2.2.2.2
    simpa [List.drop_drop] using this
theorem delI_put {g : Pt → Bool} {L L' : List Pt} {i j : Nat} (h : delI g L i j L') (hj : j < L.length) (hg : g (L.getD j (0, [])) = false) : delI g L (i + 1) (j + 1) (L'.set i (L.getD j (0, []))) := by
  have hij := h.1
  refine ⟨by omega, by omega, by rw [List.length_set]; exact h.2.2.1, ?_, ?_⟩
  · rw [List.take_add_one, List.take_set_of_le (Nat.le_refl _), h.2.2.2.1, List.take_add_one, List.filter_append, List.getElem?_eq_getElem hj]
    simp only [List.getD, List.getElem?_eq_getElem hj, Option.getD_some] at hg ⊢
    rw [List.getElem?_set_self (by have := h.2.2.1; omega)]
    simp [hg]
  · rw [List.drop_set_of_lt (by omega)]
    have := congrArg (fun l => l.drop 1) h.2.2.2.2
    simpa [List.drop_drop] using this

set_option maxRecDepth 100000 in
set_option maxHeartbeats 4000000 in
theorem DeleteFunc_pts (K : FuncId) (cs : Array Value) (g : Pt → Bool) (B : Nat) (v : Value) (L : List Pt) (w : World) (hv : OwnP w B v L) (hsm : L.length ≤ 1048576)
    (hfn : ∀ args w, (callFunc K args).run Tryd.prog w = .ok (.enter K args) w)
    (hcall : ∀ i u w', i < L.length → w.grownBy w' v.ownBlock → Ints w' u (L.getD i (0, [])).2 → Calls Tryd.prog K (#[.agg #[.int .i64 (L.getD i (0, [])).1, u]] ++ cs) w' (BoolAnsB (g (L.getD i (0, []))) w')) :
    Calls Tryd.prog 60 #[v, .func (.func K) #[] cs] w
      (fun e w' => ∃ v', e = .returned v' ∧ OwnP w' B v' (L.filter (fun p => !g p)) ∧ (∀ q, v'.ownBlock = some q → v.ownBlock = some q) ∧ w.grownBy w' v.ownBlock) := by
  have HI := Lib.hid (IndexFunc_pts K cs g B v L w hv hsm hfn (fun i u w' hi hb hu => hcall i u w' hi (grown_below hb) hu))
  obtain ⟨a, c, rfl, hlc, hcm⟩ := hv.shape
  have HV := Lib.hid hv; have HC := Lib.hid hcall
  clear hv hcall
  go_enter Tryd.func60, Tryd.ntmps60
  go_wp2_with fail
  refine HI.out.mono ?_; rintro e w1 ⟨r, rfl, hf, b1⟩
  have HB1 := Lib.hid (grown_below (row := (Value.slice a L.length c).ownBlock) b1)
  have HO1 := Lib.hid (HV.out.below b1)
  clear b1
  rcases hf with ⟨rfl, hno⟩ | ⟨k, rfl, hkl, hgk, hbef⟩
  · have HQ := Lib.hid (show OwnP w1 B (.slice a L.length c) (L.filter (fun p => !g p)) by
      rw [List.filter_eq_self.2 (fun p hp => by
        obtain ⟨i, hi, rfl⟩ := List.mem_iff_getElem.1 hp
        have := hno i hi
        simp only [List.getD, List.getElem?_eq_getElem hi, Option.getD_some] at this
        simp [this])]
      exact HO1.out)
    clear hno
    go_wp2
    go_ret
    exact ⟨_, rfl, HQ.out, fun q hq => hq, HB1.out⟩
  have HST := Lib.hid (delI_start hkl hgk hbef)
  obtain ⟨g0, us, cur, rfl, hb0, _, hg0, hlc0, hcm0, hcs0, _, _⟩ := HO1.out.block (by omega)
  have hne : ((k : Int) == -1) = false := by simp only [beq_eq_false_iff_ne]; omega
  have hcm1 : c ≤ 9223372036854775807 := hcm
  clear hgk hbef hg0 hcs0 hcm0 hlc0
  go_wp2
  go_loopw [5, 6] (fun s6 s7 wr => ∃ (i j : Nat) (L' : List Pt), s6 = .int .i64 i ∧ s7 = .int .i64 j ∧ Hid (delI g L i j L') ∧ OwnP wr B (.slice (some ⟨g0, 0, none⟩) L.length c) L' ∧ w.grownBy wr (some g0)) (fun _ s7 _ => L.length - (intOf s7).toNat)
  case atStart => exact ⟨k, k + 1, L, rfl, by go_num, HST, HO1.out, HB1.out⟩
  case round =>
    obtain ⟨i, j, L', rfl, rfl, HD, ho, hgr⟩ := hrel
    have HO := Lib.hid ho; have HG := Lib.hid hgr
    have hij := HD.out.1
    have hjL := HD.out.2.1
    have hll := HD.out.2.2.1
    clear hgr
    by_cases hlt : j < L.length
    · obtain ⟨g1, u, e, _, hgs, hc0, hc1, hu, hfu⟩ := ho.cell (i := j) (by rw [hll]; exact hlt)
      simp only [Option.some.injEq, Addr.mk.injEq, and_true] at e
      subst e
      rw [delI_get HD.out hlt] at hc0 hu
      have HCk := Lib.hid (fun w' hw' hi' => HC.out j u w' hlt hw' hi')
      obtain ⟨st, hst⟩ : ∃ st, st = (L.getD j (0, [])).1 := ⟨_, rfl⟩
      obtain ⟨ar, har⟩ : ∃ ar, ar = (L.getD j (0, [])).2 := ⟨_, rfl⟩
      have HPR := Lib.hid (show L.getD j (0, []) = (st, ar) by rw [hst, har])
      rw [← hst] at hc0 HCk
      rw [← har] at hu HCk
      obtain ⟨aU, cU, rfl, _, _⟩ := hu.shape
      have hal : Below wr.heap.size wr (wr.alloc (.cells #[.int .i64 st, .slice aU ar.length cU] 28)) := (Below.refl _ wr).alloc (Nat.le_refl _) _
      have HCA := Lib.hid (HCk.out _ (HG.out.trans (grown_below hal)) (hu.below hal))
      have HA := Lib.hid hal
      have P0 := Lib.hid (Blk.new wr #[.int .i64 st, .slice aU ar.length cU] 28)
      have HU := Lib.hid hu; have HFU := Lib.hid hfu
      have hk0 : (0 : Int) ≤ (j : Int) := by omega
      have hk1 : (j : Int) < (L.length : Int) := by omega
      have hi0 : (0 : Int) ≤ (i : Int) := by omega
      have hi1 : (i : Int) < (L.length : Int) := by omega
      obtain ⟨p0, p1⟩ := blk2 P0.out
      clear hst har hu hfu hal ho HCk
      cases hg : g (L.getD j (0, []))
      · rw [hg] at HCA
        have HD2 := Lib.hid (delI_put HD.out hlt hg)
        rw [HPR.out] at HD2
        clear hg
        go_wp2_with fail
        refine HCA.out.mono ?_; rintro e w3 ⟨rfl, b3⟩
        have hb := HA.out.trans (b3.mono HA.out.size)
        have ho3 := HO.out.below hb
        have hu3 := HU.out.below hb
        have HG3 := Lib.hid (HG.out.trans (grown_below (row := some g0) hb))
        obtain ⟨g1, v1, e1, _, _, d0, d1, _, _⟩ := ho3.cell (i := i) (by omega)
        simp only [Option.some.injEq, Addr.mk.injEq, and_true] at e1
        subst e1
        obtain ⟨f0, f1⟩ : w3.frozen? ⟨g0, i * 2, none⟩ = false ∧ w3.frozen? ⟨g0, i * 2 + 1, none⟩ = false := by
          obtain ⟨_, _, cur, e2, _, _, hcur, _⟩ := ho3.block (by omega)
          simp only [Option.some.injEq, Addr.mk.injEq, and_true] at e2
          subst e2
          exact ⟨by simp [World.frozen?, hcur], by simp [World.frozen?, hcur]⟩
        have HO3 := Lib.hid (ho3.setAt (i := i) (by omega) (st := st) hu3 HFU.out)
        have HG4 := Lib.hid ((HG3.out.trans (grown_set (i := i * 2) (.int .i64 st))).trans (grown_set (i := i * 2 + 1) (.slice aU ar.length cU)))
        have P3 := P0.out.below b3
        obtain ⟨q0, q1⟩ := blk2 P3
        clear b3 hb ho3 hu3 P3 p0 p1 hc0 hc1
        go_wp2
        go_roundw
        case rel => exact ⟨i + 1, j + 1, _, by go_num, by go_num, HD2, HO3.out, HG4.out⟩
        case measure => simp [intOf]; omega
      · rw [hg] at HCA
        have HD2 := Lib.hid (delI_skip HD.out hlt hg)
        clear hg
        go_wp2_with fail
        refine HCA.out.mono ?_; rintro e w3 ⟨rfl, b3⟩
        have hb := HA.out.trans (b3.mono HA.out.size)
        have HO3 := Lib.hid (HO.out.below hb)
        have HG3 := Lib.hid (HG.out.trans (grown_below (row := some g0) hb))
        clear b3 hb p0 p1 hc0 hc1
        go_wp2
        go_roundw
        case rel => exact ⟨i, j + 1, L', rfl, by go_num, HD2, HO3.out, HG3.out⟩
        case measure => simp [intOf]; omega
    · obtain ⟨zs, hclr⟩ := run_clear_pts wr (i := i) (m := L.length - i) ho (by omega) (by omega)
      have hs := ho.shrink (w' := wr.setCells g0 (i * 2) zs) (by omega) (i := i) (by omega) (fun cur hcur => setCells_row zs (i * 2) wr cur hcur) (fun k hk hne => World.heap_setCells_other wr g0 (i * 2) zs hk hne)
      have hj : j = L.length := by omega
      have hd := HD.out.2.2.2.1
      rw [hj, List.take_length] at hd
      rw [hd] at hs
      have HS := Lib.hid hs
      have HG2 := Lib.hid (HG.out.trans (grown_cells zs (i * 2) wr))
      have hi0 : (0 : Int) ≤ (i : Int) := by omega
      have hi1 : (i : Int) ≤ (L.length : Int) := by omega
      have hic : i ≤ c := by omega
      clear hs hd hj ho
      go_wp2
      go_ret
      exact ⟨_, rfl, HS.out, fun q hq => hq, HG2.out⟩
end Go.Proofs.YtndooeffjkofdaaDoor
