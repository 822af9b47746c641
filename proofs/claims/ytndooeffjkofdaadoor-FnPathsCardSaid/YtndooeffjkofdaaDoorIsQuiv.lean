/- IsQuiver, of the program and of the reference. -/
import Derived.Test.YtndooeffjkofdaaDoorPathV
import Derived.IntWalk
namespace Go.Proofs.YtndooeffjkofdaaDoor
open Go.RowKit
set_option linter.unusedVariables false
set_option linter.unusedSimpArgs false

def allR (l : List Int) (lo hi : Int) : Bool := l.all fun x => inR x lo hi
def isQ (n : Int) (f t : List Int) : Bool := inR n 1 5 && decide (f.length = t.length) && decide (f.length ≤ 6) && allR f 0 (n - 1) && allR t 0 (n - 1)

theorem allR_of {l : List Int} {lo hi : Int} (h : ∀ j, j < l.length → inR (l.getD j 0) lo hi = true) : allR l lo hi = true := by
  unfold allR
  rw [List.all_eq_true]
  intro x hx
  obtain ⟨j, hj, rfl⟩ := List.mem_iff_getElem.1 hx
  simpa [List.getD, hj] using h j hj
theorem allR_no {l : List Int} {lo hi : Int} {j : Nat} (hj : j < l.length) (h : inR (l.getD j 0) lo hi = false) : allR l lo hi = false := by
  unfold allR
  rw [List.all_eq_false]
  exact ⟨l[j], List.getElem_mem hj, by simpa [List.getD, hj] using h⟩
theorem wrapQ {n : Int} (h : inR n 1 5 = true) : IntKind.i64.wrap (n - 1) = n - 1 := by
  obtain ⟨a, b⟩ := inR_true h
  exact IntWalk.i64_in _ (by omega)
theorem isQ_no1 {n : Int} {f t : List Int} {j : Nat} (hj : j < f.length) (h : inR (f.getD j 0) 0 (IntKind.i64.wrap (n - 1)) = false) : isQ n f t = false := by
  cases hn : inR n 1 5
  · simp [isQ, hn]
  · rw [wrapQ hn] at h
    simp [isQ, hn, allR_no hj h]
theorem isQ_no2 {n : Int} {f t : List Int} {j : Nat} (hj : j < t.length) (h : inR (t.getD j 0) 0 (IntKind.i64.wrap (n - 1)) = false) : isQ n f t = false := by
  cases hn : inR n 1 5
  · simp [isQ, hn]
  · rw [wrapQ hn] at h
    simp [isQ, hn, allR_no hj h]

set_option maxRecDepth 100000 in
set_option maxHeartbeats 2000000 in
theorem s_IsQuiver (n : Int) (vf vt : Value) (lf lt : List Int) (w : World) (hf : Ints w vf lf) (ht : Ints w vt lt) :
    Calls Tryd.prog 46 #[.agg #[.int .i64 n, vf, vt]] w (BoolAnsB (isQ n lf lt) w) := by
  obtain ⟨a1, c1, rfl, hl1, hm1⟩ := hf.shape
  obtain ⟨a2, c2, rfl, hl2, hm2⟩ := ht.shape
  have h2 : Below w.heap.size w (w.alloc (.cells #[.int .i64 n, .slice a1 lf.length c1, .slice a2 lt.length c2] 26)) := (Below.refl _ w).alloc (Nat.le_refl _) _
  have P0 := Lib.hid (Blk.new w #[.int .i64 n, .slice a1 lf.length c1, .slice a2 lt.length c2] 26)
  have HF := Lib.hid (hf.below h2); have HT := Lib.hid (ht.below h2)
  have HLF := Lib.hid hf.lt; have HLT := Lib.hid ht.lt
  have H2 := Lib.hid h2
  clear hf ht h2
  obtain ⟨m, hm⟩ : ∃ m, IntKind.i64.wrap (n - 1) = m := ⟨_, rfl⟩
  have HM := Lib.hid hm
  clear hm
  go_enter Tryd.func46, Tryd.ntmps46
  go_wp2
  go_loopw [3] (fun i wr => ∃ k : Nat, k ≤ lf.length ∧ k ≤ lt.length ∧ i = .int .i64 k ∧ (∀ j, j < k → inR (lf.getD j 0) 0 m = true ∧ inR (lt.getD j 0) 0 m = true) ∧ Below (w.heap.size + 1) (w.alloc (.cells #[.int .i64 n, .slice a1 lf.length c1, .slice a2 lt.length c2] 26)) wr) (fun i _ => lf.length - (intOf i).toNat)
  case atStart => exact ⟨0, Nat.zero_le _, Nat.zero_le _, rfl, fun j hj => absurd hj (by omega), Below.refl _ _⟩
  case round =>
    obtain ⟨k, hk, hk', rfl, hno, hbel⟩ := hrel
    have HE := Lib.hid hno
    obtain ⟨r0, r1, r2⟩ := blk3 (P0.out.belowB hbel (by omega))
    by_cases hlt : k < lf.length
    · by_cases hlt2 : k < lt.length
      · have hi1 : (k : Int) < (lf.length : Int) := by omega
        have hi2 : (k : Int) < (lt.length : Int) := by omega
        have hi0 : (0 : Int) ≤ (k : Int) := by omega
        have hfr := HF.out.belowB hbel (fun q hq => by have := HLF.out q hq; omega)
        have htr := HT.out.belowB hbel (fun q hq => by have := HLT.out q hq; omega)
        obtain ⟨g, off, rfl, hgs, hc, _⟩ := hfr.cell hlt
        obtain ⟨g', off', rfl, hgs', hc', _⟩ := htr.cell hlt2
        obtain ⟨x, hx⟩ := elem_name lf k
        obtain ⟨y, hy⟩ := elem_name lt k
        rw [hx] at hc
        rw [hy] at hc'
        have HX := Lib.hid hx; have HY := Lib.hid hy; clear hx hy hno hfr htr
        have HM' := Lib.hid HM.out
        cases hq : inR x 0 m
        · have HA := Lib.hid (isQ_no1 (n := n) (t := lt) hlt (show inR (lf.getD k 0) 0 (IntKind.i64.wrap (n - 1)) = false by rw [HM.out, HX.out]; exact hq))
          have hm := HM.out
          go_wp2
          go_quiet ((go_at_call 45; exact Calls.quiet_of_same ((s_l1In _ _ _ _).mono fun _ _ h => ⟨h.1, h.2.symm⟩)))
          clear hm
          go_wp2
          go_ret
          exact ⟨ret_bool HA.out.symm, below_drewN (H2.out.trans (hbel.mono (by omega))) _⟩
        cases hq2 : inR y 0 m
        · have HA := Lib.hid (isQ_no2 (n := n) (f := lf) hlt2 (show inR (lt.getD k 0) 0 (IntKind.i64.wrap (n - 1)) = false by rw [HM.out, HY.out]; exact hq2))
          have hm := HM.out
          go_wp2
          go_quiet ((go_at_call 45; exact Calls.quiet_of_same ((s_l1In _ _ _ _).mono fun _ _ h => ⟨h.1, h.2.symm⟩)))
          clear hm
          go_wp2
          go_ret
          exact ⟨ret_bool HA.out.symm, below_drewN (H2.out.trans (hbel.mono (by omega))) _⟩
        · have hm := HM.out
          go_wp2
          go_quiet ((go_at_call 45; exact Calls.quiet_of_same ((s_l1In _ _ _ _).mono fun _ _ h => ⟨h.1, h.2.symm⟩)))
          clear hm
          go_wp2
          go_roundw
          case rel => exact ⟨k + 1, by omega, by omega, by go_num, fun j hj => by
            by_cases h : j = k
            · rw [h, HX.out, HY.out]; exact ⟨hq, hq2⟩
            · exact HE.out j (by omega), below_drewN hbel _⟩
          case measure => simp [intOf]; omega
      · have hn : isQ n lf lt = false := by
          have hne : lf.length ≠ lt.length := by omega
          simp [isQ, hne]
        have HA := Lib.hid hn
        have hd : ((lt.length : Int) == (lf.length : Int)) = false := by simp only [beq_eq_false_iff_ne]; omega
        have hi1 : (k : Int) < (lf.length : Int) := by omega
        have hi2 : decide (k < lt.length) = false := by simp only [decide_eq_false_iff_not]; omega
        clear hn hno hk hk' hlt hlt2
        cases hR : inR n 1 5
        · go_wp2_with fail
          refine (s_l1In _ _ _ _).mono ?_; rintro e wz ⟨rfl, rfl⟩
          go_wp2
          go_ret
          exact ⟨ret_bool HA.out.symm, H2.out.trans (hbel.mono (by omega))⟩
        · by_cases h6 : lf.length ≤ 6
          · go_wp2_with fail
            refine (s_l1In _ _ _ _).mono ?_; rintro e wz ⟨rfl, rfl⟩
            go_wp2
            go_ret
            exact ⟨ret_bool HA.out.symm, H2.out.trans (hbel.mono (by omega))⟩
          · have hd6 : decide ((lf.length : Int) ≤ 6) = false := by simp only [decide_eq_false_iff_not]; omega
            go_wp2_with fail
            refine (s_l1In _ _ _ _).mono ?_; rintro e wz ⟨rfl, rfl⟩
            go_wp2
            go_ret
            exact ⟨ret_bool HA.out.symm, H2.out.trans (hbel.mono (by omega))⟩
    · have hke : k = lf.length := by omega
      have hd0 : decide (k < lf.length) = false := by simp only [decide_eq_false_iff_not]; omega
      cases hR : inR n 1 5
      · have HA := Lib.hid (show isQ n lf lt = false by simp [isQ, hR])
        clear hno hk hk' hlt
        go_wp2_with fail
        refine (s_l1In _ _ _ _).mono ?_; rintro e wz ⟨rfl, rfl⟩
        go_wp2
        go_ret
        exact ⟨ret_bool HA.out.symm, H2.out.trans (hbel.mono (by omega))⟩
      by_cases h6 : lf.length ≤ 6
      · by_cases hq : lf.length = lt.length
        · have HA := Lib.hid (show isQ n lf lt = true by
            have e1 := wrapQ hR
            rw [HM.out] at e1
            have a1 := allR_of (l := lf) (lo := 0) (hi := n - 1) (fun j hj => by rw [← e1]; exact (HE.out j (by omega)).1)
            have a2 := allR_of (l := lt) (lo := 0) (hi := n - 1) (fun j hj => by rw [← e1]; exact (HE.out j (by omega)).2)
            simp [isQ, hR, h6, a1, a2, ← hq])
          have hd : ((lt.length : Int) == (lf.length : Int)) = true := by simp only [beq_iff_eq]; omega
          clear hno hk hk' hlt hke hq
          go_wp2_with fail
          refine (s_l1In _ _ _ _).mono ?_; rintro e wz ⟨rfl, rfl⟩
          go_wp2
          go_ret
          exact ⟨ret_bool HA.out.symm, H2.out.trans (hbel.mono (by omega))⟩
        · have HA := Lib.hid (show isQ n lf lt = false by simp [isQ, hq])
          have hd : ((lt.length : Int) == (lf.length : Int)) = false := by simp only [beq_eq_false_iff_ne]; omega
          clear hno hk hk' hlt hke hq
          go_wp2_with fail
          refine (s_l1In _ _ _ _).mono ?_; rintro e wz ⟨rfl, rfl⟩
          go_wp2
          go_ret
          exact ⟨ret_bool HA.out.symm, H2.out.trans (hbel.mono (by omega))⟩
      · have HA := Lib.hid (show isQ n lf lt = false by simp [isQ, h6])
        have hd6 : decide ((lf.length : Int) ≤ 6) = false := by simp only [decide_eq_false_iff_not]; omega
        clear hno hk hk' hlt hke
        go_wp2_with fail
        refine (s_l1In _ _ _ _).mono ?_; rintro e wz ⟨rfl, rfl⟩
        go_wp2
        go_ret
        exact ⟨ret_bool HA.out.symm, H2.out.trans (hbel.mono (by omega))⟩

set_option maxRecDepth 100000 in
set_option maxHeartbeats 2000000 in
theorem i_IsQuiver (n : Int) (vf vt : Value) (lf lt : List Int) (w : World) (hf : Ints w vf lf) (ht : Ints w vt lt) :
    Calls Tryd.prog 39 #[.agg #[.int .i64 n, vf, vt]] w (BoolAnsB (isQ n lf lt) w) := by
  obtain ⟨a1, c1, rfl, hl1, hm1⟩ := hf.shape
  obtain ⟨a2, c2, rfl, hl2, hm2⟩ := ht.shape
  have h2 : Below w.heap.size w (w.alloc (.cells #[.int .i64 n, .slice a1 lf.length c1, .slice a2 lt.length c2] 26)) := (Below.refl _ w).alloc (Nat.le_refl _) _
  have P0 := Lib.hid (Blk.new w #[.int .i64 n, .slice a1 lf.length c1, .slice a2 lt.length c2] 26)
  have HF := Lib.hid (hf.below h2); have HT := Lib.hid (ht.below h2)
  have H2 := Lib.hid h2
  clear hf ht h2
  cases hR : inR n 1 5
  · have HA := Lib.hid (show isQ n lf lt = false by simp [isQ, hR])
    go_enter Tryd.func39, Tryd.ntmps39
    go_wp2_with fail
    refine (i_within _ _ _ _).mono ?_; rintro e wz ⟨rfl, rfl⟩
    go_wp2
    go_ret
    exact ⟨ret_bool HA.out.symm, H2.out⟩
  by_cases hq : lf.length = lt.length
  rotate_left
  · have HA := Lib.hid (show isQ n lf lt = false by simp [isQ, hq])
    have hd : ((lf.length : Int) == (lt.length : Int)) = false := by simp only [beq_eq_false_iff_ne]; omega
    clear hq
    go_enter Tryd.func39, Tryd.ntmps39
    go_wp2_with fail
    refine (i_within _ _ _ _).mono ?_; rintro e wz ⟨rfl, rfl⟩
    go_wp2
    go_ret
    exact ⟨ret_bool HA.out.symm, H2.out⟩
  have hd : ((lf.length : Int) == (lt.length : Int)) = true := by simp only [beq_iff_eq]; omega
  by_cases h6 : lf.length ≤ 6
  rotate_left
  · have HA := Lib.hid (show isQ n lf lt = false by simp [isQ, h6])
    have hd6 : decide ((lf.length : Int) ≤ 6) = false := by simp only [decide_eq_false_iff_not]; omega
    clear hq
    go_enter Tryd.func39, Tryd.ntmps39
    go_wp2_with fail
    refine (i_within _ _ _ _).mono ?_; rintro e wz ⟨rfl, rfl⟩
    go_wp2
    go_ret
    exact ⟨ret_bool HA.out.symm, H2.out⟩
  obtain ⟨n1, n5⟩ := inR_true hR
  have HQ := Lib.hid (show isQ n lf lt = (allR lf 0 (n - 1) && allR lt 0 (n - 1)) by simp [isQ, hR, h6, ← hq])
  clear hq
  go_enter Tryd.func39, Tryd.ntmps39
  go_wp2_with fail
  refine (i_within _ _ _ _).mono ?_; rintro e wz ⟨rfl, rfl⟩
  go_wp2_with fail
  refine (i_allWithin _ lf _ _ _ HF.out).mono ?_; rintro e w1 ⟨rfl, b1⟩
  have hb3 := Lib.hid (below_call H2.out b1 H2.out.size)
  obtain ⟨r0, r1, r2⟩ := blk3 (P0.out.below b1)
  have HT1 := Lib.hid (HT.out.below b1)
  cases ha : (lf.all fun x => inR x 0 (n - 1))
  · have HA := Lib.hid (show isQ n lf lt = false by rw [HQ.out]; unfold allR; rw [ha]; rfl)
    go_wp2
    go_ret
    exact ⟨ret_bool HA.out.symm, hb3.out⟩
  · go_wp2_with fail
    refine (i_allWithin _ lt _ _ _ HT1.out).mono ?_; rintro e w2 ⟨rfl, b2⟩
    have hb4 := Lib.hid (below_call hb3.out b2 hb3.out.size)
    have HA := Lib.hid (show isQ n lf lt = (lt.all fun x => inR x 0 (n - 1)) by rw [HQ.out]; unfold allR; rw [ha]; rfl)
    generalize (lt.all fun x => inR x 0 (n - 1)) = b at HA
    cases b
    · go_wp2
      go_ret
      exact ⟨ret_bool HA.out.symm, hb4.out⟩
    · go_wp2
      go_ret
      exact ⟨ret_bool HA.out.symm, hb4.out⟩

end Go.Proofs.YtndooeffjkofdaaDoor
