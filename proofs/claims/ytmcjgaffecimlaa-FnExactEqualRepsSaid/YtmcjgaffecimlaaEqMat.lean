/- slices.Equal at integers; EqualMatrices, of the program and of the reference. -/
import Derived.Test.YtmcjgaffecimlaaMat2
import Derived.Test.YtmcjgaffecimlaaEqual
namespace Go.Proofs.Ytmcjgaffecimlaa
open Go.RowKit
set_option linter.unusedVariables false
set_option linter.unusedSimpArgs false

set_option maxRecDepth 100000 in
set_option maxHeartbeats 1000000 in
theorem i_EqualMatrices (r c r' c' : Int) (va vb : Value) (la lb : List Int) (w : World) (ha : Ints w va la) (hb : Ints w vb lb) :
    Calls Try.prog 56 #[.agg #[.int .i64 r, .int .i64 c, va], .agg #[.int .i64 r', .int .i64 c', vb]] w (BoolAnsB (eqM r c la r' c' lb) w) := by
  obtain ⟨a, cap, rfl, hlc, hcm⟩ := ha.shape
  obtain ⟨b, capb, rfl, hlcb, hcmb⟩ := hb.shape
  have h2 : Below w.heap.size w ((w.alloc (.cells #[.int .i64 r, .int .i64 c, .slice a la.length cap] 26)).alloc (.cells #[.int .i64 r', .int .i64 c', .slice b lb.length capb] 26)) :=
    ((Below.refl _ w).alloc (Nat.le_refl _) _).alloc (by simp) _
  have HA := Lib.hid (ha.below h2)
  have HB := Lib.hid (hb.below h2)
  have H2 := Lib.hid h2
  clear ha hb h2
  by_cases e1 : r = r'
  · by_cases e2 : c = c'
    · have HE := Lib.hid (show eqM r c la r' c' lb = decide (la = lb) by simp [eqM, e1, e2])
      subst e1; subst e2
      go_enter Try.func56, Try.ntmps56
      go_wp2_with fail
      refine (Equal_ints _ _ la lb _ HA.out HB.out).mono ?_; rintro e w1 ⟨rfl, b1⟩
      have hb3 := Lib.hid (below_call H2.out b1 H2.out.size)
      by_cases hq : la = lb
      · have hqd : decide (la = lb) = true := by simpa using hq
        have HQ := Lib.hid hq; clear hq
        go_wp2
        go_ret
        exact ⟨ret_bool (by rw [HE.out]; simpa using HQ.out), hb3.out⟩
      · have hqd : decide (la = lb) = false := by simpa using hq
        have HQ := Lib.hid hq; clear hq
        go_wp2
        go_ret
        exact ⟨ret_bool (by rw [HE.out]; simpa using HQ.out), hb3.out⟩
    · have HE := Lib.hid (show eqM r c la r' c' lb = false by simp [eqM, e2])
      have hb2 : (c == c') = false := by simpa using e2
      subst e1
      clear e2
      go_enter Try.func56, Try.ntmps56
      go_wp2
      go_ret
      exact ⟨ret_bool HE.out.symm, H2.out⟩
  · have HE := Lib.hid (show eqM r c la r' c' lb = false by simp [eqM, e1])
    have hb2 : (r == r') = false := by simpa using e1
    clear e1
    go_enter Try.func56, Try.ntmps56
    go_wp2
    go_ret
    exact ⟨ret_bool HE.out.symm, H2.out⟩

set_option maxRecDepth 100000 in
set_option maxHeartbeats 1000000 in
theorem s_EqualMatrices (r c r' c' : Int) (va vb : Value) (la lb : List Int) (w : World) (ha : Ints w va la) (hb : Ints w vb lb) :
    Calls Try.prog 51 #[.agg #[.int .i64 r, .int .i64 c, va], .agg #[.int .i64 r', .int .i64 c', vb]] w (BoolAnsB (eqM r c la r' c' lb) w) := by
  obtain ⟨a, cap, rfl, hlc, hcm⟩ := ha.shape
  obtain ⟨b, capb, rfl, hlcb, hcmb⟩ := hb.shape
  have h2 : Below w.heap.size w ((w.alloc (.cells #[.int .i64 r, .int .i64 c, .slice a la.length cap] 26)).alloc (.cells #[.int .i64 r', .int .i64 c', .slice b lb.length capb] 26)) :=
    ((Below.refl _ w).alloc (Nat.le_refl _) _).alloc (by simp) _
  have HA := Lib.hid (ha.below h2)
  have HB := Lib.hid (hb.below h2)
  have H2 := Lib.hid h2
  clear ha hb h2
  by_cases e1 : r = r'
  · by_cases e2 : c = c'
    · by_cases hn : la.length = lb.length
      · have HE := Lib.hid (show eqM r c la r' c' lb = decide (la = lb) by simp [eqM, e1, e2])
        subst e1; subst e2
        have HN := Lib.hid hn
        have hnb : ((la.length : Int) != (lb.length : Int)) = false := by simp only [bne_eq_false_iff_eq]; omega
        have hnl : la.length ≤ lb.length := by omega
        clear hn
        obtain ⟨W2, hW⟩ : ∃ W2, W2 = (w.alloc (.cells #[.int .i64 r, .int .i64 c, .slice a la.length cap] 26)).alloc (.cells #[.int .i64 r, .int .i64 c, .slice b lb.length capb] 26) := ⟨_, rfl⟩
        have hA : Blk W2 w.heap.size #[.int .i64 r, .int .i64 c, .slice a la.length cap] 26 := by
          rw [hW]; exact (Blk.new w _ _).below ((Below.refl _ _).alloc (Nat.le_refl _) _)
        have hB : Blk W2 (w.heap.size + 1) #[.int .i64 r, .int .i64 c, .slice b lb.length capb] 26 := by
          rw [hW]; have := Blk.new (w.alloc (.cells #[.int .i64 r, .int .i64 c, .slice a la.length cap] 26)) #[.int .i64 r, .int .i64 c, .slice b lb.length capb] 26
          simpa using this
        have HBA := Lib.hid hA; have HBB := Lib.hid hB
        rw [← hW] at HA HB H2
        have HW := Lib.hid hW
        clear hA hB hW
        go_enter Try.func51, Try.ntmps51
        go_wp2
        rw [← HW.out]
        go_loopw [5] (fun i wr => ∃ k : Nat, k ≤ la.length ∧ i = .int .i64 k ∧ (∀ j, j < k → la.getD j 0 = lb.getD j 0) ∧ Below W2.heap.size W2 wr) (fun i _ => la.length - (intOf i).toNat)
        case atStart => exact ⟨0, Nat.zero_le _, rfl, fun j hj => absurd hj (by omega), Below.refl _ _⟩
        case round =>
          obtain ⟨k, hk, rfl, hno, hbel⟩ := hrel
          have HE2 := Lib.hid hno; clear hno
          have kA : wr.cell? ⟨w.heap.size, 2, none⟩ = some (.slice a la.length cap) := (HBA.out.below hbel).cell 2
          have kB : wr.cell? ⟨w.heap.size + 1, 2, none⟩ = some (.slice b lb.length capb) := (HBB.out.below hbel).cell 2
          by_cases hlt : k < la.length
          · obtain ⟨g, off, rfl, hgs, hc, _⟩ := HA.out.cell hlt
            obtain ⟨g', off', rfl, hgs', hc', _⟩ := HB.out.cell (show k < lb.length by omega)
            rw [← hbel.cell (p := ⟨g, off + k, none⟩) hgs] at hc
            rw [← hbel.cell (p := ⟨g', off' + k, none⟩) hgs'] at hc'
            obtain ⟨x, hx⟩ := elem_name la k
            obtain ⟨y, hy⟩ := elem_name lb k
            rw [hx] at hc
            rw [hy] at hc'
            have HX := Lib.hid hx; have HY := Lib.hid hy; clear hx hy
            have hk0 : (0 : Int) ≤ (k : Int) := by omega
            have hk1 : (k : Int) < (la.length : Int) := by omega
            have hk2 : (k : Int) < (lb.length : Int) := by omega
            by_cases hq : x = y
            · have hqb : (x != y) = false := by simp [hq]
              have HQ := Lib.hid hq; clear hq
              go_wp2
              go_quiet (fail)
              go_wp2
              go_roundw
              case rel => exact ⟨k + 1, by omega, by go_num, fun j hj => by
                by_cases h : j = k
                · rw [h, HX.out, HY.out]; exact HQ.out
                · exact HE2.out j (by omega), below_drewN hbel _⟩
              case measure => simp [intOf]; omega
            · have hqb : (x != y) = true := by simpa using hq
              have HQ := Lib.hid hq; clear hq
              go_wp2
              go_quiet (fail)
              go_wp2
              go_ret
              exact ⟨ret_bool (by rw [HE.out, eq_comm]; simp only [decide_eq_false_iff_not]; exact fun h => HQ.out (by rw [← HX.out, ← HY.out, h])), H2.out.trans ((below_drewN hbel _).mono H2.out.size)⟩
          · go_wp2
            go_ret
            exact ⟨ret_bool (by rw [HE.out, eq_comm]; simp only [decide_eq_true_eq]; exact list_eq_of HN.out (fun j hj => HE2.out j (by omega))), H2.out.trans (hbel.mono H2.out.size)⟩
      · have HE := Lib.hid (show eqM r c la r' c' lb = false by simp [eqM]; exact fun _ _ h => hn (by rw [h]))
        have hnb : ((la.length : Int) != (lb.length : Int)) = true := by simp only [bne_iff_ne]; omega
        subst e1; subst e2
        clear hn
        go_enter Try.func51, Try.ntmps51
        go_wp2
        go_ret
        exact ⟨ret_bool HE.out.symm, H2.out⟩
    · have HE := Lib.hid (show eqM r c la r' c' lb = false by simp [eqM, e2])
      have hb2 : (c != c') = true := by simpa using e2
      subst e1
      clear e2
      go_enter Try.func51, Try.ntmps51
      go_wp2
      go_ret
      exact ⟨ret_bool HE.out.symm, H2.out⟩
  · have HE := Lib.hid (show eqM r c la r' c' lb = false by simp [eqM, e1])
    have hb2 : (r != r') = true := by simpa using e1
    clear e1
    go_enter Try.func51, Try.ntmps51
    go_wp2
    go_ret
    exact ⟨ret_bool HE.out.symm, H2.out⟩

end Go.Proofs.Ytmcjgaffecimlaa
