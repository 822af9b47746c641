/- The laws' own helpers on matrices: eqMatrix, markMatrix, heldMatrix, toMatrix, szMatrix. -/
import Derived.Test.YtmcjgaffecimlaaMat
namespace Go.Proofs.Ytmcjgaffecimlaa
open Go.RowKit
set_option linter.unusedVariables false
set_option linter.unusedSimpArgs false

/-- two matrices are the same -/
def eqM (r c : Int) (l : List Int) (r' c' : Int) (l' : List Int) : Bool := decide (r = r' ∧ c = c' ∧ l = l')
theorem eqM_refl (r c : Int) (l : List Int) : eqM r c l r c l = true := by simp [eqM]
set_option maxRecDepth 100000 in
set_option maxHeartbeats 1000000 in
theorem l_eqMatrix (r c r' c' : Int) (va vb : Value) (la lb : List Int) (w : World) (ha : Ints w va la) (hb : Ints w vb lb) :
    Calls Try.prog 11 #[.agg #[.int .i64 r, .int .i64 c, va], .agg #[.int .i64 r', .int .i64 c', vb]] w (BoolAnsB (eqM r c la r' c' lb) w) := by
  obtain ⟨a, cap, rfl, hlc, hcm⟩ := ha.shape
  obtain ⟨b, capb, rfl, hlcb, hcmb⟩ := hb.shape
  have h2 : Below w.heap.size w ((w.alloc (.cells #[.int .i64 r, .int .i64 c, .slice a la.length cap] 26)).alloc (.cells #[.int .i64 r', .int .i64 c', .slice b lb.length capb] 26)) :=
    ((Below.refl _ w).alloc (Nat.le_refl _) _).alloc (by simp) _
  have HA := Lib.hid (ha.below h2)
  have HB := Lib.hid (hb.below h2)
  have H2 := Lib.hid h2
  clear ha hb h2
  by_cases e1 : r = r'
  · by_cases e2 : c = c'
    · have HE := Lib.hid (show eqM r c la r' c' lb = decide (la = lb) by simp [eqM, e1, e2])
      subst e1; subst e2
      go_enter Try.func11, Try.ntmps11
      go_wp2_with fail
      refine (l_eqIntS _ _ la lb _ HA.out HB.out).mono ?_; rintro e w1 ⟨rfl, b1⟩
      have hb3 := Lib.hid (below_call H2.out b1 H2.out.size)
      by_cases hq : la = lb
      · have hqd : decide (la = lb) = true := by simpa using hq
        have HQ := Lib.hid hq; clear hq
        go_wp2
        go_ret
        exact ⟨ret_bool (by rw [HE.out]; simpa using HQ.out), hb3.out⟩
      · have hqd : decide (la = lb) = false := by simpa using hq
        have HQ := Lib.hid hq; clear hq
        go_wp2
        go_ret
        exact ⟨ret_bool (by rw [HE.out]; simpa using HQ.out), hb3.out⟩
    · have HE := Lib.hid (show eqM r c la r' c' lb = false by simp [eqM, e2])
      have hb2 : (c != c') = true := by simpa using e2
      subst e1
      clear e2
      go_enter Try.func11, Try.ntmps11
      go_wp2
      go_ret
      exact ⟨ret_bool HE.out.symm, H2.out⟩
  · have HE := Lib.hid (show eqM r c la r' c' lb = false by simp [eqM, e1])
    have hb2 : (r != r') = true := by simpa using e1
    clear e1
    go_enter Try.func11, Try.ntmps11
    go_wp2
    go_ret
    exact ⟨ret_bool HE.out.symm, H2.out⟩

def MarkAnsM (v : Value) (l : List Int) (k : Int) (w : World) (e : Ending) (w' : World) : Prop :=
  e = .returned (.int .i64 (k + l.length)) ∧ Ints w' v (marks k l.length) ∧ Chg (fun b => blk v = some b) w w'
set_option maxRecDepth 100000 in
set_option maxHeartbeats 1000000 in
theorem l_markMatrix (r c : Int) (v : Value) (l : List Int) (k : Int) (w : World) (hv : Ints w v l) (hk0 : 0 ≤ k) (hk1 : k + l.length ≤ 4611686018427387904) :
    Calls Try.prog 12 #[.agg #[.int .i64 r, .int .i64 c, v], .int .i64 k] w (MarkAnsM v l k w) := by
  have hlt := hv.lt
  obtain ⟨a, cap, rfl, hlc, hcm⟩ := hv.shape
  have h2 : Below w.heap.size w (w.alloc (.cells #[.int .i64 r, .int .i64 c, .slice a l.length cap] 26)) := (Below.refl _ w).alloc (Nat.le_refl _) _
  have HV := Lib.hid (hv.below h2)
  have H2 := Lib.hid h2
  clear hv h2 hlt
  go_enter Try.func12, Try.ntmps12
  go_wp2_with fail
  refine (l_markIntS _ l _ _ HV.out (by omega) (by omega)).mono ?_; rintro e w1 ⟨rfl, h1, c1⟩
  go_wp2
  go_ret
  exact ⟨rfl, h1, (Chg.of_below H2.out).trans c1⟩

set_option maxRecDepth 100000 in
set_option maxHeartbeats 1000000 in
theorem l_heldMatrix (r c : Int) (v : Value) (n : Nat) (k : Int) (w : World) (hv : Ints w v (marks k n)) (hk0 : 0 ≤ k) (hk1 : k + n ≤ 4611686018427387904) :
    Calls Try.prog 13 #[.agg #[.int .i64 r, .int .i64 c, v], .int .i64 k] w (IntAnsC (k + n) w) := by
  obtain ⟨a, cap, rfl, hlc, hcm⟩ := hv.shape
  have h2 : Below w.heap.size w (w.alloc (.cells #[.int .i64 r, .int .i64 c, .slice a (marks k n).length cap] 26)) := (Below.refl _ w).alloc (Nat.le_refl _) _
  have HV := Lib.hid (hv.below h2)
  have H2 := Lib.hid h2
  clear hv h2
  go_enter Try.func13, Try.ntmps13
  go_wp2_with fail
  refine (l_heldIntS _ n _ _ HV.out (by omega) (by omega)).mono ?_; rintro e w1 ⟨rfl, rfl⟩
  go_wp2
  go_ret
  exact ⟨rfl, H2.out⟩

end Go.Proofs.Ytmcjgaffecimlaa
