/- EqualQuivers and EqualPaths, of the program and of the reference; the laws' own helpers on paths. -/
import Derived.Test.YtndooeffjkofdaaDoorQuiv
import Derived.Test.YtndooeffjkofdaaDoorEqual
namespace Go.Proofs.YtndooeffjkofdaaDoor
open Go.RowKit
set_option linter.unusedVariables false
set_option linter.unusedSimpArgs false



/-- a new path -/
def PathNew (n : Int) (l : List Int) (w : World) (e : Ending) (w' : World) : Prop :=
  ∃ v, e = .returned (.agg #[.int .i64 n, v]) ∧ Ints w' v l ∧ FreshV w.heap.size v ∧ Below w.heap.size w w'
/-- a new path and a word -/
def PathOK (n : Int) (l : List Int) (ok : Bool) (w : World) (e : Ending) (w' : World) : Prop :=
  ∃ v, e = .returned (.tuple #[.agg #[.int .i64 n, v], .bool ok]) ∧ Ints w' v l ∧ FreshV w.heap.size v ∧ Below w.heap.size w w'
/-- two paths are the same -/
def eqP (n : Int) (l : List Int) (n' : Int) (l' : List Int) : Bool := decide (n = n' ∧ l = l')
theorem eqP_refl (n : Int) (l : List Int) : eqP n l n l = true := by simp [eqP]


set_option maxRecDepth 100000 in
set_option maxHeartbeats 1000000 in
theorem i_EqualPaths (n n' : Int) (va vb : Value) (la lb : List Int) (w : World) (ha : Ints w va la) (hb : Ints w vb lb) :
    Calls Tryd.prog 26 #[.agg #[.int .i64 n, va], .agg #[.int .i64 n', vb]] w (BoolAnsB (eqP n la n' lb) w) := by
  obtain ⟨a, cap, rfl, hlc, hcm⟩ := ha.shape
  obtain ⟨b, capb, rfl, hlcb, hcmb⟩ := hb.shape
  have h2 : Below w.heap.size w ((w.alloc (.cells #[.int .i64 n, .slice a la.length cap] 28)).alloc (.cells #[.int .i64 n', .slice b lb.length capb] 28)) :=
    ((Below.refl _ w).alloc (Nat.le_refl _) _).alloc (by simp) _
  have HA := Lib.hid (ha.below h2)
  have HB := Lib.hid (hb.below h2)
  have H2 := Lib.hid h2
  clear ha hb h2
  by_cases e1 : n = n'
  · have HE := Lib.hid (show eqP n la n' lb = decide (la = lb) by simp [eqP, e1])
    subst e1
    go_enter Tryd.func26, Tryd.ntmps26
    go_wp2_with fail
    refine (Equal_ints _ _ la lb _ HA.out HB.out).mono ?_; rintro e w1 ⟨rfl, b1⟩
    have hb3 := Lib.hid (below_call H2.out b1 H2.out.size)
    by_cases hq : la = lb
    · have hqd : decide (la = lb) = true := by simpa using hq
      have HQ := Lib.hid hq; clear hq
      go_wp2
      go_ret
      exact ⟨ret_bool (by rw [HE.out]; simpa using HQ.out), hb3.out⟩
    · have hqd : decide (la = lb) = false := by simpa using hq
      have HQ := Lib.hid hq; clear hq
      go_wp2
      go_ret
      exact ⟨ret_bool (by rw [HE.out]; simpa using HQ.out), hb3.out⟩
  · have HE := Lib.hid (show eqP n la n' lb = false by simp [eqP, e1])
    have hb2 : (n == n') = false := by simpa using e1
    clear e1
    go_enter Tryd.func26, Tryd.ntmps26
    go_wp2
    go_ret
    exact ⟨ret_bool HE.out.symm, H2.out⟩

set_option maxRecDepth 100000 in
set_option maxHeartbeats 1000000 in
theorem s_EqualPaths (n n' : Int) (va vb : Value) (la lb : List Int) (w : World) (ha : Ints w va la) (hb : Ints w vb lb) :
    Calls Tryd.prog 8 #[.agg #[.int .i64 n, va], .agg #[.int .i64 n', vb]] w (BoolAnsB (eqP n la n' lb) w) := by
  obtain ⟨a, cap, rfl, hlc, hcm⟩ := ha.shape
  obtain ⟨b, capb, rfl, hlcb, hcmb⟩ := hb.shape
  have h2 : Below w.heap.size w ((w.alloc (.cells #[.int .i64 n, .slice a la.length cap] 28)).alloc (.cells #[.int .i64 n', .slice b lb.length capb] 28)) :=
    ((Below.refl _ w).alloc (Nat.le_refl _) _).alloc (by simp) _
  have HA := Lib.hid (ha.below h2)
  have HB := Lib.hid (hb.below h2)
  have H2 := Lib.hid h2
  clear ha hb h2
  by_cases e1 : n = n'
  · have HE := Lib.hid (show eqP n la n' lb = decide (la = lb) by simp [eqP, e1])
    subst e1
    go_enter Tryd.func8, Tryd.ntmps8
    go_wp2_with fail
    refine (s_l6Same _ _ la lb _ HA.out HB.out).mono ?_; rintro e w1 ⟨rfl, b1⟩
    have hb3 := Lib.hid (below_call H2.out b1 H2.out.size)
    by_cases hq : la = lb
    · have hqd : decide (la = lb) = true := by simpa using hq
      have HQ := Lib.hid hq; clear hq
      go_wp2
      go_ret
      exact ⟨ret_bool (by rw [HE.out]; simpa using HQ.out), hb3.out⟩
    · have hqd : decide (la = lb) = false := by simpa using hq
      have HQ := Lib.hid hq; clear hq
      go_wp2
      go_ret
      exact ⟨ret_bool (by rw [HE.out]; simpa using HQ.out), hb3.out⟩
  · have HE := Lib.hid (show eqP n la n' lb = false by simp [eqP, e1])
    have hb2 : (n == n') = false := by simpa using e1
    clear e1
    go_enter Tryd.func8, Tryd.ntmps8
    go_wp2
    go_ret
    exact ⟨ret_bool HE.out.symm, H2.out⟩



end Go.Proofs.YtndooeffjkofdaaDoor
