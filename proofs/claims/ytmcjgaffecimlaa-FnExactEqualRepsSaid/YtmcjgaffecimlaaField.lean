/- What IsField, ReduceMod and the tests of a range return, of the program and of the reference. -/
import Derived.Test.YtmcjgaffecimlaaBase
namespace Go.Proofs.Ytmcjgaffecimlaa
open Go.RowKit
set_option linter.unusedVariables false
set_option linter.unusedSimpArgs false

set_option maxRecDepth 100000 in
set_option maxHeartbeats 400000 in
theorem s_IsField (p : Int) (w : World) :
    Calls Try.prog 72 #[.int .i64 p] w fun e w' => e = .returned (.bool (isF p)) ∧ w = w' := by
  by_cases h2 : p = 2
  · subst h2; go_enter Try.func72, Try.ntmps72; go_wp2; go_ret; exact ⟨rfl, rfl⟩
  by_cases h3 : p = 3
  · subst h3; go_enter Try.func72, Try.ntmps72; go_wp2; go_ret; exact ⟨rfl, rfl⟩
  by_cases h5 : p = 5
  · subst h5; go_enter Try.func72, Try.ntmps72; go_wp2; go_ret; exact ⟨rfl, rfl⟩
  have e : isF p = false := by unfold isF; simp; omega
  have E := Lib.hid e; clear e
  have e2 : (p == 2) = false := by simp; omega
  have e3 : (p == 3) = false := by simp; omega
  have e5 : (p == 5) = false := by simp; omega
  clear h2 h3 h5
  go_enter Try.func72, Try.ntmps72; go_wp2; go_ret; exact ⟨ret_bool E.out.symm, rfl⟩

set_option maxRecDepth 100000 in
set_option maxHeartbeats 400000 in
theorem i_IsField (p : Int) (w : World) :
    Calls Try.prog 73 #[.int .i64 p] w fun e w' => e = .returned (.bool (isF p)) ∧ w = w' := by
  by_cases h2 : p = 2
  · subst h2; go_enter Try.func73, Try.ntmps73; go_wp2; go_ret; exact ⟨rfl, rfl⟩
  by_cases h3 : p = 3
  · subst h3; go_enter Try.func73, Try.ntmps73; go_wp2; go_ret; exact ⟨rfl, rfl⟩
  by_cases h5 : p = 5
  · subst h5; go_enter Try.func73, Try.ntmps73; go_wp2; go_ret; exact ⟨rfl, rfl⟩
  have e : isF p = false := by unfold isF; simp; omega
  have E := Lib.hid e; clear e
  have e2 : (p == 2) = false := by simp; omega
  have e3 : (p == 3) = false := by simp; omega
  have e5 : (p == 5) = false := by simp; omega
  clear h2 h3 h5
  go_enter Try.func73, Try.ntmps73; go_wp2; go_ret; exact ⟨ret_bool E.out.symm, rfl⟩

theorem tm (x p : Int) (hp : 0 < p) : (0 ≤ x.tmod p ∧ x.tmod p = x % p ∧ x.tmod p < p) ∨ (x.tmod p < 0 ∧ -p < x.tmod p ∧ x.tmod p + p = x % p) := by
  have h1 := Int.tmod_eq_emod (a := x) (b := p)
  have h2 := Int.emod_nonneg x (show p ≠ 0 by omega)
  have h3 := Int.emod_lt_of_pos x hp
  split at h1
  · left; omega
  · rename_i h
    right
    have h4 : x % p ≠ 0 := fun e => h (.inr (Int.dvd_of_emod_eq_zero e))
    omega

set_option maxRecDepth 100000 in
set_option maxHeartbeats 400000 in
theorem s_l2Mod (p x : Int) (hp : isF p = true) (w : World) :
    Calls Try.prog 89 #[.int .i64 p, .int .i64 x] w fun e w' => e = .returned (.int .i64 (x % p)) ∧ w = w' := by
  rcases isF_cases hp with rfl | rfl | rfl <;> clear hp
  · rcases tm x 2 (by omega) with ⟨h, he, h'⟩ | ⟨h, h', he⟩
    all_goals
      have HE := Lib.hid he; clear he
      go_enter Try.func89, Try.ntmps89
      go_wp2
      go_ret
      exact ⟨ret_int HE.out, rfl⟩
  · rcases tm x 3 (by omega) with ⟨h, he, h'⟩ | ⟨h, h', he⟩
    all_goals
      have HE := Lib.hid he; clear he
      go_enter Try.func89, Try.ntmps89
      go_wp2
      go_ret
      exact ⟨ret_int HE.out, rfl⟩
  · rcases tm x 5 (by omega) with ⟨h, he, h'⟩ | ⟨h, h', he⟩
    all_goals
      have HE := Lib.hid he; clear he
      go_enter Try.func89, Try.ntmps89
      go_wp2
      go_ret
      exact ⟨ret_int HE.out, rfl⟩

def redM (p x : Int) : Int := if isF p = true then x % p else 0


end Go.Proofs.Ytmcjgaffecimlaa
