/- The tests of a range, of the program and of the reference. -/
import Derived.Test.YthlmggogeeedjaaBase
namespace Go.Proofs.Ythlmggogeeedjaa
open Go.RowKit
set_option linter.unusedVariables false
set_option linter.unusedSimpArgs false

set_option maxRecDepth 100000 in
set_option maxHeartbeats 400000 in
theorem i_within (n lo hi : Int) (w : World) :
    Calls Try.prog 29 #[.int .i64 n, .int .i64 lo, .int .i64 hi] w fun e w' => e = .returned (.bool (inR n lo hi)) ∧ w = w' := by
  by_cases h1 : lo ≤ n
  · by_cases h2 : n ≤ hi
    · have e := Lib.hid (inR_mk h1 h2)
      go_enter Try.func29, Try.ntmps29; go_wp2; go_ret; exact ⟨ret_bool e.out.symm, rfl⟩
    · have e := Lib.hid (inR_hi (lo := lo) (show hi < n by omega))
      go_enter Try.func29, Try.ntmps29; go_wp2; go_ret; exact ⟨ret_bool e.out.symm, rfl⟩
  · have e := Lib.hid (inR_lo (hi := hi) (show n < lo by omega))
    have h1' : decide (lo ≤ n) = false := by simpa using h1
    go_enter Try.func29, Try.ntmps29; go_wp2; go_ret; exact ⟨ret_bool e.out.symm, rfl⟩

set_option maxRecDepth 100000 in
set_option maxHeartbeats 400000 in
theorem s_l1In (n lo hi : Int) (w : World) :
    Calls Try.prog 15 #[.int .i64 n, .int .i64 lo, .int .i64 hi] w fun e w' => e = .returned (.bool (inR n lo hi)) ∧ w = w' := by
  by_cases h1 : lo ≤ n
  · by_cases h2 : n ≤ hi
    · have e := Lib.hid (inR_mk h1 h2)
      go_enter Try.func15, Try.ntmps15; go_wp2; go_ret; exact ⟨ret_bool e.out.symm, rfl⟩
    · have e := Lib.hid (inR_hi (lo := lo) (show hi < n by omega))
      go_enter Try.func15, Try.ntmps15; go_wp2; go_ret; exact ⟨ret_bool e.out.symm, rfl⟩
  · have e := Lib.hid (inR_lo (hi := hi) (show n < lo by omega))
    have h1' : decide (lo ≤ n) = false := by simpa using h1
    go_enter Try.func15, Try.ntmps15; go_wp2; go_ret; exact ⟨ret_bool e.out.symm, rfl⟩

end Go.Proofs.Ythlmggogeeedjaa
