/- The laws FnExactConstants, FnExactIsField, FnExactReduceMod return true. -/
import Derived.Test.YtpmghohaofipfaaField
namespace Go.Proofs.Ytpmghohaofipfaa
open Go.RowKit

set_option maxHeartbeats 400000 in
theorem law_FnExactConstants (w : World) :
    Calls Try.prog 3 #[] w fun e w' => e = .returned (.bool true) ∧ Below w.heap.size w w' := by
  go_enter Try.func3, Try.ntmps3
  go_wp2
  go_ret
  exact ⟨rfl, Below.refl _ _⟩
set_option maxHeartbeats 400000 in
theorem law_FnExactIsField (p : Int) (w : World) (_ : (Lit.int .i64 p).wf = true) :
    Calls Try.prog 4 #[.int .i64 p] w fun e w' => e = .returned (.bool true) ∧ Below w.heap.size w w' := by
  go_enter Try.func4, Try.ntmps4
  go_wp2_with fail
  refine (s_IsField _ _).mono ?_; rintro e w' ⟨rfl, rfl⟩
  go_wp2_with fail
  refine (i_IsField _ _).mono ?_; rintro e w' ⟨rfl, rfl⟩
  go_wp2
  go_ret
  exact ⟨rfl, Below.refl _ _⟩
set_option maxHeartbeats 400000 in
theorem law_FnExactReduceMod (p x : Int) (w : World) (_ : (Lit.int .i64 p).wf = true) (_ : (Lit.int .i64 x).wf = true) :
    Calls Try.prog 5 #[.int .i64 p, .int .i64 x] w fun e w' => e = .returned (.bool true) ∧ Below w.heap.size w w' := by
  go_enter Try.func5, Try.ntmps5
  go_wp2_with fail
  refine (s_ReduceMod _ _ _).mono ?_; rintro e w' ⟨rfl, rfl⟩
  go_wp2_with fail
  refine (i_ReduceMod _ _ _).mono ?_; rintro e w' ⟨rfl, rfl⟩
  go_wp2
  go_ret
  exact ⟨rfl, Below.refl _ _⟩

end Go.Proofs.Ytpmghohaofipfaa
