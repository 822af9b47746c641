/- The door of the law FnPaths: what the listed tables of the library hold, out of the row's condition; one start that meets it. -/
import Derived.Test.YtndooeffjkofdaaDoorRows
import Derived.Stop.LaidErr
import Derived.Lib.LaidTab
import Derived.Lib.ItoaNum
import Derived.SizedLaws
namespace Go.Proofs.YtndooeffjkofdaaDoor
open Go.RowKit
set_option linter.unusedVariables false
set_option linter.unusedSimpArgs false

theorem gPow : Tryd.prog.globalNamed "internal/strconv.uint64pow10" = some 0 := by kernel_rfl
theorem gPowType : (Tryd.prog.globals[0]?).map (·.type) = some 101 := by kernel_rfl
theorem cellsU64 : Tryd.prog.cellsOf 94 = 1 := by kernel_rfl
theorem cellsTab : Tryd.prog.cellsOf 101 = 20 := by kernel_rfl
theorem powData : (Rows.laid_internal_strconv_uint64pow10 : DataW Unit) = Lib.tabData .u64 Lib.pow10Tab := by kernel_rfl
theorem door_pow {r : List (String × DataW Unit)} {w : World} (hL : laidMet Tryd.prog (("internal/strconv.uint64pow10", Rows.laid_internal_strconv_uint64pow10) :: r) w) : Lib.TabIs Tryd.prog w "internal/strconv.uint64pow10" .u64 Lib.pow10Tab := by
  rw [powData] at hL
  exact Lib.tabIs_of_head gPow gPowType Tryd.underlying101 Tryd.underlying94 cellsU64 cellsTab hL
def litCells : DataW Unit → List Value
  | .agg l => l.map fun d => match d with
    | .lit (.int k z) => Value.int k z
    | _ => .nilIface
  | _ => []
/-- the settled world, the listed tables laid as the program's text lays them -/
noncomputable def laidWorld (os : Os) : World :=
  let w0 := World.holding Tryd.prog os ⟨#[], #[], []⟩
  let put (h : Array Obj) (g : Nat) (cs : Array Value) : Array Obj := h.modify g fun o => match o with
    | .cells _ t frozen => .cells cs t frozen
    | o => o
  { w0 with heap := put (put (put w0.heap 0 (litCells Rows.laid_internal_strconv_uint64pow10).toArray) 1 (litCells Rows.laid_math_bits_deBruijn32tab).toArray) 2 (litCells Rows.laid_math_bits_deBruijn64tab).toArray }
theorem met_paths (os : Os) (args : Array Value) : laidMet Tryd.prog Rows.fnPathsRow.laid ((laidWorld os).forCall (fun _ _ => 0) ⟨#[], args, []⟩).memory :=
  laidMet_of_run' 8 (by kernel_rfl) (by kernel_rfl)
end Go.Proofs.YtndooeffjkofdaaDoor
