/- The door: what the listed variables of the library hold, out of the row's condition; one start that meets it. -/
import Derived.Test.YtdmjikfjmimfmaaDoorRows
import Derived.Stop.LaidErr
import Derived.Lib.LaidTab
import Derived.Lib.ItoaNum
import Derived.SizedLaws
namespace Go.Proofs.YtdmjikfjmimfmaaDoor
open Go.RowKit
set_option linter.unusedVariables false
set_option linter.unusedSimpArgs false

theorem gSyn : Tryd.prog.globalNamed "strconv.ErrSyntax" = some 1 := by kernel_rfl
theorem gSynType : (Tryd.prog.globals[1]?).map (·.type) = some 84 := by kernel_rfl
theorem gRng : Tryd.prog.globalNamed "strconv.ErrRange" = some 2 := by kernel_rfl
theorem gRngType : (Tryd.prog.globals[2]?).map (·.type) = some 84 := by kernel_rfl
theorem gPow : Tryd.prog.globalNamed "internal/strconv.uint64pow10" = some 3 := by kernel_rfl
theorem gPowType : (Tryd.prog.globals[3]?).map (·.type) = some 122 := by kernel_rfl
theorem cellsES : Tryd.prog.cellsOf 128 = 1 := by kernel_rfl
theorem cellsStr : Tryd.prog.cellsOf 9 = 1 := by kernel_rfl
theorem cellsU64 : Tryd.prog.cellsOf 107 = 1 := by kernel_rfl
theorem cellsTab : Tryd.prog.cellsOf 122 = 20 := by kernel_rfl
theorem starES : "*" ++ "errors.errorString" = "*errors.errorString" := by decide
theorem rowES (u : TypeId) (h : Tryd.prog.typeName? 3 u = some "*errors.errorString") : u = 126 :=
  typeName_ptr_named (nm := "errors.errorString") (by rw [starES]; kernel_rfl) (by kernel_rfl) (by decide) u (by rw [starES]; exact h)

theorem door_syn {r : List (String × DataW Unit)} {w : World} (hL : laidMet Tryd.prog (("strconv.ErrSyntax", Rows.laid_strconv_ErrSyntax) :: r) w) : ∃ te pe, w.cell? ⟨1, 0, none⟩ = some (.iface te pe) := by
  obtain ⟨a0, s0, hv0, -, -, -⟩ := laid_sentinel hL gSyn gSynType Tryd.underlying84 rowES Tryd.underlying126 Tryd.underlying128 rfl rfl Tryd.underlying9 cellsES cellsStr
  exact ⟨_, _, by have h0 := World.var?_cell gSyn hv0 0; simpa using h0⟩
theorem door_rng {r : List (String × DataW Unit)} {w : World} (hL : laidMet Tryd.prog (("strconv.ErrRange", Rows.laid_strconv_ErrRange) :: r) w) : ∃ te pe, w.cell? ⟨2, 0, none⟩ = some (.iface te pe) := by
  obtain ⟨a0, s0, hv0, -, -, -⟩ := laid_sentinel hL gRng gRngType Tryd.underlying84 rowES Tryd.underlying126 Tryd.underlying128 rfl rfl Tryd.underlying9 cellsES cellsStr
  exact ⟨_, _, by have h0 := World.var?_cell gRng hv0 0; simpa using h0⟩
theorem powData : (Rows.laid_internal_strconv_uint64pow10 : DataW Unit) = Lib.tabData .u64 Lib.pow10Tab := by kernel_rfl
theorem door_pow {r : List (String × DataW Unit)} {w : World} (hL : laidMet Tryd.prog (("internal/strconv.uint64pow10", Rows.laid_internal_strconv_uint64pow10) :: r) w) : Lib.TabIs Tryd.prog w "internal/strconv.uint64pow10" .u64 Lib.pow10Tab := by
  rw [powData] at hL
  exact Lib.tabIs_of_head gPow gPowType Tryd.underlying122 Tryd.underlying107 cellsU64 cellsTab hL

/-- So many blocks has the settled world. -/
noncomputable def low : Nat := (World.holding Tryd.prog default ⟨#[], #[], []⟩).heap.size
def lenS : ByteArray := ⟨#[101, 110, 99, 111, 100, 105, 110, 103, 47, 104, 101, 120, 58, 32, 111, 100, 100, 32, 108, 101, 110, 103, 116, 104, 32, 104, 101, 120, 32, 115, 116, 114, 105, 110, 103]⟩
def synS : ByteArray := ⟨#[105, 110, 118, 97, 108, 105, 100, 32, 115, 121, 110, 116, 97, 120]⟩
def rngS : ByteArray := ⟨#[118, 97, 108, 117, 101, 32, 111, 117, 116, 32, 111, 102, 32, 114, 97, 110, 103, 101]⟩
def litCells : DataW Unit → List Value
  | .agg l => l.map fun d => match d with
    | .lit (.int k z) => Value.int k z
    | _ => .nilIface
  | _ => []
/-- the settled world, the listed variables laid as the program's text lays them -/
noncomputable def laidWorld (os : Os) : World :=
  let w0 := World.holding Tryd.prog os ⟨#[.cells #[.string lenS] 128, .cells #[.string synS] 128, .cells #[.string rngS] 128], #[], []⟩
  let put (h : Array Obj) (g : Nat) (cs : Array Value) : Array Obj := h.modify g fun o => match o with
    | .cells _ t frozen => .cells cs t frozen
    | o => o
  { w0 with heap := put (put (put (put (put w0.heap 1 #[.iface 126 (.pointer (some ⟨low + 1, 0, none⟩))]) 2 #[.iface 126 (.pointer (some ⟨low + 2, 0, none⟩))])
      3 (litCells Rows.laid_internal_strconv_uint64pow10).toArray) 4 (litCells Rows.laid_math_bits_deBruijn32tab).toArray) 5 (litCells Rows.laid_math_bits_deBruijn64tab).toArray }
theorem met_fpath (os : Os) (args : Array Value) : laidMet Tryd.prog Rows.fnExactFormatPathRow.laid ((laidWorld os).forCall (fun _ _ => 0) ⟨#[], args, []⟩).memory :=
  laidMet_of_run' 8 (by kernel_rfl) (by kernel_rfl)
theorem met_fquiv (os : Os) (args : Array Value) : laidMet Tryd.prog Rows.fnExactFormatQuiverRow.laid ((laidWorld os).forCall (fun _ _ => 0) ⟨#[], args, []⟩).memory :=
  laidMet_of_run' 8 (by kernel_rfl) (by kernel_rfl)
theorem met_fmat (os : Os) (args : Array Value) : laidMet Tryd.prog Rows.fnExactFormatMatrixRow.laid ((laidWorld os).forCall (fun _ _ => 0) ⟨#[], args, []⟩).memory :=
  laidMet_of_run' 8 (by kernel_rfl) (by kernel_rfl)
theorem met_pquiv (os : Os) (args : Array Value) : laidMet Tryd.prog Rows.fnExactParseQuiverRow.laid ((laidWorld os).forCall (fun _ _ => 0) ⟨#[], args, []⟩).memory :=
  laidMet_of_run' 8 (by kernel_rfl) (by kernel_rfl)
theorem met_nquiv (os : Os) (args : Array Value) : laidMet Tryd.prog Rows.fnExactNamedQuiverRow.laid ((laidWorld os).forCall (fun _ _ => 0) ⟨#[], args, []⟩).memory :=
  laidMet_of_run' 8 (by kernel_rfl) (by kernel_rfl)
theorem met_pmat (os : Os) (args : Array Value) : laidMet Tryd.prog Rows.fnExactParseMatrixRow.laid ((laidWorld os).forCall (fun _ _ => 0) ⟨#[], args, []⟩).memory :=
  laidMet_of_run' 8 (by kernel_rfl) (by kernel_rfl)
end Go.Proofs.YtdmjikfjmimfmaaDoor
