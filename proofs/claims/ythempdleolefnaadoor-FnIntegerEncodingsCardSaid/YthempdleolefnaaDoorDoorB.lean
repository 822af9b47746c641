/- The door: what the listed variables of the library hold, out of the row's condition; one start that meets it. -/
import Derived.Test.YthempdleolefnaaDoorRows
import Derived.Stop.LaidErr
import Derived.Lib.LaidTab
import Derived.Lib.ItoaNum
import Derived.SizedLaws
namespace Go.Proofs.YthempdleolefnaaDoor
open Go.RowKit
set_option linter.unusedVariables false
set_option linter.unusedSimpArgs false

theorem gLen : Tryd.prog.globalNamed "encoding/hex.ErrLength" = some 0 := by kernel_rfl
theorem gLenType : (Tryd.prog.globals[0]?).map (·.type) = some 41 := by kernel_rfl
theorem gSyn : Tryd.prog.globalNamed "strconv.ErrSyntax" = some 1 := by kernel_rfl
theorem gSynType : (Tryd.prog.globals[1]?).map (·.type) = some 41 := by kernel_rfl
theorem gRng : Tryd.prog.globalNamed "strconv.ErrRange" = some 2 := by kernel_rfl
theorem gRngType : (Tryd.prog.globals[2]?).map (·.type) = some 41 := by kernel_rfl
theorem gPow : Tryd.prog.globalNamed "internal/strconv.uint64pow10" = some 3 := by kernel_rfl
theorem gPowType : (Tryd.prog.globals[3]?).map (·.type) = some 82 := by kernel_rfl
theorem cellsES : Tryd.prog.cellsOf 90 = 1 := by kernel_rfl
theorem cellsStr : Tryd.prog.cellsOf 9 = 1 := by kernel_rfl
theorem cellsU64 : Tryd.prog.cellsOf 71 = 1 := by kernel_rfl
theorem cellsTab : Tryd.prog.cellsOf 82 = 20 := by kernel_rfl
theorem starES : "*" ++ "errors.errorString" = "*errors.errorString" := by decide
theorem rowES (u : TypeId) (h : Tryd.prog.typeName? 3 u = some "*errors.errorString") : u = 88 :=
  typeName_ptr_named (nm := "errors.errorString") (by rw [starES]; kernel_rfl) (by kernel_rfl) (by decide) u (by rw [starES]; exact h)

theorem door_len {r : List (String × DataW Unit)} {w : World} (hL : laidMet Tryd.prog (("encoding/hex.ErrLength", Rows.laid_encoding_hex_ErrLength) :: r) w) : ∃ te pe, w.cell? ⟨0, 0, none⟩ = some (.iface te pe) := by
  obtain ⟨a0, s0, hv0, -, -, -⟩ := laid_sentinel hL gLen gLenType Tryd.underlying41 rowES Tryd.underlying88 Tryd.underlying90 rfl rfl Tryd.underlying9 cellsES cellsStr
  exact ⟨_, _, by have h0 := World.var?_cell gLen hv0 0; simpa using h0⟩
theorem door_syn {r : List (String × DataW Unit)} {w : World} (hL : laidMet Tryd.prog (("strconv.ErrSyntax", Rows.laid_strconv_ErrSyntax) :: r) w) : ∃ te pe, w.cell? ⟨1, 0, none⟩ = some (.iface te pe) := by
  obtain ⟨a0, s0, hv0, -, -, -⟩ := laid_sentinel hL gSyn gSynType Tryd.underlying41 rowES Tryd.underlying88 Tryd.underlying90 rfl rfl Tryd.underlying9 cellsES cellsStr
  exact ⟨_, _, by have h0 := World.var?_cell gSyn hv0 0; simpa using h0⟩
theorem door_rng {r : List (String × DataW Unit)} {w : World} (hL : laidMet Tryd.prog (("strconv.ErrRange", Rows.laid_strconv_ErrRange) :: r) w) : ∃ te pe, w.cell? ⟨2, 0, none⟩ = some (.iface te pe) := by
  obtain ⟨a0, s0, hv0, -, -, -⟩ := laid_sentinel hL gRng gRngType Tryd.underlying41 rowES Tryd.underlying88 Tryd.underlying90 rfl rfl Tryd.underlying9 cellsES cellsStr
  exact ⟨_, _, by have h0 := World.var?_cell gRng hv0 0; simpa using h0⟩
theorem powData : (Rows.laid_internal_strconv_uint64pow10 : DataW Unit) = Lib.tabData .u64 Lib.pow10Tab := by kernel_rfl
theorem door_pow {r : List (String × DataW Unit)} {w : World} (hL : laidMet Tryd.prog (("internal/strconv.uint64pow10", Rows.laid_internal_strconv_uint64pow10) :: r) w) : Lib.TabIs Tryd.prog w "internal/strconv.uint64pow10" .u64 Lib.pow10Tab := by
  rw [powData] at hL
  exact Lib.tabIs_of_head gPow gPowType Tryd.underlying82 Tryd.underlying71 cellsU64 cellsTab hL

/-- So many blocks has the settled world. -/
noncomputable def low : Nat := (World.holding Tryd.prog default ⟨#[], #[], []⟩).heap.size
def lenS : ByteArray := ⟨#[101, 110, 99, 111, 100, 105, 110, 103, 47, 104, 101, 120, 58, 32, 111, 100, 100, 32, 108, 101, 110, 103, 116, 104, 32, 104, 101, 120, 32, 115, 116, 114, 105, 110, 103]⟩
def synS : ByteArray := ⟨#[105, 110, 118, 97, 108, 105, 100, 32, 115, 121, 110, 116, 97, 120]⟩
def rngS : ByteArray := ⟨#[118, 97, 108, 117, 101, 32, 111, 117, 116, 32, 111, 102, 32, 114, 97, 110, 103, 101]⟩
def litCells : DataW Unit → List Value
  | .agg l => l.map fun d => match d with
    | .lit (.int k z) => Value.int k z
    | _ => .nilIface
  | _ => []
/-- the settled world, the listed variables laid as the program's text lays them -/
noncomputable def laidWorld (os : Os) : World :=
  let w0 := World.holding Tryd.prog os ⟨#[.cells #[.string lenS] 90, .cells #[.string synS] 90, .cells #[.string rngS] 90], #[], []⟩
  let put (h : Array Obj) (g : Nat) (cs : Array Value) : Array Obj := h.modify g fun o => match o with
    | .cells _ t frozen => .cells cs t frozen
    | o => o
  { w0 with heap := put (put (put (put (put (put w0.heap 0 #[.iface 88 (.pointer (some ⟨low, 0, none⟩))]) 1 #[.iface 88 (.pointer (some ⟨low + 1, 0, none⟩))]) 2 #[.iface 88 (.pointer (some ⟨low + 2, 0, none⟩))])
      3 (litCells Rows.laid_internal_strconv_uint64pow10).toArray) 4 (litCells Rows.laid_math_bits_deBruijn32tab).toArray) 5 (litCells Rows.laid_math_bits_deBruijn64tab).toArray }
theorem met_hex (os : Os) (args : Array Value) : laidMet Tryd.prog Rows.fnExactDecodeHexRow.laid ((laidWorld os).forCall (fun _ _ => 0) ⟨#[], args, []⟩).memory :=
  laidMet_of_run' 8 (by kernel_rfl) (by kernel_rfl)
theorem met_fmt (os : Os) (args : Array Value) : laidMet Tryd.prog Rows.fnExactFormatIntRow.laid ((laidWorld os).forCall (fun _ _ => 0) ⟨#[], args, []⟩).memory :=
  laidMet_of_run' 8 (by kernel_rfl) (by kernel_rfl)
theorem met_parse (os : Os) (args : Array Value) : laidMet Tryd.prog Rows.fnExactParseIntRow.laid ((laidWorld os).forCall (fun _ _ => 0) ⟨#[], args, []⟩).memory :=
  laidMet_of_run' 8 (by kernel_rfl) (by kernel_rfl)
theorem met_ints (os : Os) (args : Array Value) : laidMet Tryd.prog Rows.fnIntegerEncodingsRow.laid ((laidWorld os).forCall (fun _ _ => 0) ⟨#[], args, []⟩).memory :=
  laidMet_of_run' 8 (by kernel_rfl) (by kernel_rfl)
end Go.Proofs.YthempdleolefnaaDoor
