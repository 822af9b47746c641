/- EqualQuivers and EqualPaths, of the program and of the reference; the laws' own helpers on paths. -/
import Derived.Test.YtjcgommdeplbbaaQuiv
import Derived.Test.YtjcgommdeplbbaaEqual
namespace Go.Proofs.Ytjcgommdeplbbaa
open Go.RowKit
set_option linter.unusedVariables false
set_option linter.unusedSimpArgs false



/-- a new path -/
def PathNew (n : Int) (l : List Int) (w : World) (e : Ending) (w' : World) : Prop :=
  ∃ v, e = .returned (.agg #[.int .i64 n, v]) ∧ Ints w' v l ∧ FreshV w.heap.size v ∧ Below w.heap.size w w'
/-- a new path and a word -/
def PathOK (n : Int) (l : List Int) (ok : Bool) (w : World) (e : Ending) (w' : World) : Prop :=
  ∃ v, e = .returned (.tuple #[.agg #[.int .i64 n, v], .bool ok]) ∧ Ints w' v l ∧ FreshV w.heap.size v ∧ Below w.heap.size w w'
/-- two paths are the same -/
def eqP (n : Int) (l : List Int) (n' : Int) (l' : List Int) : Bool := decide (n = n' ∧ l = l')
theorem eqP_refl (n : Int) (l : List Int) : eqP n l n l = true := by simp [eqP]






end Go.Proofs.Ytjcgommdeplbbaa
