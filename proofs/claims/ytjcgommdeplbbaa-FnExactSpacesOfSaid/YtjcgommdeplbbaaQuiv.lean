/- Quivers: their values in memory; the laws' own helpers on them. -/
import Derived.Test.YtjcgommdeplbbaaMg2
namespace Go.Proofs.Ytjcgommdeplbbaa
open Go.RowKit
set_option linter.unusedVariables false
set_option linter.unusedSimpArgs false

/-- a new quiver -/
def QuivNew (n : Int) (lf lt : List Int) (w : World) (e : Ending) (w' : World) : Prop :=
  ∃ vf vt, e = .returned (.agg #[.int .i64 n, vf, vt]) ∧ Ints w' vf lf ∧ Ints w' vt lt ∧ FreshV w.heap.size vf ∧ FreshV w.heap.size vt ∧ (∀ k, blk vf = some k → ¬ blk vt = some k) ∧ Below w.heap.size w w'
/-- a new quiver and a word -/
def QuivOK (n : Int) (lf lt : List Int) (ok : Bool) (w : World) (e : Ending) (w' : World) : Prop :=
  ∃ vf vt, e = .returned (.tuple #[.agg #[.int .i64 n, vf, vt], .bool ok]) ∧ Ints w' vf lf ∧ Ints w' vt lt ∧ FreshV w.heap.size vf ∧ FreshV w.heap.size vt ∧ (∀ k, blk vf = some k → ¬ blk vt = some k) ∧ Below w.heap.size w w'

/-- two quivers are the same -/
def eqQ (n : Int) (f t : List Int) (n' : Int) (f' t' : List Int) : Bool := decide (n = n' ∧ f = f' ∧ t = t')
theorem eqQ_refl (n : Int) (f t : List Int) : eqQ n f t n f t = true := by simp [eqQ]






end Go.Proofs.Ytjcgommdeplbbaa
