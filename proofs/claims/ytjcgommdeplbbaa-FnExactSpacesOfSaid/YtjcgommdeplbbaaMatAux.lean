/- The laws' own helpers on matrices: eqMatrix, markMatrix, heldMatrix, toMatrix, szMatrix. -/
import Derived.Test.YtjcgommdeplbbaaMat
namespace Go.Proofs.Ytjcgommdeplbbaa
open Go.RowKit
set_option linter.unusedVariables false
set_option linter.unusedSimpArgs false

/-- two matrices are the same -/
def eqM (r c : Int) (l : List Int) (r' c' : Int) (l' : List Int) : Bool := decide (r = r' ∧ c = c' ∧ l = l')
theorem eqM_refl (r c : Int) (l : List Int) : eqM r c l r c l = true := by simp [eqM]



end Go.Proofs.Ytjcgommdeplbbaa
