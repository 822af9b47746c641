/- What IsField, ReduceMod and the tests of a range return, of the program and of the reference. -/
import Derived.Test.YthlmggogeeedjaaBase
namespace Go.Proofs.Ythlmggogeeedjaa
open Go.RowKit
set_option linter.unusedVariables false
set_option linter.unusedSimpArgs false



theorem tm (x p : Int) (hp : 0 < p) : (0 ≤ x.tmod p ∧ x.tmod p = x % p ∧ x.tmod p < p) ∨ (x.tmod p < 0 ∧ -p < x.tmod p ∧ x.tmod p + p = x % p) := by
  have h1 := Int.tmod_eq_emod (a := x) (b := p)
  have h2 := Int.emod_nonneg x (show p ≠ 0 by omega)
  have h3 := Int.emod_lt_of_pos x hp
  split at h1
  · left; omega
  · rename_i h
    right
    have h4 : x % p ≠ 0 := fun e => h (.inr (Int.dvd_of_emod_eq_zero e))
    omega


def redM (p x : Int) : Int := if isF p = true then x % p else 0


end Go.Proofs.Ythlmggogeeedjaa
