/- The transpose, of the reference. -/
import Derived.Test.YtmcjgaffecimlaaMB
import Derived.Test.YtmcjgaffecimlaaMat2
import Derived.Test.YtmcjgaffecimlaaMatL
namespace Go.Proofs.Ytmcjgaffecimlaa
open Go.RowKit
set_option linter.unusedVariables false
set_option linter.unusedSimpArgs false

/-- the transpose of a matrix of r rows and c columns, as far as it has been laid: i rows and k numbers of the next one -/
def trF (c : Nat) (l : List Int) (i k i' k' : Nat) : Int := if k' < i ∨ k' = i ∧ i' < k then l.getD (k' * c + i') 0 else 0
theorem tr_zero (r c : Nat) (l : List Int) : matL c r (trF c l 0 0) = List.replicate (c * r) 0 := by
  rw [← matL_zero]
  apply matL_congr
  intro i k _ _
  unfold trF
  rw [if_neg (by omega)]
theorem tr_step {r c i k : Nat} {l : List Int} (hi : i < r) (hk : k < c) : (matL c r (trF c l i k)).set (k * r + i) (l.getD (i * c + k) 0) = matL c r (trF c l i (k + 1)) := by
  rw [matL_set _ hk hi]
  apply matL_congr
  intro i' k' _ _
  unfold trF
  by_cases h : i' = k ∧ k' = i
  · obtain ⟨rfl, rfl⟩ := h
    rw [if_pos ⟨rfl, rfl⟩, if_pos (by omega)]
  · rw [if_neg h]
    by_cases h2 : k' < i ∨ k' = i ∧ i' < k
    · rw [if_pos h2, if_pos (by omega)]
    · rw [if_neg h2, if_neg (by omega)]
theorem tr_next {r c i : Nat} {l : List Int} : matL c r (trF c l i c) = matL c r (trF c l (i + 1) 0) := by
  apply matL_congr
  intro i' k' h1 _
  unfold trF
  by_cases h : k' < i + 1
  · rw [if_pos (by omega), if_pos (by omega)]
  · rw [if_neg (by omega), if_neg (by omega)]
theorem tr_done {r c : Nat} {l : List Int} : matL c r (trF c l r 0) = trL r c l := by
  apply matL_congr
  intro i' k' _ h
  unfold trF
  rw [if_pos (by omega)]


end Go.Proofs.Ytmcjgaffecimlaa
