/- Two matrices on the diagonal: how the cells are laid, row by row (the plain law of l3Block). -/
import Derived.Test.YtmcjgaffecimlaaMatL
namespace Go.Proofs.Ytmcjgaffecimlaa
open Go.RowKit

/-- the first matrix, as far as it has been laid: i rows and k numbers of the next one -/
def bkA (ca : Nat) (la : List Int) (i k i' k' : Nat) : Int := if k' < ca ∧ (i' < i ∨ i' = i ∧ k' < k) then la.getD (i' * ca + k') 0 else 0
/-- the second matrix, behind the whole first one -/
def bkB (ra ca cb : Nat) (la lb : List Int) (i k i' k' : Nat) : Int :=
  if i' < ra then (if k' < ca then la.getD (i' * ca + k') 0 else 0)
  else if ca ≤ k' ∧ (i' < ra + i ∨ i' = ra + i ∧ k' < ca + k) then lb.getD ((i' - ra) * cb + (k' - ca)) 0 else 0
theorem bkA_zero (R C ca : Nat) (la : List Int) : matL R C (bkA ca la 0 0) = List.replicate (R * C) 0 := by
  rw [← matL_zero]
  apply matL_congr
  intro i k _ _
  unfold bkA
  rw [if_neg (by omega)]
theorem bkA_step {R C ca i k : Nat} {la : List Int} (hi : i < R) (hc : ca ≤ C) (hk : k < ca) : (matL R C (bkA ca la i k)).set (i * C + k) (la.getD (i * ca + k) 0) = matL R C (bkA ca la i (k + 1)) := by
  rw [matL_set _ hi (by omega)]
  apply matL_congr
  intro i' k' _ _
  unfold bkA
  by_cases h : i' = i ∧ k' = k
  · obtain ⟨rfl, rfl⟩ := h
    rw [if_pos ⟨rfl, rfl⟩, if_pos (by omega)]
  · rw [if_neg h]
    by_cases h2 : k' < ca ∧ (i' < i ∨ i' = i ∧ k' < k)
    · rw [if_pos h2, if_pos (by omega)]
    · rw [if_neg h2, if_neg (by omega)]
theorem bkA_next {R C ca i : Nat} {la : List Int} : matL R C (bkA ca la i ca) = matL R C (bkA ca la (i + 1) 0) := by
  apply matL_congr
  intro i' k' _ _
  unfold bkA
  by_cases h : k' < ca ∧ i' < i + 1
  · rw [if_pos (by omega), if_pos (by omega)]
  · rw [if_neg (by omega), if_neg (by omega)]
theorem bkA_done {R C ra ca cb : Nat} {la lb : List Int} : matL R C (bkA ca la ra 0) = matL R C (bkB ra ca cb la lb 0 0) := by
  apply matL_congr
  intro i' k' _ _
  unfold bkA bkB
  by_cases h : i' < ra
  · rw [if_pos h]
    by_cases h2 : k' < ca
    · rw [if_pos (by omega), if_pos h2]
    · rw [if_neg (by omega), if_neg h2]
  · rw [if_neg (by omega), if_neg h, if_neg (by omega)]
theorem bkB_step {R C ra ca cb i k : Nat} {la lb : List Int} (hi : ra + i < R) (hk : ca + k < C) : (matL R C (bkB ra ca cb la lb i k)).set ((ra + i) * C + (ca + k)) (lb.getD (i * cb + k) 0) = matL R C (bkB ra ca cb la lb i (k + 1)) := by
  rw [matL_set _ hi hk]
  apply matL_congr
  intro i' k' _ _
  unfold bkB
  by_cases h : i' = ra + i ∧ k' = ca + k
  · obtain ⟨rfl, rfl⟩ := h
    rw [if_pos ⟨rfl, rfl⟩, if_neg (by omega), if_pos (by omega), Nat.add_sub_cancel_left, Nat.add_sub_cancel_left]
  · rw [if_neg h]
    by_cases h0 : i' < ra
    · rw [if_pos h0, if_pos h0]
    · rw [if_neg h0, if_neg h0]
      by_cases h2 : ca ≤ k' ∧ (i' < ra + i ∨ i' = ra + i ∧ k' < ca + k)
      · rw [if_pos h2, if_pos (by omega)]
      · rw [if_neg h2, if_neg (by omega)]
theorem bkB_next {R C ra ca cb i : Nat} {la lb : List Int} (hC : C = ca + cb) : matL R C (bkB ra ca cb la lb i cb) = matL R C (bkB ra ca cb la lb (i + 1) 0) := by
  apply matL_congr
  intro i' k' _ _
  unfold bkB
  by_cases h0 : i' < ra
  · rw [if_pos h0, if_pos h0]
  · rw [if_neg h0, if_neg h0]
    by_cases h : ca ≤ k' ∧ i' < ra + i + 1
    · rw [if_pos (by omega), if_pos (by omega)]
    · rw [if_neg (by omega), if_neg (by omega)]
theorem bkB_done {R C ra rb ca cb : Nat} {la lb : List Int} (hR : R = ra + rb) (hC : C = ca + cb) : matL R C (bkB ra ca cb la lb rb 0) = blkL ra ca rb cb la lb := by
  subst hR; subst hC
  apply matL_congr
  intro i' k' _ _
  unfold bkB blkF
  by_cases h0 : i' < ra
  · rw [if_pos h0, if_pos h0]
  · rw [if_neg h0, if_neg h0]
    by_cases h : k' < ca
    · rw [if_neg (by omega), if_pos h]
    · rw [if_pos (by omega), if_neg h]

end Go.Proofs.Ytmcjgaffecimlaa
