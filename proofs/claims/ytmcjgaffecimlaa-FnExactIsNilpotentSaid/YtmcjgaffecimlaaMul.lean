/- The product of matrices, of the program: times. -/
import Derived.Test.YtmcjgaffecimlaaMat4
import Derived.Test.YtmcjgaffecimlaaCols
namespace Go.Proofs.Ytmcjgaffecimlaa
open Go.RowKit
set_option linter.unusedVariables false
set_option linter.unusedSimpArgs false

/-- the cells of the product, as far as they have been added up: i rows and k terms of the next one -/
def mulS (p : Int) (ca cb : Nat) (la lb : List Int) (i k i' k' : Nat) : Int :=
  if i' < i then mulF p ca cb la lb ca i' k' else if i' = i then mulF p k cb la lb ca i' k' else 0
theorem mul_zero_ (p : Int) (ra ca cb : Nat) (la lb : List Int) : matL ra cb (mulS p ca cb la lb 0 0) = List.replicate (ra * cb) 0 := by
  rw [← matL_zero]
  apply matL_congr
  intro i k _ _
  unfold mulS
  rw [if_neg (by omega)]
  split
  · exact mulF_zero _ _ _ _ _ _
  · rfl
theorem mul_next {p : Int} {ra ca cb i : Nat} {la lb : List Int} : matL ra cb (mulS p ca cb la lb i ca) = matL ra cb (mulS p ca cb la lb (i + 1) 0) := by
  apply matL_congr
  intro i' k' _ _
  unfold mulS
  by_cases h : i' < i
  · rw [if_pos h, if_pos (by omega)]
  · rw [if_neg h]
    by_cases e : i' = i
    · rw [if_pos e, if_pos (by omega)]
    · rw [if_neg e, if_neg (by omega)]
      by_cases e2 : i' = i + 1
      · rw [if_pos e2, mulF_zero]
      · rw [if_neg e2]
theorem mul_done {p : Int} {ra ca cb : Nat} {la lb : List Int} : matL ra cb (mulS p ca cb la lb ra 0) = mulL p ra ca cb la lb := by
  apply matL_congr
  intro i' k' h _
  unfold mulS
  rw [if_pos h]
/-- a multiple of a row is added to a row -/
theorem addAt_mat {p x : Int} {r c i : Nat} {f : Nat → Nat → Int} {lb : List Int} (hi : i < r) (hlb : lb.length = c) :
    addAt p (matL r c f) (i * c) x lb lb.length = matL r c (fun i' k' => if i' = i then (f i' k' + x * lb.getD k' 0) % p else f i' k') := by
  apply List.ext_getElem (by simp [addAt, matL])
  intro t h1 h2
  have ht : t < r * c := by simpa [matL] using h2
  obtain ⟨a, b, e⟩ := mat_rc ht
  have hg : (matL r c f).getD t 0 = f (t / c) (t % c) := by
    have := matL_get f a b
    rw [e] at this; exact this
  simp only [addAt, List.getElem_map, List.getElem_range]
  rw [hg, hlb]
  have hR : (matL r c (fun i' k' => if i' = i then (f i' k' + x * lb.getD k' 0) % p else f i' k'))[t] = if t / c = i then (f (t / c) (t % c) + x * lb.getD (t % c) 0) % p else f (t / c) (t % c) := by
    simp [matL]
  rw [hR]
  by_cases h : t / c = i
  · have h3 : t - i * c = t % c := by rw [← h]; omega
    rw [if_pos (by rw [← h]; omega), if_pos h, h3]
  · rw [if_neg h, if_neg]
    rintro ⟨h3, h4⟩
    apply h
    have h5 : (i + 1) * c = i * c + c := by rw [Nat.add_mul, Nat.one_mul]
    have h6 : i ≤ t / c := (Nat.le_div_iff_mul_le (by omega)).2 h3
    have h7 : t / c < i + 1 := Nat.div_lt_of_lt_mul (by rw [Nat.mul_comm, h5]; exact h4)
    omega
theorem mul_step {p : Int} {ra ca cb i k : Nat} {la lb : List Int} (hi : i < ra) (hr : (rowL cb k lb).length = cb) :
    addAt p (matL ra cb (mulS p ca cb la lb i k)) (i * cb) (la.getD (i * ca + k) 0) (rowL cb k lb) (rowL cb k lb).length = matL ra cb (mulS p ca cb la lb i (k + 1)) := by
  rw [addAt_mat hi hr]
  apply matL_congr
  intro i' k' _ hk'
  unfold mulS
  by_cases h : i' = i
  · subst h
    rw [if_pos rfl, if_neg (by omega), if_pos rfl, if_neg (by omega), if_pos rfl, rowL_get hk']
    exact mulF_step k cb la lb ca i' k'
  · rw [if_neg h]
    by_cases h2 : i' < i
    · rw [if_pos h2, if_pos h2]
    · rw [if_neg h2, if_neg h, if_neg h2, if_neg h]
theorem mulF_bd {p : Int} (hp : 2 ≤ p ∧ p ≤ 5) (n cb : Nat) (la lb : List Int) (ca i k : Nat) : 0 ≤ mulF p n cb la lb ca i k ∧ mulF p n cb la lb ca i k ≤ 4 := by
  unfold mulF
  have h1 := Int.emod_nonneg (sumTo (fun j => la.getD (i * ca + j) 0 * lb.getD (j * cb + k) 0) n) (show p ≠ 0 by omega)
  have h2 := Int.emod_lt_of_pos (sumTo (fun j => la.getD (i * ca + j) 0 * lb.getD (j * cb + k) 0) n) (show 0 < p by omega)
  omega
theorem mulS_bd {p : Int} (hp : 2 ≤ p ∧ p ≤ 5) (ca cb : Nat) (la lb : List Int) (i k i' k' : Nat) : 0 ≤ mulS p ca cb la lb i k i' k' ∧ mulS p ca cb la lb i k i' k' ≤ 4 := by
  unfold mulS
  split
  · exact mulF_bd hp _ _ _ _ _ _ _
  · split
    · exact mulF_bd hp _ _ _ _ _ _ _
    · omega
theorem matL_bd {r c : Nat} {f : Nat → Nat → Int} {M : Int} (h : ∀ i k, 0 ≤ f i k ∧ f i k ≤ M) (hM : 0 ≤ M) (t : Nat) : 0 ≤ (matL r c f).getD t 0 ∧ (matL r c f).getD t 0 ≤ M := by
  rcases Nat.lt_or_ge t (r * c) with ht | ht
  · obtain ⟨a, b, e⟩ := mat_rc ht
    have := matL_get f a b
    rw [e] at this
    rw [this]; exact h _ _
  · have : (matL r c f).getD t 0 = 0 := by simp [List.getD, List.getElem?_eq_none (show (matL r c f).length ≤ t by rw [matL_len]; exact ht)]
    rw [this]; omega

end Go.Proofs.Ytmcjgaffecimlaa
