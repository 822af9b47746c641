/- Plain words on the cells of a matrix: a list given by rows and columns, sums, products, transposes, blocks. No program is read here. -/
import Derived.Test.YtmcjgaffecimlaaBase
namespace Go.Proofs.Ytmcjgaffecimlaa
set_option linter.unusedVariables false
set_option linter.unusedSimpArgs false

/-- the cells of a matrix of r rows and c columns, row by row -/
def matL (r c : Nat) (f : Nat → Nat → Int) : List Int := (List.range (r * c)).map fun (t : Nat) => f (t / c) (t % c)
theorem matL_len (r c : Nat) (f : Nat → Nat → Int) : (matL r c f).length = r * c := by simp [matL]
theorem mat_at {r c i k : Nat} (hi : i < r) (hk : k < c) : i * c + k < r * c := by
  have : (i + 1) * c ≤ r * c := Nat.mul_le_mul_right c (by omega)
  rw [Nat.add_mul] at this; omega
theorem mat_div {c i k : Nat} (hk : k < c) : (i * c + k) / c = i := by
  rw [Nat.mul_comm, Nat.mul_add_div (by omega), Nat.div_eq_of_lt hk]; rfl
theorem mat_mod {c i k : Nat} (hk : k < c) : (i * c + k) % c = k := by
  rw [Nat.mul_comm, Nat.mul_add_mod, Nat.mod_eq_of_lt hk]
theorem mat_rc {r c t : Nat} (h : t < r * c) : t / c < r ∧ t % c < c ∧ t / c * c + t % c = t := by
  have hc : 0 < c := by
    rcases Nat.eq_zero_or_pos c with e | e
    · rw [e, Nat.mul_zero] at h; omega
    · exact e
  refine ⟨Nat.div_lt_of_lt_mul (by rw [Nat.mul_comm]; exact h), Nat.mod_lt _ hc, ?_⟩
  have := Nat.div_add_mod t c
  rw [Nat.mul_comm] at this; exact this
theorem matL_get {r c i k : Nat} (f : Nat → Nat → Int) (hi : i < r) (hk : k < c) : (matL r c f).getD (i * c + k) 0 = f i k := by
  have h := mat_at hi hk
  simp [matL, List.getD, h, mat_div hk, mat_mod hk]
theorem matL_congr {r c : Nat} {f g : Nat → Nat → Int} (h : ∀ i k, i < r → k < c → f i k = g i k) : matL r c f = matL r c g := by
  apply List.ext_getElem (by simp [matL])
  intro t h1 h2
  simp only [matL, List.getElem_map, List.getElem_range]
  have ht : t < r * c := by simpa [matL] using h1
  obtain ⟨a, b, _⟩ := mat_rc ht
  exact h _ _ a b
theorem matL_of {r c : Nat} {L : List Int} (hL : L.length = r * c) : L = matL r c (fun i k => L.getD (i * c + k) 0) := by
  apply List.ext_getElem (by simp [matL, hL])
  intro t h1 h2
  simp only [matL, List.getElem_map, List.getElem_range]
  obtain ⟨_, _, e⟩ := mat_rc (show t < r * c by omega)
  rw [e]
  simp [List.getD, h1]
theorem matL_set {r c i k : Nat} (f : Nat → Nat → Int) (hi : i < r) (hk : k < c) (x : Int) :
    (matL r c f).set (i * c + k) x = matL r c (fun i' k' => if i' = i ∧ k' = k then x else f i' k') := by
  apply List.ext_getElem (by simp [matL])
  intro t h1 h2
  have ht : t < r * c := by simpa [matL] using h1
  rw [List.getElem_set]
  simp only [matL, List.getElem_map, List.getElem_range]
  by_cases h : i * c + k = t
  · subst h
    rw [if_pos rfl, if_pos ⟨mat_div hk, mat_mod hk⟩]
  · rw [if_neg h, if_neg]
    rintro ⟨h4, h5⟩
    have := (mat_rc ht).2.2
    rw [h4, h5] at this
    exact h this
theorem matL_zero (r c : Nat) : matL r c (fun _ _ => 0) = List.replicate (r * c) 0 := by
  apply List.ext_getElem (by simp [matL])
  intro t h1 h2
  simp [matL]

/-- the sum of the first n -/
def sumTo (f : Nat → Int) : Nat → Int
  | 0 => 0
  | n + 1 => sumTo f n + f n
theorem sumTo_congr {f g : Nat → Int} {n : Nat} (h : ∀ j, j < n → f j = g j) : sumTo f n = sumTo g n := by
  induction n with
  | zero => rfl
  | succ n ih => simp only [sumTo]; rw [ih (fun j hj => h j (by omega)), h n (by omega)]
theorem sumTo_bd {f : Nat → Int} {n : Nat} {M : Int} (h : ∀ j, j < n → 0 ≤ f j ∧ f j ≤ M) : 0 ≤ sumTo f n ∧ sumTo f n ≤ n * M := by
  induction n with
  | zero => simp [sumTo]
  | succ n ih =>
    simp only [sumTo]
    have h1 := ih (fun j hj => h j (by omega))
    have h2 := h n (by omega)
    have e : ((n + 1 : Nat) : Int) * M = n * M + M := by rw [Int.natCast_succ, Int.add_mul, Int.one_mul]
    rw [e]
    omega
/-- the product -/
def mulF (p : Int) (n cb : Nat) (la lb : List Int) (ca : Nat) (i k : Nat) : Int := sumTo (fun j => la.getD (i * ca + j) 0 * lb.getD (j * cb + k) 0) n % p
def mulL (p : Int) (ra ca cb : Nat) (la lb : List Int) : List Int := matL ra cb (fun i k => mulF p ca cb la lb ca i k)
/-- the transpose of a matrix of r rows and c columns -/
def trL (r c : Nat) (l : List Int) : List Int := matL c r (fun i k => l.getD (k * c + i) 0)
/-- two matrices on the diagonal -/
def blkF (ra ca rb cb : Nat) (la lb : List Int) (i k : Nat) : Int :=
  if i < ra then (if k < ca then la.getD (i * ca + k) 0 else 0) else (if k < ca then 0 else lb.getD ((i - ra) * cb + (k - ca)) 0)
def blkL (ra ca rb cb : Nat) (la lb : List Int) : List Int := matL (ra + rb) (ca + cb) (blkF ra ca rb cb la lb)

theorem mulF_step {p : Int} (n cb : Nat) (la lb : List Int) (ca i k : Nat) :
    (mulF p n cb la lb ca i k + la.getD (i * ca + n) 0 * lb.getD (n * cb + k) 0) % p = mulF p (n + 1) cb la lb ca i k := by
  unfold mulF
  simp only [sumTo]
  rw [Int.emod_add_emod]
theorem mulF_zero {p : Int} (cb : Nat) (la lb : List Int) (ca i k : Nat) : mulF p 0 cb la lb ca i k = 0 := by simp [mulF, sumTo]

end Go.Proofs.Ytmcjgaffecimlaa
