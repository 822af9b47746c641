/- Reduction by rows, in plain words: what holds between two columns; what a column without and with a leading one does; a reduced matrix stays as it is. No program is read here. -/
import Derived.Test.YtjcgommdeplbbaaMg3
import Derived.Test.YtjcgommdeplbbaaPower
namespace Go.Proofs.Ytjcgommdeplbbaa
set_option linter.unusedVariables false
set_option linter.unusedSimpArgs false

/-- behind the columns below col: row leading ones, in the columns L -/
structure RF (p : Int) (R C : Nat) (f : Nat → Nat → Int) (row col : Nat) (L : List Nat) : Prop where
  rng : ∀ r c, r < R → c < C → 0 ≤ f r c ∧ f r c < p
  len : L.length = row
  lt : ∀ i, i < row → L.getD i 0 < col
  inc : ∀ i j, i < j → j < row → L.getD i 0 < L.getD j 0
  one : ∀ i, i < row → f i (L.getD i 0) = 1
  zer : ∀ i r, i < row → r < R → r ≠ i → f r (L.getD i 0) = 0
  lef : ∀ i c, i < row → c < L.getD i 0 → f i c = 0
  bel : ∀ r c, row ≤ r → r < R → c < col → f r c = 0
  hrow : row ≤ R
  hcol : col ≤ C
/-- all rows have leading ones -/
structure RS (R C : Nat) (f : Nat → Nat → Int) (L : List Nat) : Prop where
  len : L.length = R
  lt : ∀ i, i < R → L.getD i 0 < C
  inc : ∀ i j, i < j → j < R → L.getD i 0 < L.getD j 0
  one : ∀ i, i < R → f i (L.getD i 0) = 1
  zer : ∀ i r, i < R → r < R → r ≠ i → f r (L.getD i 0) = 0
  lef : ∀ i c, i < R → c < L.getD i 0 → f i c = 0
theorem RF.start {p : Int} {R C : Nat} {f : Nat → Nat → Int} (h : ∀ r c, r < R → c < C → 0 ≤ f r c ∧ f r c < p) : RF p R C f 0 0 [] :=
  ⟨h, rfl, fun _ h => by omega, fun _ _ _ h => by omega, fun _ h => by omega, fun _ _ h => by omega, fun _ _ h => by omega, fun _ _ _ _ h => by omega, Nat.zero_le _, Nat.zero_le _⟩
theorem RF.skip {p : Int} {R C : Nat} {f : Nat → Nat → Int} {row k : Nat} {L : List Nat} (h : RF p R C f row k L) (hk : k < C) (hz : ∀ r, row ≤ r → r < R → f r k = 0) : RF p R C f row (k + 1) L :=
  ⟨h.rng, h.len, fun i hi => by have := h.lt i hi; omega, h.inc, h.one, h.zer, h.lef, fun r c h1 h2 h3 => by
    by_cases e : c = k
    · rw [e]; exact hz r h1 h2
    · exact h.bel r c h1 h2 (by omega), h.hrow, by omega⟩
theorem RF.full {p : Int} {R C : Nat} {f : Nat → Nat → Int} {k : Nat} {L : List Nat} (h : RF p R C f R k L) : RS R C f L :=
  ⟨h.len, fun i hi => by have := h.lt i hi; have := h.hcol; omega, h.inc, h.one, h.zer, h.lef⟩
def swF (f : Nat → Nat → Int) (row t : Nat) (r c : Nat) : Int := if r = row then f t c else if r = t then f row c else f r c
def scF (p u : Int) (row : Nat) (f : Nat → Nat → Int) (r c : Nat) : Int := if r = row then (u * f row c) % p else f r c
def elF (p : Int) (row k : Nat) (f : Nat → Nat → Int) (r c : Nat) : Int := if r = row then f r c else (f r c - f r k * f row c) % p
/-- one column with a leading one -/
def stF (p u : Int) (f : Nat → Nat → Int) (row t k : Nat) : Nat → Nat → Int := elF p row k (scF p u row (swF f row t))
theorem getD_snoc {L : List Nat} {k i : Nat} : (L ++ [k]).getD i 0 = if i < L.length then L.getD i 0 else if i = L.length then k else 0 := by
  by_cases h : i < L.length
  · rw [if_pos h]; simp only [List.getD]; rw [List.getElem?_append_left h]
  · rw [if_neg h]
    by_cases e : i = L.length
    · rw [if_pos e, e]; simp [List.getD]
    · rw [if_neg e]; simp only [List.getD]; rw [List.getElem?_eq_none (by simp; omega)]; rfl
theorem RF.found {p u : Int} {R C : Nat} {f : Nat → Nat → Int} {row k t : Nat} {L : List Nat} (h : RF p R C f row k L) (hp : 2 ≤ p) (hk : k < C) (hr : row ≤ t) (ht : t < R) (hu : (u * f t k) % p = 1) :
    RF p R C (stF p u f row t k) (row + 1) (k + 1) (L ++ [k]) := by
  have hlen := h.len
  have hmod : ∀ x : Int, 0 ≤ x % p ∧ x % p < p := fun x => ⟨Int.emod_nonneg x (by omega), Int.emod_lt_of_pos x (by omega)⟩
  have hone : (1 : Int) % p = 1 := Int.emod_eq_of_lt (by omega) (by omega)
  -- the scaled row
  have hrow : ∀ c, scF p u row (swF f row t) row c = (u * f t c) % p := fun c => by simp [scF, swF]
  have hst : ∀ r c, stF p u f row t k r c = if r = row then (u * f t c) % p else (swF f row t r c - swF f row t r k * ((u * f t c) % p)) % p := fun r c => by
    unfold stF elF
    by_cases e : r = row
    · subst e; rw [if_pos rfl, if_pos rfl, hrow]
    · rw [if_neg e, if_neg e, hrow]
      have : ∀ c, scF p u row (swF f row t) r c = swF f row t r c := fun c => by unfold scF; rw [if_neg e]
      rw [this, this]
  -- left of k the row t is 0, so is the scaled row
  have htl : ∀ c, c < k → f t c = 0 := fun c hc => h.bel t c hr ht hc
  have hsl : ∀ c, c < k → (u * f t c) % p = 0 := fun c hc => by rw [htl c hc]; simp
  have hle : ∀ i, i < row → L.getD i 0 < k := h.lt
  have hg : ∀ i, (L ++ [k]).getD i 0 = if i < row then L.getD i 0 else if i = row then k else 0 := fun i => by rw [getD_snoc, hlen]
  have hgl : ∀ i, i < row → (L ++ [k]).getD i 0 = L.getD i 0 := fun i hi => by rw [hg, if_pos hi]
  have hgk : (L ++ [k]).getD row 0 = k := by rw [hg, if_neg (by omega), if_pos rfl]
  have hsw : ∀ i, i < row → ∀ c, swF f row t i c = f i c := fun i hi c => by unfold swF; rw [if_neg (by omega), if_neg (by omega)]
  refine ⟨fun r c h1 h2 => ?_, by simp [hlen], fun i hi => ?_, fun i j hij hj => ?_, fun i hi => ?_, fun i r hi hrR hri => ?_, fun i c hi hc => ?_, fun r c h1 h2 h3 => ?_, by omega, by omega⟩
  · rw [hst]; split <;> exact hmod _
  · by_cases e : i = row
    · rw [e, hgk]; omega
    · rw [hgl i (by omega)]; have := hle i (by omega); omega
  · by_cases e : j = row
    · rw [e, hgk, hgl i (by omega)]; exact hle i (by omega)
    · rw [hgl j (by omega), hgl i (by omega)]; exact h.inc i j hij (by omega)
  · by_cases e : i = row
    · rw [e, hgk, hst, if_pos rfl]; exact hu
    · have hi2 : i < row := by omega
      rw [hgl i hi2, hst, if_neg e, hsl _ (hle i hi2), hsw i hi2, h.one i hi2]
      simpa using hone
  · by_cases e : i = row
    · rw [e] at hri ⊢
      rw [hgk, hst, if_neg hri, hu]
      simp
    · have hi2 : i < row := by omega
      rw [hgl i hi2, hst]
      by_cases er : r = row
      · rw [if_pos er]; exact hsl _ (hle i hi2)
      · rw [if_neg er, hsl _ (hle i hi2)]
        have : swF f row t r (L.getD i 0) = 0 := by
          unfold swF
          rw [if_neg er]
          by_cases et : r = t
          · rw [if_pos et]; exact h.zer i row hi2 (by omega) (by omega)
          · rw [if_neg et]; exact h.zer i r hi2 hrR hri
        rw [this]; simp
  · by_cases e : i = row
    · rw [e, hgk] at hc
      rw [e, hst, if_pos rfl]; exact hsl c hc
    · have hi2 : i < row := by omega
      rw [hgl i hi2] at hc
      rw [hst, if_neg e, hsl c (by have := hle i hi2; omega), hsw i hi2, h.lef i c hi2 hc]; simp
  · have er : r ≠ row := by omega
    rw [hst, if_neg er]
    by_cases ec : c = k
    · rw [ec, hu]; simp
    · have hck : c < k := by omega
      rw [hsl c hck]
      have : swF f row t r c = 0 := by
        unfold swF
        rw [if_neg er]
        by_cases et : r = t
        · rw [if_pos et]; exact h.bel row c (Nat.le_refl _) (by omega) hck
        · rw [if_neg et]; exact h.bel r c (by omega) h2 hck
      rw [this]; simp
/-- a reduced matrix: the next leading one stands where the row's own is; nothing changes -/
theorem RS.next {R C : Nat} {f : Nat → Nat → Int} {L : List Nat} (h : RS R C f L) {row k : Nat} (hr : row < R) (hk : k ≤ L.getD row 0) :
    (k < L.getD row 0 → ∀ r, row ≤ r → r < R → f r k = 0) ∧ (k = L.getD row 0 → f row k = 1 ∧ ∀ r, r < R → r ≠ row → f r k = 0) := by
  refine ⟨fun hlt r h1 h2 => ?_, fun e => ?_⟩
  · by_cases e : r = row
    · rw [e]; exact h.lef row k hr hlt
    · exact h.lef r k h2 (by have := h.inc row r (by omega) h2; omega)
  · rw [e]; exact ⟨h.one row hr, fun r h1 h2 => h.zer row r hr h1 h2⟩
theorem RS.same {p u : Int} {R C : Nat} {f : Nat → Nat → Int} {L : List Nat} (h : RS R C f L) (hrng : ∀ r c, r < R → c < C → 0 ≤ f r c ∧ f r c < p) {row k : Nat} (hr : row < R) (hk : k = L.getD row 0) (hu : u = 1) {r c : Nat} (h1 : r < R) (h2 : c < C) :
    stF p u f row row k r c = f r c := by
  have hsw : ∀ r c, swF f row row r c = f r c := fun r c => by unfold swF; split <;> simp_all
  have hmod : ∀ r c, r < R → c < C → f r c % p = f r c := fun r c a b => Int.emod_eq_of_lt (hrng r c a b).1 (hrng r c a b).2
  unfold stF elF scF
  by_cases e : r = row
  · subst e
    simp only [if_pos, hsw, hu, Int.one_mul]
    exact hmod r c h1 h2
  · simp only [if_neg e, hsw]
    rw [hk, h.zer row r hr h1 e]
    simp
    exact hmod r c h1 h2
theorem invV_one {p : Int} (hp : isF p = true) : invV p 1 = 1 := by
  rcases isF_cases hp with rfl | rfl | rfl <;> decide
theorem invV_mul {p x : Int} (hp : isF p = true) (h0 : 0 ≤ x) (h1 : x < p) (hx : x ≠ 0) : (invV p x * x) % p = 1 := by
  have hi : invV p x = invN p (x % p) := if_pos hp
  rw [hi, Int.emod_eq_of_lt h0 h1]
  rcases isF_cases hp with rfl | rfl | rfl
  · obtain rfl : x = 1 := by omega
    decide
  · have : x = 1 ∨ x = 2 := by omega
    rcases this with rfl | rfl <;> decide
  · have : x = 1 ∨ x = 2 ∨ x = 3 ∨ x = 4 := by omega
    rcases this with rfl | rfl | rfl | rfl <;> decide
theorem isF_two {p : Int} (hp : isF p = true) : 2 ≤ p := by have := isF_cases hp; omega
/-- if the given matrix is reduced, it has not changed -/
def Stab (R C : Nat) (f0 f : Nat → Nat → Int) (row k : Nat) (L : List Nat) : Prop :=
  ∀ L0, RS R C f0 L0 → (∀ r c, r < R → c < C → f r c = f0 r c) ∧ L = L0.take row ∧ (row < R → k ≤ L0.getD row 0)
theorem Stab.start (R C : Nat) (f0 : Nat → Nat → Int) : Stab R C f0 f0 0 0 [] := fun L0 h => ⟨fun _ _ _ _ => rfl, by simp, fun _ => Nat.zero_le _⟩
theorem Stab.skip {R C : Nat} {f0 f : Nat → Nat → Int} {row k : Nat} {L : List Nat} (h : Stab R C f0 f row k L) (hk : k < C) (hr : row < R) (hz : ∀ r, row ≤ r → r < R → f r k = 0) : Stab R C f0 f row (k + 1) L := by
  intro L0 h0
  obtain ⟨h1, h2, h3⟩ := h L0 h0
  refine ⟨h1, h2, fun hr => ?_⟩
  have h4 := h3 hr
  by_cases e : k = L0.getD row 0
  · have h5 := (h0.next hr h4).2 e
    have h6 := hz row (Nat.le_refl _) hr
    rw [h1 row k hr hk, h5.1] at h6
    omega
  · omega
theorem Stab.found {p : Int} {R C : Nat} {f0 f : Nat → Nat → Int} {row k t : Nat} {L : List Nat} (h : Stab R C f0 f row k L) (hp : isF p = true) (hrng : ∀ r c, r < R → c < C → 0 ≤ f r c ∧ f r c < p) (hk : k < C) (hr : row ≤ t) (ht : t < R) (hx : f t k ≠ 0) (hlow : ∀ r, row ≤ r → r < t → f r k = 0) :
    Stab R C f0 (stF p (invV p (f t k)) f row t k) (row + 1) (k + 1) (L ++ [k]) := by
  intro L0 h0
  obtain ⟨h1, h2, h3⟩ := h L0 h0
  have hrow : row < R := by omega
  have h4 := h3 hrow
  have hn := h0.next hrow h4
  have hke : k = L0.getD row 0 := by
    rcases Nat.lt_or_ge k (L0.getD row 0) with h5 | h5
    · have := hn.1 h5 t hr ht
      rw [← h1 t k ht hk] at this
      exact absurd this hx
    · omega
  have hone : f row k = 1 := by rw [h1 row k hrow hk]; exact (hn.2 hke).1
  have hte : t = row := by
    rcases Nat.lt_or_ge row t with h5 | h5
    · have := hlow row (Nat.le_refl _) h5
      rw [hone] at this; omega
    · omega
  subst hte
  have hrs : RS R C f L0 := ⟨h0.len, h0.lt, h0.inc, fun i hi => by rw [h1 i _ hi (h0.lt i hi)]; exact h0.one i hi, fun i r hi hr hne => by rw [h1 r _ hr (h0.lt i hi)]; exact h0.zer i r hi hr hne, fun i c hi hc => by rw [h1 i c hi (by have := h0.lt i hi; omega)]; exact h0.lef i c hi hc⟩
  refine ⟨fun r c a b => ?_, ?_, fun hr2 => ?_⟩
  · rw [hrs.same hrng hrow hke (by rw [hone]; exact invV_one hp) a b]
    exact h1 r c a b
  · rw [h2, hke, List.take_add_one, List.getElem?_eq_getElem (show t < L0.length by rw [h0.len]; exact hrow)]
    simp [List.getD, show t < L0.length by rw [h0.len]; exact hrow]
  · have := h0.inc t (t + 1) (by omega) hr2
    omega
theorem Stab.fin {p : Int} {R C : Nat} {f0 f : Nat → Nat → Int} {row k : Nat} {L : List Nat} (h : Stab R C f0 f row k L) (hrow : row ≤ R) (he : k = C ∨ row = R) : ∀ L0, RS R C f0 L0 → L = L0 ∧ ∀ r c, r < R → c < C → f r c = f0 r c := by
  intro L0 h0
  obtain ⟨h1, h2, h3⟩ := h L0 h0
  refine ⟨?_, h1⟩
  have hrR : row = R := by
    rcases he with e | e
    · rcases Nat.lt_or_ge row R with h5 | h5
      · have := h3 h5; have := h0.lt row h5; omega
      · omega
    · exact e
  rw [h2, hrR, ← h0.len, List.take_length]
/-- the stages of one column's loops -/
def swJ (f : Nat → Nat → Int) (row t j : Nat) (r c : Nat) : Int := if c < j then swF f row t r c else f r c
def scJ (p u : Int) (row : Nat) (f : Nat → Nat → Int) (j : Nat) (r c : Nat) : Int := if c < j then scF p u row f r c else f r c
def elJ (p : Int) (row k : Nat) (f : Nat → Nat → Int) (n j : Nat) (r c : Nat) : Int := if r < n ∨ (r = n ∧ c < j) then elF p row k f r c else f r c
theorem swJ_step (f : Nat → Nat → Int) {R C row t j : Nat} (hr : row < R) (ht : t < R) (hj : j < C) :
    ((matL R C (swJ f row t j)).set (row * C + j) (f t j)).set (t * C + j) (f row j) = matL R C (swJ f row t (j + 1)) := by
  rw [matL_set _ hr hj, matL_set _ ht hj]
  refine matL_congr fun r c h1 h2 => ?_
  unfold swJ swF
  by_cases hc : c = j
  · subst hc
    by_cases e1 : r = t
    · rw [if_pos ⟨e1, rfl⟩, if_pos (by omega)]
      by_cases e2 : r = row
      · rw [if_pos e2, ← e1, e2]
      · rw [if_neg e2, if_pos e1]
    · rw [if_neg (fun h => e1 h.1)]
      by_cases e2 : r = row
      · rw [if_pos ⟨e2, rfl⟩, if_pos (by omega), if_pos e2]
      · rw [if_neg (fun h => e2 h.1), if_neg (by omega), if_pos (by omega), if_neg e2, if_neg e1]
  · rw [if_neg (fun h => hc h.2), if_neg (fun h => hc h.2)]
    by_cases e : c < j
    · rw [if_pos e, if_pos (show c < j + 1 by omega)]
    · rw [if_neg e, if_neg (show ¬ c < j + 1 by omega)]
theorem swJ_get (f : Nat → Nat → Int) {R C row t j r : Nat} (hr : r < R) (hj : j < C) : (matL R C (swJ f row t j)).getD (r * C + j) 0 = f r j := by
  rw [matL_get _ hr hj]; unfold swJ; rw [if_neg (by omega)]
theorem swJ_zero (f : Nat → Nat → Int) (R C row t : Nat) : matL R C (swJ f row t 0) = matL R C f := matL_congr fun r c _ _ => by unfold swJ; rw [if_neg (by omega)]
theorem swJ_all (f : Nat → Nat → Int) (R C row t : Nat) : matL R C (swJ f row t C) = matL R C (swF f row t) := matL_congr fun r c _ h => by unfold swJ; rw [if_pos h]
theorem scJ_step (p u : Int) (f : Nat → Nat → Int) {R C row j : Nat} (hr : row < R) (hj : j < C) : (matL R C (scJ p u row f j)).set (row * C + j) ((u * f row j) % p) = matL R C (scJ p u row f (j + 1)) := by
  rw [matL_set _ hr hj]
  refine matL_congr fun r c h1 h2 => ?_
  unfold scJ scF
  by_cases hc : c = j
  · subst hc
    by_cases e : r = row
    · rw [if_pos ⟨e, rfl⟩, if_pos (show c < c + 1 by omega), if_pos e]
    · rw [if_neg (fun h => e h.1), if_neg (show ¬ c < c by omega), if_pos (show c < c + 1 by omega), if_neg e]
  · rw [if_neg (fun h => hc h.2)]
    by_cases e : c < j
    · rw [if_pos e, if_pos (show c < j + 1 by omega)]
    · rw [if_neg e, if_neg (show ¬ c < j + 1 by omega)]
theorem scJ_get (p u : Int) (f : Nat → Nat → Int) {R C row j r : Nat} (hr : r < R) (hj : j < C) : (matL R C (scJ p u row f j)).getD (r * C + j) 0 = f r j := by
  rw [matL_get _ hr hj]; unfold scJ; rw [if_neg (by omega)]
theorem scJ_zero (p u : Int) (f : Nat → Nat → Int) (R C row : Nat) : matL R C (scJ p u row f 0) = matL R C f := matL_congr fun r c _ _ => by unfold scJ; rw [if_neg (by omega)]
theorem scJ_all (p u : Int) (f : Nat → Nat → Int) (R C row : Nat) : matL R C (scJ p u row f C) = matL R C (scF p u row f) := matL_congr fun r c _ h => by unfold scJ; rw [if_pos h]
theorem elJ_step (p : Int) (k : Nat) (f : Nat → Nat → Int) {R C row n j : Nat} (hn : n < R) (hj : j < C) (hne : n ≠ row) : (matL R C (elJ p row k f n j)).set (n * C + j) ((f n j - f n k * f row j) % p) = matL R C (elJ p row k f n (j + 1)) := by
  rw [matL_set _ hn hj]
  have he : elF p row k f n j = (f n j - f n k * f row j) % p := if_neg hne
  rw [← he]
  refine matL_congr fun r c h1 h2 => ?_
  unfold elJ
  by_cases hr : r = n
  · subst hr
    by_cases hc : c = j
    · subst hc
      rw [if_pos ⟨rfl, rfl⟩, if_pos (show r < r ∨ (r = r ∧ c < c + 1) by omega)]
    · rw [if_neg (fun h => hc h.2)]
      by_cases e : c < j
      · rw [if_pos (show r < r ∨ (r = r ∧ c < j) by omega), if_pos (show r < r ∨ (r = r ∧ c < j + 1) by omega)]
      · rw [if_neg (show ¬ (r < r ∨ (r = r ∧ c < j)) by omega), if_neg (show ¬ (r < r ∨ (r = r ∧ c < j + 1)) by omega)]
  · rw [if_neg (fun h => hr h.1)]
    by_cases e : r < n
    · rw [if_pos (show r < n ∨ (r = n ∧ c < j) by omega), if_pos (show r < n ∨ (r = n ∧ c < j + 1) by omega)]
    · rw [if_neg (show ¬ (r < n ∨ (r = n ∧ c < j)) by omega), if_neg (show ¬ (r < n ∨ (r = n ∧ c < j + 1)) by omega)]
theorem elJ_get (p : Int) (k : Nat) (f : Nat → Nat → Int) {R C row n j : Nat} (hn : n < R) (hj : j < C) : (matL R C (elJ p row k f n j)).getD (n * C + j) 0 = f n j := by
  rw [matL_get _ hn hj]; unfold elJ; rw [if_neg (by omega)]
theorem elJ_get0 (p : Int) (k : Nat) (f : Nat → Nat → Int) {R C row n c : Nat} (hn : n < R) (hj : c < C) : (matL R C (elJ p row k f n 0)).getD (n * C + c) 0 = f n c := by
  rw [matL_get _ hn hj]; unfold elJ; rw [if_neg (by omega)]
theorem elJ_row (p : Int) (k : Nat) (f : Nat → Nat → Int) {R C row n j c : Nat} (hr : row < R) (hj : c < C) : (matL R C (elJ p row k f n j)).getD (row * C + c) 0 = f row c := by
  rw [matL_get _ hr hj]; unfold elJ elF; rw [if_pos rfl]; split <;> rfl
theorem elJ_next (p : Int) (k : Nat) (f : Nat → Nat → Int) (R C row n : Nat) : matL R C (elJ p row k f n C) = matL R C (elJ p row k f (n + 1) 0) := matL_congr fun r c _ h => by
  unfold elJ
  by_cases e : r < n ∨ (r = n ∧ c < C)
  · rw [if_pos e, if_pos (show r < n + 1 ∨ (r = n + 1 ∧ c < 0) by omega)]
  · rw [if_neg e, if_neg (show ¬ (r < n + 1 ∨ (r = n + 1 ∧ c < 0)) by omega)]
theorem elJ_same (p : Int) (k : Nat) (f : Nat → Nat → Int) (R C row : Nat) : matL R C (elJ p row k f row 0) = matL R C (elJ p row k f (row + 1) 0) := matL_congr fun r c _ h => by
  unfold elJ
  by_cases e : r < row ∨ (r = row ∧ c < 0)
  · rw [if_pos e, if_pos (show r < row + 1 ∨ (r = row + 1 ∧ c < 0) by omega)]
  · rw [if_neg e]
    by_cases e2 : r = row
    · rw [if_pos (show r < row + 1 ∨ (r = row + 1 ∧ c < 0) by omega)]
      unfold elF; rw [if_pos e2]
    · rw [if_neg (show ¬ (r < row + 1 ∨ (r = row + 1 ∧ c < 0)) by omega)]
theorem elJ_zero (p : Int) (k : Nat) (f : Nat → Nat → Int) (R C row : Nat) : matL R C (elJ p row k f 0 0) = matL R C f := matL_congr fun r c _ _ => by unfold elJ; rw [if_neg (by omega)]
theorem elJ_all (p : Int) (k : Nat) (f : Nat → Nat → Int) (R C row : Nat) : matL R C (elJ p row k f R 0) = matL R C (elF p row k f) := matL_congr fun r c h _ => by unfold elJ; rw [if_pos (.inl h)]
end Go.Proofs.Ytjcgommdeplbbaa
