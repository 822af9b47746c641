/- Reduced bases: from the reduction of the rows to the test (plain). -/
import Derived.Test.YtjcgommdeplbbaaSpB
import Derived.Test.YtjcgommdeplbbaaRrB
namespace Go.Proofs.Ytjcgommdeplbbaa
open Go.RowKit
set_option linter.unusedVariables false
set_option linter.unusedSimpArgs false

theorem isV_elem2 {p : Int} {l : List Int} (h : isV p l = true) {j : Nat} (hj : j < l.length) : 0 ≤ l.getD j 0 ∧ l.getD j 0 < p := by
  unfold isV at h
  simp only [Bool.and_eq_true] at h
  have h2 := h.2
  unfold okV at h2
  rw [List.all_eq_true] at h2
  have := inR_true (h2 l[j] (List.getElem_mem hj))
  simp only [List.getD, List.getElem?_eq_getElem hj, Option.getD_some]
  omega
theorem flat_mat {n : Nat} : ∀ {B : List (List Int)}, (∀ b ∈ B, b.length = n) → B.flatten = matL B.length n (fnB B) := by
  intro B hB
  have hl : B.flatten.length = B.length * n := by
    induction B with
    | nil => simp
    | cons b B ih =>
      rw [List.flatten_cons, List.length_append, ih (fun x hx => hB x (by simp [hx])), hB b (by simp), List.length_cons, Nat.succ_mul]
      omega
  rw [matL_of hl]
  refine matL_congr fun i k hi hk => ?_
  clear hl
  induction B generalizing i with
  | nil => simp at hi
  | cons b B ih =>
    have hb := hB b (by simp)
    cases i with
    | zero =>
      simp only [List.flatten_cons, Nat.zero_mul, Nat.zero_add, fnB, List.getD_cons_zero, List.getD]
      rw [List.getElem?_append_left (by omega)]
      rfl
    | succ i =>
      have h := ih (fun x hx => hB x (by simp [hx])) i (by simpa using hi)
      simp only [fnB, List.getD_cons_succ] at h ⊢
      rw [← h]
      simp only [List.flatten_cons, List.getD]
      rw [Nat.succ_mul, List.getElem?_append_right (by omega), hb]
      congr 2
      omega
theorem rows_mat {R n : Nat} {f : Nat → Nat → Int} {k : Nat} (hk : k ≤ R) : rowsK n (matL R n f) k = (List.range k).map fun i => (List.range n).map (f i) := by
  unfold rowsK
  refine List.map_congr_left fun i hi => ?_
  have hi2 : i < k := List.mem_range.1 hi
  have hl := rowL_len (i := i) (matL_len R n f) (by omega)
  apply List.ext_getElem (by simp [hl])
  intro j h1 h2
  have hj : j < n := by omega
  have := rowL_get (i := i) (l := matL R n f) hj
  rw [matL_get f (by omega) hj] at this
  simp only [List.getD, List.getElem?_eq_getElem h1, Option.getD_some] at this
  simpa using this
theorem rows_fn {n : Nat} {B : List (List Int)} (hB : ∀ b ∈ B, b.length = n) : ((List.range B.length).map fun i => (List.range n).map (fnB B i)) = B := by
  apply List.ext_getElem (by simp)
  intro i h1 h2
  simp only [List.getElem_map, List.getElem_range]
  apply List.ext_getElem (by simp [hB _ (List.getElem_mem h2)])
  intro j h3 h4
  simp [fnB, List.getD, h2, h4]
theorem bas_eq {p : Int} {n : Nat} {B : List (List Int)} (hB : ∀ b ∈ B, b.length = n) {f : Nat → Nat → Int} {Ln : List Nat} {row col : Nat} (h : RF p B.length n f row col Ln) (he : col = n ∨ row = B.length)
    (hst : ∀ L0, RS B.length n (fnB B) L0 → Ln = L0 ∧ ∀ r c, r < B.length → c < n → f r c = fnB B r c) : decide (rowsK n (matL B.length n f) row = B) = rrB B := by
  rw [rows_mat h.hrow]
  by_cases hr : rrB B = true
  · rw [hr]
    obtain ⟨h1, h2⟩ := hst _ (rs_of_rr hB hr)
    have hrow : row = B.length := by rw [← h.len, h1]; simp
    rw [decide_eq_true_eq, hrow]
    conv => rhs; rw [← rows_fn hB]
    refine List.map_congr_left fun i hi => List.map_congr_left fun j hj => h2 i j (List.mem_range.1 hi) (List.mem_range.1 hj)
  · have hrf : rrB B = false := by simpa using hr
    rw [hrf, decide_eq_false_iff_not]
    intro e
    apply hr
    have hrow : row = B.length := by have := congrArg List.length e; simpa using this
    subst hrow
    have hf : ∀ r c, r < B.length → c < n → f r c = fnB B r c := fun r c a b => by
      have h1 := congrArg (fun (l : List (List Int)) => (l.getD r []).getD c 0) e
      simp [List.getD, a, b] at h1
      simp only [fnB, List.getD, List.getElem?_eq_getElem a, Option.getD_some]
      simpa using h1
    have hs := h.full
    have : RS B.length n (fnB B) Ln := ⟨hs.len, hs.lt, hs.inc, fun i hi => by rw [← hf i _ hi (hs.lt i hi)]; exact hs.one i hi, fun i r hi hr hne => by rw [← hf r _ hr (hs.lt i hi)]; exact hs.zer i r hi hr hne, fun i c hi hc => by rw [← hf i c hi (by have := hs.lt i hi; omega)]; exact hs.lef i c hi hc⟩
    exact rr_of_rs hB this
end Go.Proofs.Ytjcgommdeplbbaa
