/- FnPaths: the plain law: joined paths end where the second one ends; all paths are those between all pairs; each is a path and not longer than the longest. -/
import Derived.Test.YtndooeffjkofdaaDoorBetI
import Derived.Test.YtndooeffjkofdaaDoorJoin
namespace Go.Proofs.YtndooeffjkofdaaDoor
open Go.RowKit
set_option linter.unusedVariables false
set_option linter.unusedSimpArgs false

theorem curP_app1 (t : List Int) (s : Int) (a b : List Int) {k : Nat} (hk : k ≤ a.length) : curP t s (a ++ b) k = curP t s a k := by
  cases k with
  | zero => rfl
  | succ k =>
    show t.getD ((a ++ b).getD k 0).toNat 0 = t.getD (a.getD k 0).toNat 0
    rw [show (a ++ b).getD k 0 = a.getD k 0 by simp only [List.getD]; rw [List.getElem?_append_left (by omega)]]
theorem getD_app2 (a b : List Int) (j : Nat) : (a ++ b).getD (a.length + j) 0 = b.getD j 0 := by
  simp only [List.getD]
  rw [List.getElem?_append_right (by omega), Nat.add_sub_cancel_left]
theorem curP_app2 (t : List Int) (s s' : Int) (a b : List Int) (h : curP t s a a.length = s') (j : Nat) : curP t s (a ++ b) (a.length + j) = curP t s' b j := by
  cases j with
  | zero => rw [Nat.add_zero, curP_app1 t s a b (Nat.le_refl _), h]; rfl
  | succ j =>
    show t.getD ((a ++ b).getD (a.length + j) 0).toNat 0 = t.getD (b.getD j 0).toNat 0
    rw [getD_app2]
theorem isP_start {n : Int} {f t : List Int} {s : Int} {ar : List Int} (h : isP n f t s ar = true) : inR s 0 (n - 1) = true := by
  unfold isP at h
  simp only [Bool.and_eq_true] at h
  exact h.1.1.2
theorem join_isP {n : Int} {f t : List Int} {s s' : Int} {a b : List Int} (ha : isP n f t s a = true) (hb : isP n f t s' b = true) (he : curP t s a a.length = s') (hl : a.length + b.length ≤ 20) : isP n f t s (a ++ b) = true := by
  obtain ⟨a1, _, a3⟩ := isP_parts ha
  obtain ⟨_, _, b3⟩ := isP_parts hb
  refine isP_of a1 (isP_start ha) (by simpa using hl) (fun k hk => ?_)
  rw [List.length_append] at hk
  by_cases h : k < a.length
  · have := a3 k h
    unfold okP at this ⊢
    rw [curP_app1 t s a b (by omega), show (a ++ b).getD k 0 = a.getD k 0 by simp only [List.getD]; rw [List.getElem?_append_left (by omega)]]
    exact this
  · obtain ⟨j, rfl⟩ : ∃ j, k = a.length + j := ⟨k - a.length, by omega⟩
    have := b3 j (by omega)
    unfold okP at this ⊢
    rw [curP_app2 t s s' a b he, getD_app2]
    exact this
/-- the joined path ends where the second one ends -/
theorem join_end {n : Int} {f t : List Int} {s s' : Int} {a b : List Int} (h : joiOK n f t s a s' b = true) : endP n f t (joiS n f t s a s' b) (joiL n f t s a s' b) = endP n f t s' b := by
  have h0 := h
  unfold joiOK at h0
  simp only [Bool.and_eq_true, decide_eq_true_eq] at h0
  obtain ⟨⟨⟨ha, hb⟩, he⟩, hl⟩ := h0
  rw [endP_ok ha] at he
  have hj := join_isP ha hb he hl
  unfold joiS joiL
  rw [if_pos h, if_pos h, endP_ok hj, endP_ok hb, List.length_append, curP_app2 t s s' a b he]
theorem end_range {n : Int} {f t : List Int} {s : Int} {ar : List Int} (h : isP n f t s ar = true) : 0 ≤ endP n f t s ar ∧ endP n f t s ar < n := by
  rw [endP_ok h]
  obtain ⟨h1, _, h3⟩ := isP_parts h
  have hs := inR_true (isP_start h)
  cases hm : ar.length with
  | zero => show 0 ≤ s ∧ s < n; omega
  | succ m =>
    obtain ⟨e1, e2, e3⟩ := isP_last h hm
    have hn := (isQ_n' h1).1
    obtain ⟨N, hN⟩ := Int.eq_ofNat_of_zero_le (show 0 ≤ n by omega)
    subst hN
    obtain ⟨_, htN, _⟩ := isQ_all h1
    exact htN (ar.getD m 0).toNat (by omega)
theorem cnt_step (e : Pt → Int) (k : Nat) : ∀ L : List Pt, (L.filter (fun p => decide (0 ≤ e p ∧ e p < ((k + 1 : Nat) : Int)))).length = (L.filter (fun p => decide (0 ≤ e p ∧ e p < (k : Int)))).length + (L.filter (fun p => e p == (k : Int))).length
  | [] => rfl
  | p :: L => by
    have ih := cnt_step e k L
    by_cases h1 : e p = (k : Int)
    · have a1 : decide (0 ≤ e p ∧ e p < ((k + 1 : Nat) : Int)) = true := by simp; omega
      have a2 : decide (0 ≤ e p ∧ e p < (k : Int)) = false := by simp; omega
      have a3 : (e p == (k : Int)) = true := by simpa using h1
      rw [List.filter_cons_of_pos (by simpa using a1), List.filter_cons_of_neg (by simpa using a2), List.filter_cons_of_pos (by simpa using a3)]
      simp only [List.length_cons, ih]; omega
    · have a3 : (e p == (k : Int)) = false := by simpa using h1
      by_cases h2 : 0 ≤ e p ∧ e p < (k : Int)
      · have a1 : decide (0 ≤ e p ∧ e p < ((k + 1 : Nat) : Int)) = true := by simp; omega
        have a2 : decide (0 ≤ e p ∧ e p < (k : Int)) = true := by simp; omega
        rw [List.filter_cons_of_pos (by simpa using a1), List.filter_cons_of_pos (by simpa using a2), List.filter_cons_of_neg (by simpa using a3)]
        simp only [List.length_cons, ih]; omega
      · have a1 : decide (0 ≤ e p ∧ e p < ((k + 1 : Nat) : Int)) = false := by simp; omega
        have a2 : decide (0 ≤ e p ∧ e p < (k : Int)) = false := by simp; omega
        rw [List.filter_cons_of_neg (by simpa using a1), List.filter_cons_of_neg (by simpa using a2), List.filter_cons_of_neg (by simpa using a3)]
        exact ih
/-- how many paths have been counted: those from the first v places, and those from v to the first k -/
def cntP (N : Nat) (f t : List Int) (v k : Nat) : Nat := (allP f t v).length + ((pP f t 6 (v : Int)).filter (fun p => decide (0 ≤ endP N f t p.1 p.2 ∧ endP N f t p.1 p.2 < (k : Int)))).length
theorem cntP_zero (N : Nat) (f t : List Int) (v : Nat) : cntP N f t v 0 = (allP f t v).length := by
  unfold cntP
  rw [List.filter_eq_nil_iff.2 (fun p _ => by simp)]
  rfl
theorem cntP_step {N : Nat} {f t : List Int} {v k : Nat} (h : ordOK N f t = true) (hv : v < N) (hk : k < N) : ((cntP N f t v k : Nat) : Int) + cntR N f t v k = ((cntP N f t v (k + 1) : Nat) : Int) := by
  have hb : btwOK N f t v k = true := by
    unfold btwOK inR
    rw [h]
    simp; omega
  unfold cntR btwS
  rw [if_pos hb, if_pos hb]
  have := cnt_step (fun p => endP N f t p.1 p.2) k (pP f t 6 (v : Int))
  unfold cntP btwF
  rw [this]
  omega
theorem pP_path {N : Nat} {f t : List Int} {v : Nat} (h : ordOK N f t = true) (hv : v < N) : ∀ p ∈ pP f t 6 (v : Int), isP N f t p.1 p.2 = true := by
  intro p hp
  have hq : isQ N f t = true := by unfold ordOK at h; simp only [Bool.and_eq_true] at h; exact h.1
  have h0 : isP N f t v [] = true := isP_of hq (by unfold inR; simp; omega) (by simp) (fun j hj => by simp at hj)
  obtain ⟨i, hi, rfl⟩ := List.mem_iff_getElem.1 hp
  have := pP_isP h0 hi
  simpa [List.getD, hi] using this
theorem cntP_full {N : Nat} {f t : List Int} {v : Nat} (h : ordOK N f t = true) (hv : v < N) : cntP N f t v N = (allP f t (v + 1)).length := by
  unfold cntP
  rw [List.filter_eq_self.2 (fun p hp => by
    have := end_range (pP_path h hv p hp)
    simpa using this), allP_succ, List.length_append]
theorem cntP_le {N : Nat} {f t : List Int} {v : Nat} (h : ordOK N f t = true) (hv : v < N) (k : Nat) : cntP N f t v k ≤ 588245 := by
  obtain ⟨h6, _, h5, hN⟩ := isQ_l62 h
  have h1 : cntP N f t v k ≤ (allP f t (v + 1)).length := by
    rw [allP_succ, List.length_append]
    unfold cntP
    exact Nat.add_le_add_left (List.length_filter_le _ _) _
  have h2 := allP_small (f := f) (t := t) h6 (v + 1)
  have : (v + 1) * 117649 ≤ 5 * 117649 := Nat.mul_le_mul_right _ (by simp at h5; omega)
  omega
theorem all_path {n : Int} {f t : List Int} {i : Nat} (hi : i < (allR2 n f t).length) : isP n f t ((allR2 n f t).getD i (0, [])).1 ((allR2 n f t).getD i (0, [])).2 = true := by
  have hm : (allR2 n f t).getD i (0, []) ∈ allR2 n f t := by simp [List.getD, hi]
  generalize (allR2 n f t).getD i (0, []) = p at hm ⊢
  unfold allR2 at hm
  by_cases e : ordOK n f t = true
  · rw [if_pos e] at hm
    obtain ⟨_, h1, _, hN⟩ := isQ_l62 e
    unfold allP at hm
    rw [List.mem_flatMap] at hm
    obtain ⟨x, hx, hp⟩ := hm
    rw [← hN] at e ⊢
    exact pP_path e (List.mem_range.1 hx) p hp
  · rw [if_neg e] at hm; cases hm
theorem mxP_le {s : Int} {L : List Pt} : ∀ {k i : Nat}, i < k → ((L.getD i (0, [])).2.length : Int) ≤ mxP s L k := by
  intro k
  induction k with
  | zero => intro i h; omega
  | succ k ih =>
    intro i h
    unfold mxP
    by_cases hik : i = k
    · subst hik; split <;> omega
    · have := ih (i := i) (by omega)
      split <;> omega
theorem all_lon {n : Int} {f t : List Int} {i : Nat} (hi : i < (allR2 n f t).length) : (((allR2 n f t).getD i (0, [])).2.length : Int) ≤ lonR n f t := by
  unfold lonR
  by_cases e : ordOK n f t = true
  · rw [if_pos e]; exact mxP_le hi
  · have : allR2 n f t = [] := by unfold allR2; rw [if_neg e]
    rw [this] at hi; simp at hi
end Go.Proofs.YtndooeffjkofdaaDoor
