/- The plain law of IsConnectedQuiver: the walk over the vertices reached. -/
import Derived.Test.YtpenaobodcjimaaSinks
namespace Go.Proofs.Ytpenaobodcjimaa
open Go.RowKit
set_option linter.unusedVariables false
set_option linter.unusedSimpArgs false

/-- one arrow end: y is reached from x = c -/
def stepC (x y c : Int) (L : List Int) : List Int := if (x == c && !memI y L) = true then L ++ [y] else L
/-- the first i arrows, both ways, out of the vertex c -/
def arrC (f t : List Int) (c : Int) (L : List Int) : Nat → List Int
  | 0 => L
  | i + 1 => stepC (t.getD i 0) (f.getD i 0) c (stepC (f.getD i 0) (t.getD i 0) c (arrC f t c L i))
/-- what is reached when k vertices have been looked at -/
def bfsC (f t : List Int) : Nat → List Int
  | 0 => [0]
  | k + 1 => arrC f t ((bfsC f t k).getD k 0) (bfsC f t k) f.length
def stopC (f t : List Int) : Nat → Nat → Nat
  | 0, k => k
  | u + 1, k => if k < (bfsC f t k).length then stopC f t u (k + 1) else k
def conQ (n : Int) (f t : List Int) : Bool := isQ n f t && decide (((bfsC f t (stopC f t 6 0)).length : Int) = n)

theorem stopC_at {f t : List Int} {u k K : Nat} (hk : k ≤ K) (hu : K ≤ k + u) (h : ∀ j, j < K → j < (bfsC f t j).length) (hK : ¬ K < (bfsC f t K).length) : stopC f t u k = K := by
  induction u generalizing k with
  | zero => simp only [stopC]; omega
  | succ u ih =>
    simp only [stopC]
    by_cases e : k = K
    · subst e; rw [if_neg hK]
    · rw [if_pos (h k (by omega))]
      exact ih (by omega) (by omega)
theorem stepC_pre (x y c : Int) (L : List Int) : ∃ s, stepC x y c L = L ++ s := by
  unfold stepC
  split
  · exact ⟨_, rfl⟩
  · exact ⟨[], by simp⟩
theorem arrC_pre (f t : List Int) (c : Int) (L : List Int) (i : Nat) : ∃ s, arrC f t c L i = L ++ s := by
  induction i with
  | zero => exact ⟨[], by simp [arrC]⟩
  | succ i ih =>
    obtain ⟨s, hs⟩ := ih
    obtain ⟨s1, h1⟩ := stepC_pre (f.getD i 0) (t.getD i 0) c (arrC f t c L i)
    obtain ⟨s2, h2⟩ := stepC_pre (t.getD i 0) (f.getD i 0) c (stepC (f.getD i 0) (t.getD i 0) c (arrC f t c L i))
    exact ⟨s ++ s1 ++ s2, by simp only [arrC]; rw [h2, h1, hs]; simp⟩
theorem getD_pre {L s : List Int} {k : Nat} (h : k < L.length) : (L ++ s).getD k 0 = L.getD k 0 := by
  simp [List.getD, List.getElem?_append_left h]
theorem memI_app (x y : Int) (L : List Int) : memI x (L ++ [y]) = (memI x L || x == y) := by
  simp [memI, List.any_append]
/-- all are vertices, and the vertices not reached are n less those reached -/
def goodC (n : Nat) (L : List Int) : Prop := L.length + (freeP L n).length = n
theorem free_app {L : List Int} {y : Nat} (hy : memI y L = false) (n : Nat) : (freeP (L ++ [(y : Int)]) n).length + (if y < n then 1 else 0) = (freeP L n).length := by
  induction n with
  | zero => simp [freeP]
  | succ n ih =>
    simp only [freeP]
    by_cases e : n = y
    · subst e
      have h1 : memI (n : Int) (L ++ [(n : Int)]) = true := by rw [memI_app]; simp
      rw [if_pos h1, hy]
      simp only [Nat.lt_irrefl, if_false] at ih
      simp; omega
    · have h1 : memI (n : Int) (L ++ [(y : Int)]) = memI (n : Int) L := by
        rw [memI_app]
        have : ((n : Int) == (y : Int)) = false := by simp; omega
        simp [this]
      rw [h1]
      have h2 : (if y < n + 1 then 1 else 0) = (if y < n then 1 else 0 : Nat) := by
        by_cases h : y < n
        · rw [if_pos h, if_pos (by omega)]
        · rw [if_neg h, if_neg (by omega)]
      rw [h2]
      split
      · exact ih
      · simp only [List.length_append, List.length_cons, List.length_nil]; omega
theorem good_step {n : Nat} {x y c : Int} {L : List Int} (h : goodC n L) (h0 : 0 ≤ y) (h1 : y < n) : goodC n (stepC x y c L) := by
  unfold stepC
  split
  · rename_i hc
    simp only [Bool.and_eq_true, Bool.not_eq_true'] at hc
    obtain ⟨Y, rfl⟩ := Int.eq_ofNat_of_zero_le h0
    have := free_app hc.2 n
    rw [if_pos (by omega)] at this
    unfold goodC at h ⊢
    simp only [List.length_append, List.length_cons, List.length_nil]
    omega
  · exact h
theorem good_arr {n : Nat} {f t : List Int} {c : Int} {L : List Int} (h : goodC n L) (hf : ∀ j, j < f.length → 0 ≤ f.getD j 0 ∧ f.getD j 0 < n) (ht : ∀ j, j < f.length → 0 ≤ t.getD j 0 ∧ t.getD j 0 < n) (i : Nat) (hi : i ≤ f.length) : goodC n (arrC f t c L i) := by
  induction i with
  | zero => exact h
  | succ i ih =>
    simp only [arrC]
    exact good_step (good_step (ih (by omega)) (ht i (by omega)).1 (ht i (by omega)).2) (hf i (by omega)).1 (hf i (by omega)).2
theorem good_len {n : Nat} {L : List Int} (h : goodC n L) : L.length ≤ n := by unfold goodC at h; omega

end Go.Proofs.Ytpenaobodcjimaa
