/- All paths of a quiver: the list; the longest length. -/
import Derived.Test.YthlmggogeeedjaaPtsB
namespace Go.Proofs.Ythlmggogeeedjaa
open Go.RowKit
set_option linter.unusedVariables false
set_option linter.unusedSimpArgs false

/-- all paths that begin at one of the first k places -/
def allP (f t : List Int) (k : Nat) : List Pt := (List.range k).flatMap fun (x : Nat) => pP f t 6 (x : Int)
theorem allP_succ (f t : List Int) (k : Nat) : allP f t (k + 1) = allP f t k ++ pP f t 6 (k : Int) := by simp [allP, List.range_succ]
theorem pP_pos (f t : List Int) (d : Nat) (v : Int) : 0 < (pP f t d v).length := by
  rw [pP_len]
  cases d <;> simp [pF]
theorem pP_small {f t : List Int} (h6 : f.length ≤ 6) (v : Int) : (pP f t 6 v).length ≤ 117649 := by rw [pP_len]; exact pF_small h6 (Nat.le_refl _) v
theorem allP_small {f t : List Int} (h6 : f.length ≤ 6) : ∀ k, (allP f t k).length ≤ k * 117649 := by
  intro k; induction k with
  | zero => simp [allP]
  | succ k ih => rw [allP_succ, List.length_append, Nat.succ_mul]; have := pP_small (f := f) (t := t) h6 (k : Int); omega
theorem allP_arr {f t : List Int} (k : Nat) : ∀ p ∈ allP f t k, p.2.length ≤ 6 := by
  intro p hp
  unfold allP at hp
  rw [List.mem_flatMap] at hp
  obtain ⟨x, _, hx⟩ := hp
  unfold pP at hx
  rw [List.mem_map] at hx
  obtain ⟨q, hq, rfl⟩ := hx
  exact pF_arr 6 _ q hq
def allR2 (n : Int) (f t : List Int) : List Pt := if ordOK n f t = true then allP f t n.toNat else []
theorem allR2_arr {n : Int} {f t : List Int} {i : Nat} (h : i < (allR2 n f t).length) : ((allR2 n f t).getD i (0, [])).2.length ≤ 6 := by
  have hm : (allR2 n f t).getD i (0, []) ∈ allR2 n f t := by simp [List.getD, h]
  unfold allR2 at hm ⊢
  by_cases e : ordOK n f t = true
  · rw [if_pos e] at hm ⊢; exact allP_arr _ _ hm
  · rw [if_neg e] at hm; cases hm
theorem isQ_l62 {n : Int} {f t : List Int} (h : ordOK n f t = true) : f.length ≤ 6 ∧ 1 ≤ n.toNat ∧ n.toNat ≤ 5 ∧ ((n.toNat : Nat) : Int) = n := by
  unfold ordOK at h
  simp only [Bool.and_eq_true] at h
  have h1 := isQ_n' h.1
  have h2 := isQ_len h.1
  refine ⟨h2.2, by omega, by omega, by omega⟩
theorem allR2_small {n : Int} {f t : List Int} : (allR2 n f t).length ≤ 588245 := by
  unfold allR2
  by_cases e : ordOK n f t = true
  · rw [if_pos e]
    obtain ⟨h6, _, h5, _⟩ := isQ_l62 e
    have h := allP_small (f := f) (t := t) h6 n.toNat
    have : n.toNat * 117649 ≤ 5 * 117649 := Nat.mul_le_mul_right _ h5
    omega
  · rw [if_neg e]; simp
theorem allR2_pos {n : Int} {f t : List Int} (h : ordOK n f t = true) : 0 < (allR2 n f t).length := by
  unfold allR2
  rw [if_pos h]
  obtain ⟨_, h1, _, _⟩ := isQ_l62 h
  obtain ⟨m, hm⟩ : ∃ m, n.toNat = m + 1 := ⟨n.toNat - 1, by omega⟩
  rw [hm, allP_succ, List.length_append]
  have := pP_pos f t 6 (m : Int)
  omega
theorem allR2_no {n : Int} {f t : List Int} (h : ordOK n f t = false) : allR2 n f t = [] := by simp [allR2, h]
/-- new paths and a word -/
def PtsOK (L : List Pt) (ok : Bool) (w : World) (e : Ending) (w' : World) : Prop := ∃ v, e = .returned (.tuple #[v, .bool ok]) ∧ OwnP w' w.heap.size v L ∧ Below w.heap.size w w'
theorem PtsOK.of_eq {L L' : List Pt} {ok ok' : Bool} {w w' : World} {e : Ending} (h : PtsOK L ok w e w') (h1 : L = L') (h2 : ok = ok') : PtsOK L' ok' w e w' := by subst h1; subst h2; exact h
/-- the longest of the first k paths, from s on -/
def mxP (s : Int) (L : List Pt) : Nat → Int
  | 0 => s
  | k + 1 => if mxP s L k < ((L.getD k (0, [])).2.length : Int) then ((L.getD k (0, [])).2.length : Int) else mxP s L k
theorem mxP_ge {s : Int} {L : List Pt} {k : Nat} : s ≤ mxP s L k := by
  induction k with
  | zero => exact Int.le_refl _
  | succ k ih => unfold mxP; split <;> omega
theorem mxP_eq {L : List Pt} {k : Nat} : mxP (-1) L (k + 1) = mxP 0 L (k + 1) := by
  induction k with
  | zero =>
    show (if (-1 : Int) < ((L.getD 0 (0, [])).2.length : Int) then ((L.getD 0 (0, [])).2.length : Int) else -1) = if (0 : Int) < ((L.getD 0 (0, [])).2.length : Int) then ((L.getD 0 (0, [])).2.length : Int) else 0
    generalize (L.getD 0 (0, [])).2.length = x
    rw [if_pos (show (-1 : Int) < (x : Int) by omega)]
    by_cases e : (0 : Int) < (x : Int)
    · rw [if_pos e]
    · rw [if_neg e]; omega
  | succ k ih => rw [mxP, ih]; rfl
/-- the answer -/
def lonR (n : Int) (f t : List Int) : Int := if ordOK n f t = true then mxP 0 (allR2 n f t) (allR2 n f t).length else -1
end Go.Proofs.Ythlmggogeeedjaa
