/- Comparing lists, number by number and row by row, in plain words. No program is read here. -/
import Derived.Test.YtjcgommdeplbbaaMg1
namespace Go.Proofs.Ytjcgommdeplbbaa
set_option linter.unusedVariables false
set_option linter.unusedSimpArgs false

/-- Go's comparison of two slices -/
def cmpG {α : Type} (c : α → α → Int) : List α → List α → Int
  | [], [] => 0
  | [], _ :: _ => -1
  | _ :: _, [] => 1
  | x :: xs, y :: ys => if c x y = 0 then cmpG c xs ys else c x y
def cmpI (x y : Int) : Int := if x < y then -1 else if y < x then 1 else 0
def cmpV : List Int → List Int → Int := cmpG cmpI
def cmpR : List (List Int) → List (List Int) → Int := cmpG cmpV
/-- a comparison that orders -/
structure OrdC {α : Type} (c : α → α → Int) : Prop where
  refl : ∀ x, c x x = 0
  eq : ∀ x y, c x y = 0 → x = y
  anti : ∀ x y, c x y < 0 ↔ 0 < c y x
  trans : ∀ x y z, c x y < 0 → c y z < 0 → c x z < 0
theorem ordI : OrdC cmpI where
  refl x := by simp [cmpI]
  eq x y h := by
    by_cases h1 : x < y
    · simp [cmpI, h1] at h
    · by_cases h2 : y < x
      · simp [cmpI, h1, h2] at h
      · omega
  anti x y := by unfold cmpI; split <;> split <;> (try split) <;> omega
  trans x y z h1 h2 := by
    unfold cmpI at *
    split at h1
    · split at h2
      · rw [if_pos (by omega)]; omega
      · split at h2 <;> omega
    · split at h1 <;> omega
theorem cmpG_refl {α : Type} {c : α → α → Int} (h : OrdC c) : ∀ l, cmpG c l l = 0
  | [] => rfl
  | x :: l => by simp [cmpG, h.refl, cmpG_refl h l]
theorem cmpG_eq {α : Type} {c : α → α → Int} (h : OrdC c) : ∀ l m, cmpG c l m = 0 → l = m
  | [], [], _ => rfl
  | [], _ :: _, e => by simp [cmpG] at e
  | _ :: _, [], e => by simp [cmpG] at e
  | x :: l, y :: m, e => by
    unfold cmpG at e
    split at e
    · rename_i h0
      rw [h.eq x y h0, cmpG_eq h l m e]
    · omega
theorem cmpG_anti {α : Type} {c : α → α → Int} (h : OrdC c) : ∀ l m, cmpG c l m < 0 ↔ 0 < cmpG c m l
  | [], [] => by simp [cmpG]
  | [], _ :: _ => by simp [cmpG]
  | _ :: _, [] => by simp [cmpG]
  | x :: l, y :: m => by
    unfold cmpG
    have h1 := h.anti x y
    have h2 := h.anti y x
    by_cases h0 : c x y = 0
    · have : c y x = 0 := by
        have := h.eq x y h0
        subst this; exact h0
      rw [if_pos h0, if_pos this]; exact cmpG_anti h l m
    · have : c y x ≠ 0 := fun e => h0 (by
        have := h.eq y x e
        subst this; exact e)
      rw [if_neg h0, if_neg this]; exact h1
theorem cmpG_trans {α : Type} {c : α → α → Int} (h : OrdC c) : ∀ l m n, cmpG c l m < 0 → cmpG c m n < 0 → cmpG c l n < 0
  | [], [], _, h1, _ => by simp [cmpG] at h1
  | [], _ :: _, [], _, h2 => by simp [cmpG] at h2
  | [], _ :: _, _ :: _, _, _ => by simp [cmpG]
  | _ :: _, [], _, h1, _ => by simp [cmpG] at h1
  | _ :: _, _ :: _, [], _, h2 => by simp [cmpG] at h2
  | x :: l, y :: m, z :: n, h1, h2 => by
    unfold cmpG at h1 h2 ⊢
    split at h1
    · rename_i a
      have := h.eq x y a
      subst this
      split at h2
      · rename_i b
        rw [if_pos b]; exact cmpG_trans h l m n h1 h2
      · rename_i b
        rw [if_neg b]; exact h2
    · rename_i a
      split at h2
      · rename_i b
        have := h.eq y z b
        subst this
        rw [if_neg a]; exact h1
      · rename_i b
        have := h.trans x y z h1 h2
        rw [if_neg (by omega)]; exact this
theorem ordG {α : Type} {c : α → α → Int} (h : OrdC c) : OrdC (cmpG c) := ⟨cmpG_refl h, cmpG_eq h, cmpG_anti h, cmpG_trans h⟩
theorem ordV : OrdC cmpV := ordG ordI
theorem ordR : OrdC cmpR := ordG ordV
theorem cmpG_drop {α : Type} {c : α → α → Int} {l m : List α} {i : Nat} (hi : i < l.length) (hj : i < m.length) : cmpG c (l.drop i) (m.drop i) = if c l[i] m[i] = 0 then cmpG c (l.drop (i + 1)) (m.drop (i + 1)) else c l[i] m[i] := by
  rw [List.drop_eq_getElem_cons hi, List.drop_eq_getElem_cons hj]
  rfl
theorem cmpG_more {α : Type} {c : α → α → Int} {l m : List α} {i : Nat} (hi : i < l.length) (hj : m.length ≤ i) : cmpG c (l.drop i) (m.drop i) = 1 := by
  rw [List.drop_eq_getElem_cons hi, List.drop_of_length_le hj]; rfl
theorem cmpG_end {α : Type} {c : α → α → Int} {l m : List α} {i : Nat} (hi : l.length ≤ i) (hj : i ≤ m.length) : cmpG c (l.drop i) (m.drop i) = if i < m.length then -1 else 0 := by
  rw [List.drop_of_length_le hi]
  split
  · rename_i h
    rw [List.drop_eq_getElem_cons h]; rfl
  · rw [List.drop_of_length_le (by omega)]; rfl
/-- one sorted list only -/
theorem sorted_one {α : Type} {c : α → α → Int} (h : OrdC c) : ∀ {l m : List α}, l.Perm m → l.Pairwise (fun a b => ¬ c b a < 0) → m.Pairwise (fun a b => c a b < 0) → l = m
  | l, [], hp, _, _ => hp.eq_nil
  | [], y :: m, hp, _, _ => by simpa using hp.length_eq
  | x :: l, y :: m, hp, hl, hm => by
    have hxy : x = y := by
      have h1 : x ∈ y :: m := hp.mem_iff.1 (by simp)
      have h2 : y ∈ x :: l := hp.mem_iff.2 (by simp)
      rcases List.mem_cons.1 h1 with e | e
      · exact e
      · rcases List.mem_cons.1 h2 with e2 | e2
        · exact e2.symm
        · exact absurd ((List.pairwise_cons.1 hm).1 x e) ((List.pairwise_cons.1 hl).1 y e2)
    subst hxy
    rw [sorted_one h (List.Perm.cons_inv hp) (List.pairwise_cons.1 hl).2 (List.pairwise_cons.1 hm).2]
end Go.Proofs.Ytjcgommdeplbbaa
