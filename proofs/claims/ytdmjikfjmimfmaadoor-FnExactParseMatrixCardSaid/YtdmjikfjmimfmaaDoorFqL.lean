/- FormatQuiver: the plain law: the text of a quiver. -/
import Derived.Test.YtdmjikfjmimfmaaDoorFpL
namespace Go.Proofs.YtdmjikfjmimfmaaDoor
open Go.RowKit
set_option linter.unusedVariables false
set_option linter.unusedSimpArgs false

/-- the text of one arrow -/
def fqP (f t : List Int) (i : Nat) : ByteArray := ⟨#[32]⟩ ++ (fmS (f.getD i 0) ++ fmS (t.getD i 0))
/-- the text of the first i arrows, behind the number of vertices -/
def fqS (n : Int) (f t : List Int) : Nat → ByteArray
  | 0 => fmS n ++ ⟨#[58]⟩
  | i + 1 => fqS n f t i ++ fqP f t i
def foQ (n : Int) (f t : List Int) : ByteArray := if isQ n f t = true then fqS n f t f.length else ⟨#[]⟩
theorem foQ_no {n : Int} {f t : List Int} (h : isQ n f t = false) : foQ n f t = ⟨#[]⟩ := by simp [foQ, h]
theorem foQ_ok {n : Int} {f t : List Int} (h : isQ n f t = true) : foQ n f t = fqS n f t f.length := if_pos h
theorem fm_dig {a : Int} (h0 : 0 ≤ a) (h9 : a ≤ 9) : fmS a = strOfNums [48 + a] := by
  obtain ⟨u, rfl⟩ := Int.eq_ofNat_of_zero_le h0
  rw [fmS_pos, dI_small (by omega)]
theorem fm_two {a b : Int} (h0 : 0 ≤ a) (h9 : a ≤ 9) (g0 : 0 ≤ b) (g9 : b ≤ 9) : strOfNums [48 + a, 48 + b] = fmS a ++ fmS b := by
  rw [fm_dig h0 h9, fm_dig g0 g9, strCons]
theorem fq_parts {n : Int} {f t : List Int} (h : isQ n f t = true) :
    f.length = t.length ∧ f.length ≤ 6 ∧ (1 ≤ n ∧ n ≤ 5) ∧ (∀ k, k < f.length → 0 ≤ f.getD k 0 ∧ f.getD k 0 ≤ 4) ∧ ∀ j, j < t.length → 0 ≤ t.getD j 0 ∧ t.getD j 0 ≤ 4 := by
  obtain ⟨⟨n1, n5⟩, hlen, h6⟩ := isQ_parts h
  unfold isQ at h
  simp only [Bool.and_eq_true] at h
  have g : ∀ l : List Int, allR l 0 (n - 1) = true → ∀ j, j < l.length → 0 ≤ l.getD j 0 ∧ l.getD j 0 ≤ 4 := fun l hl j hj => by
    unfold allR at hl
    rw [List.all_eq_true] at hl
    obtain ⟨a, b⟩ := inR_true (hl (l.getD j 0) (by simp [List.getD, hj]))
    omega
  exact ⟨hlen, h6, ⟨n1, n5⟩, g f h.1.2, g t h.2⟩
theorem fqS_sz {n : Int} {f t : List Int} (h : isQ n f t = true) : ∀ i, i ≤ f.length → (fqS n f t i).size ≤ 22 + 43 * i := by
  obtain ⟨h1, h2, ⟨h3, h3'⟩, h4, h5⟩ := fq_parts h
  intro i
  induction i with
  | zero =>
    intro _; simp only [fqS, ByteArray.size_append]
    have := fmS_sz (d := n) (by omega) (by omega)
    have e1 : (⟨#[58]⟩ : ByteArray).size = 1 := rfl
    omega
  | succ i ih =>
    intro hi
    obtain ⟨a0, a1⟩ := h4 i (by omega)
    obtain ⟨b0, b1⟩ := h5 i (by omega)
    have x1 := fmS_sz (d := f.getD i 0) (by omega) (by omega)
    have x2 := fmS_sz (d := t.getD i 0) (by omega) (by omega)
    have := ih (by omega)
    have e1 : (⟨#[32]⟩ : ByteArray).size = 1 := rfl
    simp only [fqS, fqP, ByteArray.size_append]
    omega
end Go.Proofs.YtdmjikfjmimfmaaDoor
