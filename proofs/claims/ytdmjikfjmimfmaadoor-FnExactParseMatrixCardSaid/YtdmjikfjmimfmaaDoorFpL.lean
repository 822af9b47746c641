/- FormatPath: the plain law: the text of a path. -/
import Derived.Test.YtdmjikfjmimfmaaDoorFmt
import Derived.Test.YtdmjikfjmimfmaaDoorIsPath
namespace Go.Proofs.YtdmjikfjmimfmaaDoor
open Go.RowKit
set_option linter.unusedVariables false
set_option linter.unusedSimpArgs false

/-- the text of one arrow -/
def fpP (t l : List Int) (i : Nat) : ByteArray := ⟨#[45]⟩ ++ fmS (l.getD i 0) ++ ⟨#[62]⟩ ++ fmS (t.getD (l.getD i 0).toNat 0)
/-- the text of the first i arrows, behind the start -/
def fpS (t : List Int) (s : Int) (l : List Int) : Nat → ByteArray
  | 0 => fmS s
  | i + 1 => fpS t s l i ++ fpP t l i
def foP (n : Int) (f t : List Int) (s : Int) (l : List Int) : ByteArray := if isP n f t s l = true then fpS t s l l.length else ⟨#[]⟩
theorem foP_no {n : Int} {f t : List Int} {s : Int} {l : List Int} (h : isP n f t s l = false) : foP n f t s l = ⟨#[]⟩ := by simp [foP, h]
theorem foP_ok {n : Int} {f t : List Int} {s : Int} {l : List Int} (h : isP n f t s l = true) : foP n f t s l = fpS t s l l.length := if_pos h
theorem fmS_sz {d : Int} (h0 : -9223372036854775808 ≤ d) (h1 : d ≤ 9223372036854775807) : (fmS d).size ≤ 21 := by
  have := Lib.itoa_length_le d h0 h1
  have e : (fmS d).size = (Lib.itoa d).length := by unfold fmS; simp [ByteArray.size]
  omega
theorem fp_parts {n : Int} {f t : List Int} {s : Int} {l : List Int} (h : isP n f t s l = true) :
    f.length = t.length ∧ l.length ≤ 20 ∧ (0 ≤ s ∧ s ≤ 4) ∧ (∀ k, k < l.length → 0 ≤ l.getD k 0 ∧ l.getD k 0 < t.length) ∧ ∀ j, j < t.length → 0 ≤ t.getD j 0 ∧ t.getD j 0 ≤ 4 := by
  obtain ⟨hQ, hl, hk⟩ := isP_parts h
  obtain ⟨⟨n1, n5⟩, hlen, _⟩ := isQ_parts hQ
  have hs : inR s 0 (n - 1) = true := by
    unfold isP at h
    simp only [Bool.and_eq_true] at h
    exact h.1.1.2
  obtain ⟨s0, s1⟩ := inR_true hs
  refine ⟨hlen, hl, ⟨s0, by omega⟩, fun k hk' => ?_, fun j hj => ?_⟩
  · have := hk k hk'
    unfold okP at this
    simp only [Bool.and_eq_true] at this
    obtain ⟨a, b⟩ := inR_true this.1
    omega
  · have ht : allR t 0 (n - 1) = true := by
      unfold isQ at hQ
      simp only [Bool.and_eq_true] at hQ
      exact hQ.2
    unfold allR at ht
    rw [List.all_eq_true] at ht
    obtain ⟨a, b⟩ := inR_true (ht (t.getD j 0) (by simp [List.getD, hj]))
    omega
theorem fpS_sz {n : Int} {f t : List Int} {s : Int} {l : List Int} (h : isP n f t s l = true) : ∀ i, i ≤ l.length → (fpS t s l i).size ≤ 21 + 44 * i := by
  obtain ⟨h1, h2, ⟨h3, h3'⟩, h4, h5⟩ := fp_parts h
  have h6 : t.length ≤ 6 := by have := (isQ_parts (isP_parts h).1).2.2; omega
  intro i
  induction i with
  | zero => intro _; simp only [fpS]; have := fmS_sz (d := s) (by omega) (by omega); omega
  | succ i ih =>
    intro hi
    obtain ⟨a0, a1⟩ := h4 i (by omega)
    obtain ⟨b0, b1⟩ := h5 (l.getD i 0).toNat (by omega)
    have x1 := fmS_sz (d := l.getD i 0) (by omega) (by omega)
    have x2 := fmS_sz (d := t.getD (l.getD i 0).toNat 0) (by omega) (by omega)
    have := ih (by omega)
    have e1 : (⟨#[45]⟩ : ByteArray).size = 1 := rfl
    have e2 : (⟨#[62]⟩ : ByteArray).size = 1 := rfl
    simp only [fpS, fpP, ByteArray.size_append]
    omega
end Go.Proofs.YtdmjikfjmimfmaaDoor
