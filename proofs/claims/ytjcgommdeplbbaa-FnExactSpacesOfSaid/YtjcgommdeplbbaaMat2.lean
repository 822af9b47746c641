/- IsMatrix and EqualMatrices, of the program and of the reference; toMatrix and szMatrix of the laws. -/
import Derived.Test.YtjcgommdeplbbaaMatAux
import Derived.Test.YtjcgommdeplbbaaMg2
namespace Go.Proofs.Ytjcgommdeplbbaa
open Go.RowKit
set_option linter.unusedVariables false
set_option linter.unusedSimpArgs false

def isM (p r c : Int) (l : List Int) : Bool := inR r 0 8 && inR c 0 8 && decide ((l.length : Int) = r * c) && isV p l
theorem isM_true {p r c : Int} {l : List Int} (h : isM p r c l = true) : 0 ≤ r ∧ r ≤ 8 ∧ 0 ≤ c ∧ c ≤ 8 ∧ (l.length : Int) = r * c ∧ isV p l = true := by
  unfold isM at h
  simp only [Bool.and_eq_true, decide_eq_true_eq] at h
  obtain ⟨⟨⟨h1, h2⟩, h3⟩, h4⟩ := h
  obtain ⟨a, b⟩ := inR_true h1
  obtain ⟨c', d⟩ := inR_true h2
  exact ⟨a, b, c', d, h3, h4⟩
theorem mul_bd8 {r c : Int} (h0 : 0 ≤ r) (h1 : r ≤ 8) (h2 : 0 ≤ c) (h3 : c ≤ 8) : 0 ≤ r * c ∧ r * c ≤ 64 := by
  have := Int.mul_le_mul h1 h3 h2 (by omega)
  exact ⟨Int.mul_nonneg h0 h2, by omega⟩





end Go.Proofs.Ytjcgommdeplbbaa
