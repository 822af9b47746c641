/- FnFields: the plain laws: numbers have inverses, and vectors are numbered. -/
import Derived.Test.YtogilgennpmdhaaPower
import Derived.Test.YtogilgennpmdhaaPow
import Derived.Test.YtogilgennpmdhaaCode
namespace Go.Proofs.Ytogilgennpmdhaa
open Go.RowKit
set_option linter.unusedVariables false
set_option linter.unusedSimpArgs false

theorem red_inv {p x : Int} (hp : isF p = true) (h : redM p x ≠ 0) : redM p (redM p x * invV p x) = 1 := by
  have hr : redM p x = x % p := if_pos hp
  rw [hr] at h ⊢
  have hi : invV p x = invN p (x % p) := if_pos hp
  rw [hi]
  obtain ⟨h0, h1⟩ := inv_range (x := x) hp
  have hm : ∀ y, redM p y = y % p := fun y => if_pos hp
  rw [hm]
  generalize x % p = r at h h0 h1
  rcases isF_cases hp with rfl | rfl | rfl
  · obtain rfl : r = 1 := by omega
    decide
  · rcases (show r = 1 ∨ r = 2 by omega) with rfl | rfl <;> decide
  · rcases (show r = 1 ∨ r = 2 ∨ r = 3 ∨ r = 4 by omega) with rfl | rfl | rfl | rfl <;> decide

theorem cod_take {p c : Int} {n : Nat} (hp : isF p = true) (hc : 0 ≤ c) (hlt : c < p ^ n) : ∀ k, k ≤ n → codeN p ((vecL p n c).take k) = c / p ^ (n - k) := by
  intro k
  induction k with
  | zero =>
    intro _
    rw [List.take_zero, Nat.sub_zero, Int.ediv_eq_zero_of_lt hc hlt]; rfl
  | succ k ih =>
    intro hk
    rw [take_snocI _ _ (by rw [vecL_len]; omega), codeN_snoc, ih (by omega)]
    have hg : (vecL p n c).getD k 0 = c / p ^ (n - 1 - k) % p := by
      have := vecL_get p n c (n - 1 - k) (by omega)
      rw [show n - 1 - (n - 1 - k) = k by omega] at this
      exact this
    rw [hg, show n - (k + 1) = n - 1 - k by omega, show n - k = (n - 1 - k) + 1 by omega, Int.pow_succ, ← Int.ediv_ediv_of_nonneg (Int.le_of_lt (pow_pos hp _))]
    have := Int.mul_ediv_add_emod (c / p ^ (n - 1 - k)) p
    rw [Int.mul_comm] at this
    exact this
theorem vec_isV {p c : Int} {n : Nat} (hp : isF p = true) (hn : n ≤ 8) : isV p (vecL p n c) = true := by
  have h1 : okV p (vecL p n c) = true := okV_of fun j hj => by
    rw [vecL_len] at hj
    have hg := vecL_get p n c (n - 1 - j) (by omega)
    rw [show n - 1 - (n - 1 - j) = j by omega] at hg
    obtain ⟨a, b⟩ := inv_range (x := c / p ^ (n - 1 - j)) hp
    rw [hg]; exact inR_mk a (by omega)
  unfold isV
  rw [hp, h1, vecL_len]
  simp; omega
theorem cod_vec {p n c : Int} (h : vecOK p n c = true) : codV p (vecR p n c) = c := by
  have hr : vecR p n c = vecL p n.toNat c := if_pos h
  rw [hr]
  unfold vecOK at h
  simp only [Bool.and_eq_true, decide_eq_true_eq] at h
  obtain ⟨⟨⟨hp, hn⟩, h0⟩, hlt⟩ := h
  obtain ⟨n0, n8⟩ := inR_true hn
  have hc : codV p (vecL p n.toNat c) = codeN p (vecL p n.toNat c) := if_pos ⟨vec_isV hp (by omega), by rw [vecL_len]; omega⟩
  rw [hc]
  have := cod_take hp h0 hlt n.toNat (Nat.le_refl _)
  rw [Nat.sub_self, Int.pow_zero, Int.ediv_one] at this
  rw [List.take_of_length_le (by rw [vecL_len]; exact Nat.le_refl _)] at this
  exact this
end Go.Proofs.Ytogilgennpmdhaa
