/- ScaleMatrix, of the program and of the reference. -/
import Derived.Test.YtmcjgaffecimlaaMat3
namespace Go.Proofs.Ytmcjgaffecimlaa
open Go.RowKit
set_option linter.unusedVariables false
set_option linter.unusedSimpArgs false

theorem rep0_getD (n j : Nat) : (List.replicate n (0 : Int)).getD j 0 = 0 := by
  rw [List.getD, List.getElem?_replicate]
  split <;> rfl
theorem isM_lenN {p r c : Int} {l : List Int} (h : isM p r c l = true) : l.length = r.toNat * c.toNat := by
  obtain ⟨a, _, b, _, e, _⟩ := isM_true h
  obtain ⟨R, rfl⟩ := Int.eq_ofNat_of_zero_le a
  obtain ⟨C, rfl⟩ := Int.eq_ofNat_of_zero_le b
  rw [← Int.natCast_mul] at e
  simp only [Int.toNat_natCast]
  omega
theorem i_zeroI (r c : Int) (r0 : 0 ≤ r) (r8 : r ≤ 64) (c0 : 0 ≤ c) (c8 : c ≤ 64) (w : World) :
    Calls Try.prog 32 #[.int .i64 r, .int .i64 c] w (MatNew r c (List.replicate (r.toNat * c.toNat) 0) w) := by
  obtain ⟨R, rfl⟩ := Int.eq_ofNat_of_zero_le r0
  obtain ⟨C, rfl⟩ := Int.eq_ofNat_of_zero_le c0
  exact i_zero R C (by omega) (by omega) w





end Go.Proofs.Ytmcjgaffecimlaa
