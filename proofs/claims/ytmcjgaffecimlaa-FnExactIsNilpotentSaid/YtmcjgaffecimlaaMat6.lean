/- MultiplyMatrices, of the program and of the reference. -/
import Derived.Test.YtmcjgaffecimlaaTimes
import Derived.Test.YtmcjgaffecimlaaMulS
namespace Go.Proofs.Ytmcjgaffecimlaa
open Go.RowKit
set_option linter.unusedVariables false
set_option linter.unusedSimpArgs false

theorem isV_all {p : Int} {l : List Int} (h : isV p l = true) (t : Nat) : 0 ≤ l.getD t 0 ∧ l.getD t 0 ≤ 4 := by
  rcases Nat.lt_or_ge t l.length with ht | ht
  · exact isV_elem h ht
  · rw [List.getD, List.getElem?_eq_none ht]; exact ⟨by simp, by simp⟩
def mulR (p ra ca cb : Int) (la lb : List Int) : List Int := mulL p ra.toNat ca.toNat cb.toNat la lb
theorem i_timesI {p ra ca rb cb : Int} (va vb : Value) (la lb : List Int) (w : World) (ha : Ints w va la) (hb : Ints w vb lb) (h1 : isM p ra ca la = true) (h2 : isM p rb cb lb = true) (h3 : ca = rb) :
    Calls Try.prog 69 #[.int .i64 p, .agg #[.int .i64 ra, .int .i64 ca, va], .agg #[.int .i64 rb, .int .i64 cb, vb]] w (MatNew ra cb (mulR p ra ca cb la lb) w) := by
  subst h3
  have hl1 := isM_lenN h1
  have hl2 := isM_lenN h2
  obtain ⟨r0, r8, c0, c8, _, _⟩ := isM_true h1
  obtain ⟨_, _, d0, d8, _, _⟩ := isM_true h2
  unfold mulR
  obtain ⟨R, rfl⟩ := Int.eq_ofNat_of_zero_le r0
  obtain ⟨C, rfl⟩ := Int.eq_ofNat_of_zero_le c0
  obtain ⟨D, rfl⟩ := Int.eq_ofNat_of_zero_le d0
  exact i_times p R C D va vb la lb w (isM_p h1) ha hb hl1 hl2 (isV_all (isM_V h1)) (isV_all (isM_V h2)) (by omega) (by omega) (by omega)
theorem s_l3MultiplyI {p ra ca rb cb : Int} (va vb : Value) (la lb : List Int) (w : World) (ha : Ints w va la) (hb : Ints w vb lb) (h1 : isM p ra ca la = true) (h2 : isM p rb cb lb = true) (h3 : ca = rb) :
    Calls Try.prog 80 #[.int .i64 p, .agg #[.int .i64 ra, .int .i64 ca, va], .agg #[.int .i64 rb, .int .i64 cb, vb]] w (MatNew ra cb (mulR p ra ca cb la lb) w) := by
  subst h3
  have hl1 := isM_lenN h1
  have hl2 := isM_lenN h2
  obtain ⟨r0, r8, c0, c8, _, _⟩ := isM_true h1
  obtain ⟨_, _, d0, d8, _, _⟩ := isM_true h2
  unfold mulR
  obtain ⟨R, rfl⟩ := Int.eq_ofNat_of_zero_le r0
  obtain ⟨C, rfl⟩ := Int.eq_ofNat_of_zero_le c0
  obtain ⟨D, rfl⟩ := Int.eq_ofNat_of_zero_le d0
  exact s_l3Multiply p R C D va vb la lb w (isV_F (isM_V h1)) ha hb hl1 hl2 (isV_all (isM_V h1)) (isV_all (isM_V h2)) (by omega) (by omega) (by omega)
def mulMOK (p ra ca rb cb : Int) (la lb : List Int) : Bool := isM p ra ca la && isM p rb cb lb && decide (ca = rb)






end Go.Proofs.Ytmcjgaffecimlaa
