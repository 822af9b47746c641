/- PowerMod, InverseMod, power, CountSpaces, of the program and of the reference. -/
import Derived.Test.YtjcgommdeplbbaaMg1
namespace Go.Proofs.Ytjcgommdeplbbaa
open Go.RowKit
set_option linter.unusedVariables false
set_option linter.unusedSimpArgs false

/-- x to the power k, modulo p -/
def pm (p x : Int) : Nat → Int
  | 0 => 1
  | k + 1 => (pm p x k * (x % p)) % p
theorem pm_bd (p x : Int) (hp : isF p = true) : ∀ k, 0 ≤ pm p x k ∧ pm p x k ≤ 4
  | 0 => by simp [pm]
  | k + 1 => by
    have h0 : p = 2 ∨ p = 3 ∨ p = 5 := isF_cases hp
    have h1 := Int.emod_nonneg (pm p x k * (x % p)) (show p ≠ 0 by omega)
    have h2 := Int.emod_lt_of_pos (pm p x k * (x % p)) (show 0 < p by omega)
    simp only [pm]; omega
theorem pm_mul (p x : Int) (hp : isF p = true) (k : Nat) : 0 ≤ pm p x k * (x % p) ∧ pm p x k * (x % p) ≤ 16 := by
  have h0 : p = 2 ∨ p = 3 ∨ p = 5 := isF_cases hp
  obtain ⟨h1, h2⟩ := pm_bd p x hp k
  have h3 := Int.emod_nonneg x (show p ≠ 0 by omega)
  have h4 := Int.emod_lt_of_pos x (show 0 < p by omega)
  have h5 := Int.mul_le_mul h2 (show x % p ≤ 4 by omega) h3 (by omega)
  exact ⟨Int.mul_nonneg h1 h3, by omega⟩



/-- the inverse of x modulo p, 0 where there is none -/
def invN (p r : Int) : Int := if p = 5 ∧ r = 2 then 3 else if p = 5 ∧ r = 3 then 2 else r
theorem inv_range {p x : Int} (hp : isF p = true) : 0 ≤ x % p ∧ x % p < p := by
  have := isF_cases hp
  exact ⟨Int.emod_nonneg x (by omega), Int.emod_lt_of_pos x (by omega)⟩
theorem inv_found {p r k : Int} (hp : isF p = true) (h0 : 0 ≤ r) (h1 : r < p) (hk : 1 ≤ k) (hk' : k < p) (h : (r * k) % p = 1) : invN p r = k := by
  rcases isF_cases hp with rfl | rfl | rfl
  · obtain rfl : k = 1 := by omega
    have : r = 0 ∨ r = 1 := by omega
    rcases this with rfl | rfl <;> simp_all [invN]
  · have : r = 0 ∨ r = 1 ∨ r = 2 := by omega
    have : k = 1 ∨ k = 2 := by omega
    rcases this with rfl | rfl <;> rcases ‹r = 0 ∨ r = 1 ∨ r = 2› with rfl | rfl | rfl <;> simp_all [invN]
  · have h2 : r = 0 ∨ r = 1 ∨ r = 2 ∨ r = 3 ∨ r = 4 := by omega
    have : k = 1 ∨ k = 2 ∨ k = 3 ∨ k = 4 := by omega
    rcases this with rfl | rfl | rfl | rfl <;> rcases h2 with rfl | rfl | rfl | rfl | rfl <;> simp_all [invN]
theorem inv_none {p r : Int} (hp : isF p = true) (h0 : 0 ≤ r) (h1 : r < p) (h : ∀ k : Nat, 1 ≤ k → (k : Int) < p → (r * k) % p ≠ 1) : invN p r = 0 := by
  rcases isF_cases hp with rfl | rfl | rfl
  · have : r = 0 ∨ r = 1 := by omega
    have g1 := h 1 (by omega) (by omega)
    rcases this with rfl | rfl <;> simp_all [invN]
  · have : r = 0 ∨ r = 1 ∨ r = 2 := by omega
    have g1 := h 1 (by omega) (by omega)
    have g2 := h 2 (by omega) (by omega)
    rcases this with rfl | rfl | rfl <;> simp_all [invN]
  · have h2 : r = 0 ∨ r = 1 ∨ r = 2 ∨ r = 3 ∨ r = 4 := by omega
    have g1 := h 1 (by omega) (by omega)
    have g2 := h 2 (by omega) (by omega)
    have g3 := h 3 (by omega) (by omega)
    have g4 := h 4 (by omega) (by omega)
    rcases h2 with rfl | rfl | rfl | rfl | rfl <;> simp_all [invN]
theorem inv_pm2 (x : Int) : pm 2 x 1 = invN 2 (x % 2) := by
  have : x % 2 = 0 ∨ x % 2 = 1 := by omega
  rcases this with h | h <;> simp [pm, invN, h]
theorem inv_pm3 (x : Int) : pm 3 x 1 = invN 3 (x % 3) := by
  have : x % 3 = 0 ∨ x % 3 = 1 ∨ x % 3 = 2 := by omega
  rcases this with h | h | h <;> simp [pm, invN, h]
theorem inv_pm5 (x : Int) : pm 5 x 3 = invN 5 (x % 5) := by
  have : x % 5 = 0 ∨ x % 5 = 1 ∨ x % 5 = 2 ∨ x % 5 = 3 ∨ x % 5 = 4 := by omega
  rcases this with h | h | h | h | h <;> simp [pm, invN, h]

def invV (p x : Int) : Int := if isF p = true then invN p (x % p) else 0

theorem emod_mul_bd {p r k : Int} (hp : isF p = true) (h0 : 0 ≤ r) (h1 : r < p) (hk : 0 ≤ k) (hk' : k ≤ p) : 0 ≤ r * k ∧ r * k ≤ 25 := by
  have := isF_cases hp
  have h5 := Int.mul_le_mul (show r ≤ 5 by omega) (show k ≤ 5 by omega) hk (by omega)
  exact ⟨Int.mul_nonneg h0 hk, by omega⟩

set_option maxRecDepth 100000 in
set_option maxHeartbeats 400000 in
theorem s_InverseMod (p x : Int) (w : World) : Calls Try.prog 67 #[.int .i64 p, .int .i64 x] w (IntAns (invV p x) w) := by
  by_cases hp : isF p = true
  · have HV : Hid (invV p x = invN p (x % p)) := by unfold Hid invV; rw [if_pos hp]
    obtain ⟨h0, h1⟩ := inv_range (x := x) hp
    have hp5 : p ≤ 5 := by have := isF_cases hp; omega
    go_enter Try.func67, Try.ntmps67
    go_wp2
    go_loop [5] (fun y => ∃ k : Nat, 1 ≤ k ∧ (k : Int) ≤ p ∧ y = .int .i64 k ∧ ∀ j : Nat, 1 ≤ j → j < k → ((x % p) * j) % p ≠ 1) (fun y => (p - intOf y).toNat)
    case atStart => exact ⟨1, by omega, by have := isF_cases hp; omega, rfl, fun j h1 h2 => by omega⟩
    case round =>
      obtain ⟨k, hk1, hkp, rfl, hno⟩ := hrel
      have HN := Lib.hid hno; clear hno
      by_cases hlt : (k : Int) < p
      · obtain ⟨hb0, hb1⟩ := emod_mul_bd hp h0 h1 (show 0 ≤ (k : Int) by omega) hkp
        go_wp2_with fail
        refine (s_IsField _ _).mono ?_; rintro e w' ⟨rfl, rfl⟩
        go_wp2_with fail
        refine (s_l2Mod _ _ hp _).mono ?_; rintro e w' ⟨rfl, rfl⟩
        go_wp2_with fail
        refine (s_l2Mod _ _ hp _).mono ?_; rintro e w' ⟨rfl, rfl⟩
        by_cases hq : (x % p * k) % p = 1
        · have hqb : ((x % p * k) % p == 1) = true := by simpa using hq
          have HQ := Lib.hid hq; clear hq
          go_wp2
          go_ret
          exact ⟨ret_int (by rw [HV.out, inv_found hp h0 h1 (by omega) hlt HQ.out]), rfl⟩
        · have hqb : ((x % p * k) % p == 1) = false := by simpa using hq
          have HQ := Lib.hid hq; clear hq
          go_wp2
          go_round
          case rel => exact ⟨k + 1, by omega, by omega, by go_num, fun j h1 h2 => by
            by_cases h : j = k
            · rw [h]; exact HQ.out
            · exact HN.out j h1 (by omega)⟩
          case measure => simp [intOf]; omega
      · go_wp2
        go_ret
        exact ⟨ret_int (by rw [HV.out, inv_none hp h0 h1 (fun j a b => HN.out j a (by omega))]), rfl⟩
  · have hp : isF p = false := by simpa using hp
    have HV : Hid (invV p x = 0) := by unfold Hid invV; rw [if_neg (by simp [hp])]
    go_enter Try.func67, Try.ntmps67
    go_wp2
    refine wp_loop_rounds 1 ?_
    rw [rounds_succ]
    by_cases hlt : 1 < p
    · go_wp2_with fail
      refine (s_IsField _ _).mono ?_; rintro e w' ⟨rfl, rfl⟩
      go_wp2
      go_ret
      exact ⟨ret_int HV.out.symm, rfl⟩
    · have hd : decide (1 < p) = false := by simp; omega
      go_wp2
      go_ret
      exact ⟨ret_int HV.out.symm, rfl⟩


end Go.Proofs.Ytjcgommdeplbbaa
