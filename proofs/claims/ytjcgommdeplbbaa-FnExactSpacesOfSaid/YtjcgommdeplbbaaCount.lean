/- CountSpaces, of the program and of the reference. -/
import Derived.Test.YtjcgommdeplbbaaPow
namespace Go.Proofs.Ytjcgommdeplbbaa
open Go.RowKit
set_option linter.unusedVariables false
set_option linter.unusedSimpArgs false

def csA (p : Int) (n : Nat) : Nat → Int
  | 0 => 1
  | k + 1 => csA p n k * (p ^ (n - k) - 1)
def csB (p : Int) : Nat → Int
  | 0 => 1
  | k + 1 => csB p k * (p ^ (k + 1) - 1)
def csI (p : Int) (n : Nat) : Nat → Int
  | 0 => 1
  | k + 1 => csI p n k * (p ^ (n - k) - 1) / (p ^ (k + 1) - 1)

/-- all that the loops need, at one place -/
def csFits (p : Int) (n k : Nat) : Bool :=
  decide (0 ≤ csA p n k) && decide (csA p n k ≤ 1000000000000) && decide (1 ≤ csB p k) && decide (csB p k ≤ 1000000000000) && decide (0 ≤ csI p n k) && decide (csI p n k ≤ 1000000000000) &&
  (decide (n ≤ k) || (decide (0 ≤ csA p n k * (p ^ (n - k) - 1)) && decide (csA p n k * (p ^ (n - k) - 1) ≤ 1000000000000) && decide (0 ≤ csB p k * (p ^ (k + 1) - 1)) && decide (csB p k * (p ^ (k + 1) - 1) ≤ 1000000000000) &&
    decide (0 ≤ csI p n k * (p ^ (n - k) - 1)) && decide (csI p n k * (p ^ (n - k) - 1) ≤ 1000000000000)))
theorem csFits_all {p : Int} (hp : isF p = true) {n k : Nat} (hn : n ≤ 4) (hk : k ≤ n) : csFits p n k = true := by
  have h1 : n = 0 ∨ n = 1 ∨ n = 2 ∨ n = 3 ∨ n = 4 := by omega
  have h2 : k = 0 ∨ k = 1 ∨ k = 2 ∨ k = 3 ∨ k = 4 := by omega
  rcases isF_cases hp with rfl | rfl | rfl <;> rcases h1 with rfl | rfl | rfl | rfl | rfl <;> rcases h2 with rfl | rfl | rfl | rfl | rfl <;> first | omega | decide
theorem cs_same {p : Int} (hp : isF p = true) {n k : Nat} (hn : n ≤ 4) (hk : k ≤ n) : csA p n k / csB p k = csI p n k := by
  have h1 : n = 0 ∨ n = 1 ∨ n = 2 ∨ n = 3 ∨ n = 4 := by omega
  have h2 : k = 0 ∨ k = 1 ∨ k = 2 ∨ k = 3 ∨ k = 4 := by omega
  rcases isF_cases hp with rfl | rfl | rfl <;> rcases h1 with rfl | rfl | rfl | rfl | rfl <;> rcases h2 with rfl | rfl | rfl | rfl | rfl <;> first | omega | decide
theorem cs_bd {p : Int} (hp : isF p = true) {n k : Nat} (hn : n ≤ 4) (hk : k ≤ n) :
    0 ≤ csA p n k ∧ csA p n k ≤ 1000000000000 ∧ 1 ≤ csB p k ∧ csB p k ≤ 1000000000000 ∧ 0 ≤ csI p n k ∧ csI p n k ≤ 1000000000000 := by
  have h := csFits_all hp hn hk
  simp only [csFits, Bool.and_eq_true, decide_eq_true_eq] at h
  obtain ⟨⟨⟨⟨⟨⟨a, b⟩, c⟩, d⟩, e⟩, f⟩, _⟩ := h
  exact ⟨a, b, c, d, e, f⟩
theorem cs_bd2 {p : Int} (hp : isF p = true) {n k : Nat} (hn : n ≤ 4) (hk : k < n) :
    0 ≤ csA p n k * (p ^ (n - k) - 1) ∧ csA p n k * (p ^ (n - k) - 1) ≤ 1000000000000 ∧ 0 ≤ csB p k * (p ^ (k + 1) - 1) ∧ csB p k * (p ^ (k + 1) - 1) ≤ 1000000000000 ∧
    0 ≤ csI p n k * (p ^ (n - k) - 1) ∧ csI p n k * (p ^ (n - k) - 1) ≤ 1000000000000 := by
  have h := csFits_all hp hn (show k ≤ n by omega)
  simp only [csFits, Bool.and_eq_true, Bool.or_eq_true, decide_eq_true_eq] at h
  obtain ⟨_, h | ⟨⟨⟨⟨⟨a, b⟩, c⟩, d⟩, e⟩, f⟩⟩ := h
  · omega
  · exact ⟨a, b, c, d, e, f⟩

def cntV (p n k : Int) : Int := if isF p = true ∧ inR n 0 4 = true ∧ inR k 0 n = true then csI p n.toNat k.toNat else -1

theorem i_pow_sub (p : Int) (n k : Nat) (hp : isF p = true) (hn : n ≤ 8) (hk : k ≤ n) (w : World) : Calls Try.prog 23 #[.int .i64 p, .int .i64 ((n : Int) - (k : Int))] w (IntAns (p ^ (n - k)) w) := by
  rw [show (n : Int) - (k : Int) = ((n - k : Nat) : Int) by omega]; exact i_power p (n - k) hp (by omega) w
theorem i_pow_one (p : Int) (k : Nat) (hp : isF p = true) (hk : k ≤ 7) (w : World) : Calls Try.prog 23 #[.int .i64 p, .int .i64 ((k : Int) + 1)] w (IntAns (p ^ (k + 1)) w) := by
  rw [show (k : Int) + 1 = ((k + 1 : Nat) : Int) by omega]; exact i_power p (k + 1) hp (by omega) w

set_option maxRecDepth 100000 in
set_option maxHeartbeats 1000000 in
theorem i_CountSpaces_yes (p : Int) (n k : Nat) (hp : isF p = true) (hn : n ≤ 4) (hk : k ≤ n) (w : World) :
    Calls Try.prog 12 #[.int .i64 p, .int .i64 n, .int .i64 k] w (IntAns (csI p n k) w) := by
  have h1 : inR (n : Int) 0 4 = true := inR_mk (by omega) (by omega)
  have h2 : inR (k : Int) 0 n = true := inR_mk (by omega) (by omega)
  go_enter Try.func12, Try.ntmps12
  go_wp2_with fail
  refine (i_IsField _ _).mono ?_; rintro e w' ⟨rfl, rfl⟩
  go_wp2_with fail
  refine (i_within _ _ _ _).mono ?_; rintro e w' ⟨rfl, rfl⟩
  go_wp2_with fail
  refine (i_within _ _ _ _).mono ?_; rintro e w' ⟨rfl, rfl⟩
  go_wp2
  go_loop [7, 24] (fun v i => ∃ j : Nat, j ≤ k ∧ i = .int .i64 j ∧ v = .int .i64 (csI p n j)) (fun _ i => k - (intOf i).toNat)
  case atStart => exact ⟨0, Nat.zero_le _, rfl, rfl⟩
  case round =>
    obtain ⟨j, hj, rfl, rfl⟩ := hrel
    obtain ⟨_, _, _, _, b0, b1⟩ := cs_bd hp hn (show j ≤ n by omega)
    by_cases hlt : j < k
    · obtain ⟨_, _, _, _, c0, c1⟩ := cs_bd2 hp hn (show j < n by omega)
      obtain ⟨p1, p2, _, _⟩ := pow_bd hp (show n - j ≤ 8 by omega)
      obtain ⟨q1, q2, _, _⟩ := pow_bd hp (show j + 1 ≤ 8 by omega)
      have q3 : 2 ≤ p ^ (j + 1) := by
        have : p ^ (j + 1) = p ^ j * p := Int.pow_succ p j
        obtain ⟨a1, _, _, _⟩ := pow_bd hp (show j ≤ 8 by omega)
        rcases isF_cases hp with rfl | rfl | rfl <;> omega
      have HS := Lib.hid (show csI p n (j + 1) = csI p n j * (p ^ (n - j) - 1) / (p ^ (j + 1) - 1) from rfl)
      have C1 := Lib.hid (i_pow_sub p n j hp (by omega) (by omega) w)
      have C2 := Lib.hid (i_pow_one p j hp (by omega) w)
      obtain ⟨x, hx⟩ : ∃ x, p ^ (n - j) = x := ⟨_, rfl⟩
      obtain ⟨y, hy⟩ : ∃ y, p ^ (j + 1) = y := ⟨_, rfl⟩
      obtain ⟨z, hz⟩ : ∃ z, csI p n j = z := ⟨_, rfl⟩
      rw [hx] at C1 c0 c1 p1 p2 HS
      rw [hy] at C2 q1 q2 q3 HS
      rw [hz] at c0 c1 b0 b1 HS ⊢
      clear hx hy hz
      go_wp2_with fail
      refine C1.out.mono ?_; rintro e w' ⟨rfl, rfl⟩
      go_wp2_with fail
      refine C2.out.mono ?_; rintro e w' ⟨rfl, rfl⟩
      go_wp2
      go_round
      case rel => exact ⟨j + 1, by omega, by go_num, by rw [HS.out]⟩
      case measure => simp [intOf]; omega
    · obtain rfl : j = k := by omega
      go_wp2
      go_ret
      exact ⟨rfl, rfl⟩

theorem cnt_no {p n k : Int} (h : ¬ (isF p = true ∧ inR n 0 4 = true ∧ inR k 0 n = true)) : isF p = false ∨ (isF p = true ∧ inR n 0 4 = false) ∨ (isF p = true ∧ inR n 0 4 = true ∧ inR k 0 n = false) := by
  cases h1 : isF p <;> cases h2 : inR n 0 4 <;> cases h3 : inR k 0 n <;> simp_all

set_option maxRecDepth 100000 in
set_option maxHeartbeats 1000000 in
theorem i_CountSpaces (p n k : Int) (w : World) : Calls Try.prog 12 #[.int .i64 p, .int .i64 n, .int .i64 k] w (IntAns (cntV p n k) w) := by
  by_cases h : isF p = true ∧ inR n 0 4 = true ∧ inR k 0 n = true
  · have e : cntV p n k = csI p n.toNat k.toNat := if_pos h
    obtain ⟨h1, h2, h3⟩ := h
    obtain ⟨a, b⟩ := inR_true h2
    obtain ⟨c, d⟩ := inR_true h3
    obtain ⟨n, rfl⟩ := Int.eq_ofNat_of_zero_le a
    obtain ⟨k, rfl⟩ := Int.eq_ofNat_of_zero_le c
    rw [e]
    exact i_CountSpaces_yes p n k h1 (by omega) (by omega) w
  · have HE := Lib.hid (show cntV p n k = -1 from if_neg h)
    rcases cnt_no h with h1 | ⟨h1, h2⟩ | ⟨h1, h2, h3⟩ <;> clear h
    · go_enter Try.func12, Try.ntmps12
      go_wp2_with fail
      refine (i_IsField _ _).mono ?_; rintro e w' ⟨rfl, rfl⟩
      go_wp2
      go_ret
      exact ⟨ret_int HE.out.symm, rfl⟩
    · go_enter Try.func12, Try.ntmps12
      go_wp2_with fail
      refine (i_IsField _ _).mono ?_; rintro e w' ⟨rfl, rfl⟩
      go_wp2_with fail
      refine (i_within _ _ _ _).mono ?_; rintro e w' ⟨rfl, rfl⟩
      go_wp2
      go_ret
      exact ⟨ret_int HE.out.symm, rfl⟩
    · go_enter Try.func12, Try.ntmps12
      go_wp2_with fail
      refine (i_IsField _ _).mono ?_; rintro e w' ⟨rfl, rfl⟩
      go_wp2_with fail
      refine (i_within _ _ _ _).mono ?_; rintro e w' ⟨rfl, rfl⟩
      go_wp2_with fail
      refine (i_within _ _ _ _).mono ?_; rintro e w' ⟨rfl, rfl⟩
      go_wp2
      go_ret
      exact ⟨ret_int HE.out.symm, rfl⟩

theorem s_pow_sub (p : Int) (n k : Nat) (hp : isF p = true) (hn : n ≤ 8) (hk : k ≤ n) (w : World) : Calls Try.prog 19 #[.int .i64 p, .int .i64 ((n : Int) - (k : Int))] w (IntAns (p ^ (n - k)) w) := by
  rw [show (n : Int) - (k : Int) = ((n - k : Nat) : Int) by omega]; exact s_l5Power p (n - k) hp (by omega) w
theorem s_pow_one (p : Int) (k : Nat) (hp : isF p = true) (hk : k ≤ 7) (w : World) : Calls Try.prog 19 #[.int .i64 p, .int .i64 ((k : Int) + 1)] w (IntAns (p ^ (k + 1)) w) := by
  rw [show (k : Int) + 1 = ((k + 1 : Nat) : Int) by omega]; exact s_l5Power p (k + 1) hp (by omega) w

set_option maxRecDepth 100000 in
set_option maxHeartbeats 1000000 in
theorem s_CountSpaces_yes (p : Int) (n k : Nat) (hp : isF p = true) (hn : n ≤ 4) (hk : k ≤ n) (w : World) :
    Calls Try.prog 9 #[.int .i64 p, .int .i64 n, .int .i64 k] w (IntAns (csI p n k) w) := by
  have h1 : inR (n : Int) 0 4 = true := inR_mk (by omega) (by omega)
  have h2 : inR (k : Int) 0 n = true := inR_mk (by omega) (by omega)
  go_enter Try.func9, Try.ntmps9
  go_wp2_with fail
  refine (s_IsField _ _).mono ?_; rintro e w' ⟨rfl, rfl⟩
  go_wp2_with fail
  refine (s_l1In _ _ _ _).mono ?_; rintro e w' ⟨rfl, rfl⟩
  go_wp2_with fail
  refine (s_l1In _ _ _ _).mono ?_; rintro e w' ⟨rfl, rfl⟩
  go_wp2
  go_loop [7, 8, 9] (fun u v i => ∃ j : Nat, j ≤ k ∧ i = .int .i64 j ∧ u = .int .i64 (csA p n j) ∧ v = .int .i64 (csB p j)) (fun _ _ i => k - (intOf i).toNat)
  case atStart => exact ⟨0, Nat.zero_le _, rfl, rfl, rfl⟩
  case round =>
    obtain ⟨j, hj, rfl, rfl, rfl⟩ := hrel
    obtain ⟨b0, b1, b2, b3, _, _⟩ := cs_bd hp hn (show j ≤ n by omega)
    by_cases hlt : j < k
    · obtain ⟨c0, c1, c2, c3, _, _⟩ := cs_bd2 hp hn (show j < n by omega)
      obtain ⟨p1, p2, _, _⟩ := pow_bd hp (show n - j ≤ 8 by omega)
      obtain ⟨q1, q2, _, _⟩ := pow_bd hp (show j + 1 ≤ 8 by omega)
      have HS := Lib.hid (show csA p n (j + 1) = csA p n j * (p ^ (n - j) - 1) from rfl)
      have HS2 := Lib.hid (show csB p (j + 1) = csB p j * (p ^ (j + 1) - 1) from rfl)
      have C1 := Lib.hid (s_pow_sub p n j hp (by omega) (by omega) w)
      have C2 := Lib.hid (s_pow_one p j hp (by omega) w)
      obtain ⟨x, hx⟩ : ∃ x, p ^ (n - j) = x := ⟨_, rfl⟩
      obtain ⟨y, hy⟩ : ∃ y, p ^ (j + 1) = y := ⟨_, rfl⟩
      obtain ⟨z, hz⟩ : ∃ z, csA p n j = z := ⟨_, rfl⟩
      obtain ⟨t, ht⟩ : ∃ t, csB p j = t := ⟨_, rfl⟩
      rw [hx] at C1 c0 c1 p1 p2 HS
      rw [hy] at C2 q1 q2 HS2 c2 c3
      rw [hz] at c0 c1 b0 b1 HS ⊢
      rw [ht] at c2 c3 b2 b3 HS2 ⊢
      clear hx hy hz ht
      go_wp2_with fail
      refine C1.out.mono ?_; rintro e w' ⟨rfl, rfl⟩
      go_wp2_with fail
      refine C2.out.mono ?_; rintro e w' ⟨rfl, rfl⟩
      go_wp2
      go_round
      case rel => exact ⟨j + 1, by omega, by go_num, by rw [HS.out], by rw [HS2.out]⟩
      case measure => simp [intOf]; omega
    · obtain rfl : j = k := by omega
      have HE := Lib.hid (cs_same hp hn hk)
      go_wp2
      go_ret
      exact ⟨ret_int HE.out, rfl⟩

set_option maxRecDepth 100000 in
set_option maxHeartbeats 1000000 in
theorem s_CountSpaces (p n k : Int) (w : World) : Calls Try.prog 9 #[.int .i64 p, .int .i64 n, .int .i64 k] w (IntAns (cntV p n k) w) := by
  by_cases h : isF p = true ∧ inR n 0 4 = true ∧ inR k 0 n = true
  · have e : cntV p n k = csI p n.toNat k.toNat := if_pos h
    obtain ⟨h1, h2, h3⟩ := h
    obtain ⟨a, b⟩ := inR_true h2
    obtain ⟨c, d⟩ := inR_true h3
    obtain ⟨n, rfl⟩ := Int.eq_ofNat_of_zero_le a
    obtain ⟨k, rfl⟩ := Int.eq_ofNat_of_zero_le c
    rw [e]
    exact s_CountSpaces_yes p n k h1 (by omega) (by omega) w
  · have HE := Lib.hid (show cntV p n k = -1 from if_neg h)
    rcases cnt_no h with h1 | ⟨h1, h2⟩ | ⟨h1, h2, h3⟩ <;> clear h
    · go_enter Try.func9, Try.ntmps9
      go_wp2_with fail
      refine (s_IsField _ _).mono ?_; rintro e w' ⟨rfl, rfl⟩
      go_wp2
      go_ret
      exact ⟨ret_int HE.out.symm, rfl⟩
    · go_enter Try.func9, Try.ntmps9
      go_wp2_with fail
      refine (s_IsField _ _).mono ?_; rintro e w' ⟨rfl, rfl⟩
      go_wp2_with fail
      refine (s_l1In _ _ _ _).mono ?_; rintro e w' ⟨rfl, rfl⟩
      go_wp2
      go_ret
      exact ⟨ret_int HE.out.symm, rfl⟩
    · go_enter Try.func9, Try.ntmps9
      go_wp2_with fail
      refine (s_IsField _ _).mono ?_; rintro e w' ⟨rfl, rfl⟩
      go_wp2_with fail
      refine (s_l1In _ _ _ _).mono ?_; rintro e w' ⟨rfl, rfl⟩
      go_wp2_with fail
      refine (s_l1In _ _ _ _).mono ?_; rintro e w' ⟨rfl, rfl⟩
      go_wp2
      go_ret
      exact ⟨ret_int HE.out.symm, rfl⟩


end Go.Proofs.Ytjcgommdeplbbaa
