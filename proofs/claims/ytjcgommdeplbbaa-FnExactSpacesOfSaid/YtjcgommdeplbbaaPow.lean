/- power and VectorOf, of the program and of the reference. -/
import Derived.Test.YtjcgommdeplbbaaScaleVec
namespace Go.Proofs.Ytjcgommdeplbbaa
open Go.RowKit
set_option linter.unusedVariables false
set_option linter.unusedSimpArgs false

theorem pow_bd {p : Int} (h : isF p = true) {k : Nat} (hk : k ≤ 8) : 1 ≤ p ^ k ∧ p ^ k ≤ 390625 ∧ 0 ≤ p ^ k * p ∧ p ^ k * p ≤ 1953125 := by
  have h8 : k = 0 ∨ k = 1 ∨ k = 2 ∨ k = 3 ∨ k = 4 ∨ k = 5 ∨ k = 6 ∨ k = 7 ∨ k = 8 := by omega
  rcases isF_cases h with rfl | rfl | rfl <;> rcases h8 with rfl | rfl | rfl | rfl | rfl | rfl | rfl | rfl | rfl <;> decide

set_option maxRecDepth 100000 in
set_option maxHeartbeats 400000 in
theorem i_power (p : Int) (n : Nat) (hp : isF p = true) (hn : n ≤ 8) (w : World) :
    Calls Try.prog 23 #[.int .i64 p, .int .i64 n] w (IntAns (p ^ n) w) := by
  go_enter Try.func23, Try.ntmps23
  go_wp2
  go_loop [5, 7] (fun v i => ∃ k : Nat, k ≤ n ∧ i = .int .i64 k ∧ v = .int .i64 (p ^ k)) (fun _ i => n - (intOf i).toNat)
  case atStart => exact ⟨0, Nat.zero_le _, rfl, by simp⟩
  case round =>
    obtain ⟨k, hk, rfl, rfl⟩ := hrel
    obtain ⟨h1, h2, h3, h4⟩ := pow_bd hp (show k ≤ 8 by omega)
    by_cases hlt : k < n
    · have HS := Lib.hid (Int.pow_succ p k)
      go_wp2
      go_round
      case rel => exact ⟨k + 1, by omega, by go_num, by rw [HS.out]⟩
      case measure => simp [intOf]; omega
    · obtain rfl : k = n := by omega
      go_wp2
      go_ret
      exact ⟨rfl, rfl⟩
set_option maxRecDepth 100000 in
set_option maxHeartbeats 400000 in
theorem s_l5Power (p : Int) (n : Nat) (hp : isF p = true) (hn : n ≤ 8) (w : World) :
    Calls Try.prog 19 #[.int .i64 p, .int .i64 n] w (IntAns (p ^ n) w) := by
  go_enter Try.func19, Try.ntmps19
  go_wp2
  go_loop [5, 6] (fun v i => ∃ k : Nat, k ≤ n ∧ i = .int .i64 k ∧ v = .int .i64 (p ^ k)) (fun _ i => n - (intOf i).toNat)
  case atStart => exact ⟨0, Nat.zero_le _, rfl, by simp⟩
  case round =>
    obtain ⟨k, hk, rfl, rfl⟩ := hrel
    obtain ⟨h1, h2, h3, h4⟩ := pow_bd hp (show k ≤ 8 by omega)
    by_cases hlt : k < n
    · have HS := Lib.hid (Int.pow_succ p k)
      go_wp2
      go_round
      case rel => exact ⟨k + 1, by omega, by go_num, by rw [HS.out]⟩
      case measure => simp [intOf]; omega
    · obtain rfl : k = n := by omega
      go_wp2
      go_ret
      exact ⟨rfl, rfl⟩

/-- the last n digits of a number -/
def vecL (p : Int) (n : Nat) (c : Int) : List Int := gen (fun t => c / p ^ (n - 1 - t) % p) n
theorem vecL_len (p : Int) (n : Nat) (c : Int) : (vecL p n c).length = n := gen_len _ _
theorem vecL_get (p : Int) (n : Nat) (c : Int) (k : Nat) (hk : k < n) : (vecL p n c).getD (n - 1 - k) 0 = c / p ^ k % p := by
  unfold vecL; rw [gen_get _ _ _ (by omega), show n - 1 - (n - 1 - k) = k by omega]
theorem div_pow {p c : Int} (hp : isF p = true) (k : Nat) : c / p ^ k / p = c / p ^ (k + 1) := by
  rw [Int.pow_succ, Int.ediv_ediv_of_nonneg (Int.pow_nonneg (by have := isF_cases hp; omega))]
/-- a row is filled from its end -/
theorem set_back (F : List Int) (N k : Nat) (hF : F.length = N) (hk : k < N) (x : Int) (hx : F.getD (N - 1 - k) 0 = x) :
    (List.replicate (N - k) 0 ++ F.drop (N - k)).set (N - 1 - k) x = List.replicate (N - (k + 1)) 0 ++ F.drop (N - (k + 1)) := by
  apply List.ext_getElem
  · simp; omega
  · intro t h1 h2
    rw [List.getElem_set]
    by_cases h : N - 1 - k = t
    · subst h
      rw [if_pos rfl, List.getElem_append_right (by simp; omega), List.getElem_drop]
      simp only [List.length_replicate]
      rw [← hx]
      simp only [List.getD, List.getElem?_eq_getElem (show N - 1 - k < F.length by omega), Option.getD_some]
      congr 1
      omega
    · rw [if_neg h]
      simp only [List.length_append, List.length_replicate, List.length_drop, List.length_set] at h1 h2
      by_cases h3 : t < N - (k + 1)
      · rw [List.getElem_append_left (by simp; omega), List.getElem_append_left (by simp; omega)]; simp
      · rw [List.getElem_append_right (by simp; omega), List.getElem_append_right (by simp; omega), List.getElem_drop, List.getElem_drop]
        simp only [List.length_replicate]
        congr 1
        omega

def vecOK (p n c : Int) : Bool := isF p && inR n 0 8 && decide (0 ≤ c) && decide (c < p ^ n.toNat)
def vecR (p n c : Int) : List Int := if vecOK p n c = true then vecL p n.toNat c else []
theorem pow_pos {p : Int} (hp : isF p = true) (k : Nat) : 0 < p ^ k := Int.pow_pos (by have := isF_cases hp; omega)
theorem div_zero_iff {p c : Int} (hp : isF p = true) (hc : 0 ≤ c) (n : Nat) : 0 < c / p ^ n ↔ ¬ c < p ^ n := by
  have h := pow_pos hp n
  constructor
  · intro h1 h2
    rw [Int.ediv_eq_zero_of_lt hc h2] at h1
    omega
  · intro h1
    have := Int.ediv_le_ediv h (show p ^ n ≤ c by omega)
    rw [Int.ediv_self (by omega)] at this
    omega


theorem vecOK_true {p n c : Int} (h : vecOK p n c = true) : isF p = true ∧ 0 ≤ n ∧ n ≤ 8 ∧ 0 ≤ c ∧ c < p ^ n.toNat := by
  unfold vecOK at h
  simp only [Bool.and_eq_true, decide_eq_true_eq] at h
  obtain ⟨⟨⟨h1, h2⟩, h3⟩, h4⟩ := h
  obtain ⟨h5, h6⟩ := inR_true h2
  exact ⟨h1, h5, h6, h3, h4⟩
theorem vecOK_false {p n c : Int} (h : vecOK p n c = false) : isF p = false ∨ (isF p = true ∧ inR n 0 8 = false) ∨ (isF p = true ∧ inR n 0 8 = true ∧ c < 0) ∨ (isF p = true ∧ inR n 0 8 = true ∧ 0 ≤ c ∧ ¬ c < p ^ n.toNat) := by
  unfold vecOK at h
  cases h1 : isF p
  · exact .inl rfl
  · cases h2 : inR n 0 8
    · exact .inr (.inl ⟨rfl, rfl⟩)
    · by_cases h3 : 0 ≤ c
      · right; right; right
        refine ⟨rfl, rfl, h3, fun h4 => ?_⟩
        simp [h1, h2, h3, h4] at h
      · exact .inr (.inr (.inl ⟨rfl, rfl, by omega⟩))


def VecIf (p : Int) (n : Nat) (c : Int) (w : World) : Ending → World → Prop := VecOK (if 0 < c / p ^ n then [] else vecL p n c) (!decide (0 < c / p ^ n)) w
set_option maxRecDepth 100000 in
set_option maxHeartbeats 1000000 in
theorem s_VectorOf_loop (p : Int) (n : Nat) (c : Int) (hp : isF p = true) (hn : n ≤ 8) (hc : 0 ≤ c) (hc' : c ≤ 9223372036854775807) (w : World) :
    Calls Try.prog 20 #[.int .i64 p, .int .i64 n, .int .i64 c] w (VecIf p n c w) := by
  have hmk := run_make_ints n (by omega)
  obtain ⟨B, hB⟩ : ∃ B, B = w.heap.size := ⟨_, rfl⟩
  have HB := Lib.hid hB
  have hB1 : B ≤ w.heap.size := by omega
  clear hB
  have HZ := Lib.hid (own_zeros w B n hB1 (by omega))
  have hp5 : 2 ≤ p ∧ p ≤ 5 := by have := isF_cases hp; omega
  obtain ⟨hp2, hp5⟩ := hp5
  have hin : inR (n : Int) 0 8 = true := inR_mk (by omega) (by omega)
  have hcd : decide (c < 0) = false := by simp; omega
  have hbl := Lib.hid ((Below.refl B w).alloc hB1 (.cells (zerosArr n) 3))
  go_enter Try.func20, Try.ntmps20
  go_wp2_with fail
  refine (s_IsField _ _).mono ?_; rintro e w' ⟨rfl, rfl⟩
  go_wp2_with fail
  refine (s_l1In _ _ _ _).mono ?_; rintro e w' ⟨rfl, rfl⟩
  go_wp2
  go_loopw [2, 9] (fun cc i wr => ∃ k : Nat, k ≤ n ∧ i = .int .i64 ((n : Int) - 1 - k) ∧ cc = .int .i64 (c / p ^ k) ∧ Own wr B 3 .i64 (.slice (some ⟨w.heap.size, 0, none⟩) n n) (List.replicate (n - k) 0 ++ (vecL p n c).drop (n - k)) ∧ Below B w wr) (fun _ i _ => (intOf i + 1).toNat)
  case atStart => exact ⟨0, Nat.zero_le _, by simp, by simp, by simpa [List.drop_eq_nil_of_le (show (vecL p n c).length ≤ n by rw [vecL_len]; exact Nat.le_refl _)] using HZ.out, hbl.out⟩
  case round =>
    obtain ⟨k, hk, rfl, rfl, hown, hbel⟩ := hrel
    by_cases hlt : k < n
    · obtain ⟨g, hg, hBg, hgs, hcl, hfr⟩ := (Own.at hown).2.2 (by omega)
      obtain rfl : g = w.heap.size := by simpa using hg.symm
      have hset := set_back (vecL p n c) n k (vecL_len p n c) hlt (c / p ^ k % p) (vecL_get p n c k hlt)
      have hst := Own.store hown (n - 1 - k) (c / p ^ k % p)
      rw [hset] at hst
      have HST := Lib.hid hst
      have hc1 := hcl (n - 1 - k) (by omega)
      have hf1 := hfr (n - 1 - k)
      have hq0 : 0 ≤ c / p ^ k := Int.ediv_nonneg hc (Int.pow_nonneg (by omega))
      have hq1 : c / p ^ k ≤ c := Int.ediv_le_self _ hc
      have HD := Lib.hid (div_pow (c := c) hp k)
      clear hcl hfr hg hset hst
      go_wp2
      go_roundw
      case rel => exact ⟨k + 1, by omega, by go_num, by rw [HD.out], HST.out, hbel.setCell hBg _⟩
      case measure => simp [intOf]; omega
    · have hk' : k = n := by omega
      have HQ : Hid (Ints wr (.slice (some ⟨w.heap.size, 0, none⟩) n n) (vecL p n c) ∧ FreshV B (.slice (some ⟨w.heap.size, 0, none⟩) n n)) := by
        rw [hk', Nat.sub_self] at hown; exact Ints.of_own (by simpa using hown)
      subst hk'
      clear hown
      by_cases hq : 0 < c / p ^ k
      · have HE := Lib.hid (show (if 0 < c / p ^ k then [] else vecL p k c) = [] from if_pos hq)
        have hmd := Lib.hid (Ints.of_own (Own.made wr (B := w.heap.size) 3 .i64 hbel.size))
        go_wp2
        go_ret2
        exact VecOK.of_eq (l := []) (ok := false) ⟨_, rfl, hmd.out.1, hmd.out.2, (hbel.mono (by rw [HB.out]; exact Nat.le_refl _)).alloc hbel.size _⟩ HE.out.symm (by simp [hq])
      · have HE := Lib.hid (show (if 0 < c / p ^ k then [] else vecL p k c) = vecL p k c from if_neg hq)
        go_wp2
        go_ret2
        exact VecOK.of_eq (l := vecL p k c) (ok := true) ⟨_, rfl, HQ.out.1, HQ.out.2.mono (by rw [HB.out]; exact Nat.le_refl _), hbel.mono (by rw [HB.out]; exact Nat.le_refl _)⟩ HE.out.symm (by simp [hq])

set_option maxRecDepth 100000 in
set_option maxHeartbeats 1000000 in
theorem s_VectorOf (p n c : Int) (hc' : c ≤ 9223372036854775807) (w : World) :
    Calls Try.prog 20 #[.int .i64 p, .int .i64 n, .int .i64 c] w (VecOK (vecR p n c) (vecOK p n c) w) := by
  by_cases hbad : isF p = false ∨ (isF p = true ∧ inR n 0 8 = false) ∨ (isF p = true ∧ inR n 0 8 = true ∧ c < 0)
  · have hok : vecOK p n c = false := by
      unfold vecOK
      rcases hbad with h | ⟨h, h2⟩ | ⟨h, h2, h3⟩
      · simp [h]
      · simp [h2]
      · have : ¬ 0 ≤ c := by omega
        simp [this]
    have HR := Lib.hid (show VecOK (vecR p n c) (vecOK p n c) w = VecOK [] false w by unfold vecR; simp [hok])
    have hmd := Lib.hid (Ints.of_own (Own.made w (B := w.heap.size) 3 .i64 (Nat.le_refl _)))
    have hbw := Lib.hid ((Below.refl _ w).alloc (Nat.le_refl w.heap.size) (.cells #[] 3))
    rw [HR.out]
    clear hok
    rcases hbad with h1 | ⟨h1, h2⟩ | ⟨h1, h2, h3⟩
    · go_enter Try.func20, Try.ntmps20
      go_wp2_with fail
      refine (s_IsField _ _).mono ?_; rintro e w' ⟨rfl, rfl⟩
      go_wp2
      go_ret2
      exact ⟨_, rfl, hmd.out.1, hmd.out.2, hbw.out⟩
    · go_enter Try.func20, Try.ntmps20
      go_wp2_with fail
      refine (s_IsField _ _).mono ?_; rintro e w' ⟨rfl, rfl⟩
      go_wp2_with fail
      refine (s_l1In _ _ _ _).mono ?_; rintro e w' ⟨rfl, rfl⟩
      go_wp2
      go_ret2
      exact ⟨_, rfl, hmd.out.1, hmd.out.2, hbw.out⟩
    · have hd : decide (c < 0) = true := by simpa using h3
      go_enter Try.func20, Try.ntmps20
      go_wp2_with fail
      refine (s_IsField _ _).mono ?_; rintro e w' ⟨rfl, rfl⟩
      go_wp2_with fail
      refine (s_l1In _ _ _ _).mono ?_; rintro e w' ⟨rfl, rfl⟩
      go_wp2
      go_ret2
      exact ⟨_, rfl, hmd.out.1, hmd.out.2, hbw.out⟩
  · have h1 : isF p = true := by
      cases h : isF p
      · exact absurd (.inl h) hbad
      · rfl
    have h2 : inR n 0 8 = true := by
      cases h : inR n 0 8
      · exact absurd (.inr (.inl ⟨h1, h⟩)) hbad
      · rfl
    have h3 : 0 ≤ c := by
      rcases Int.lt_or_le c 0 with h | h
      · exact absurd (.inr (.inr ⟨h1, h2, h⟩)) hbad
      · exact h
    obtain ⟨h5, h6⟩ := inR_true h2
    obtain ⟨k, rfl⟩ := Int.eq_ofNat_of_zero_le h5
    have e := div_zero_iff h1 h3 k
    have hok : vecOK p k c = !decide (0 < c / p ^ k) := by
      unfold vecOK
      simp only [h1, h2, h3, decide_true, Bool.and_self, Bool.true_and]
      by_cases h4 : c < p ^ k
      · have : ¬ 0 < c / p ^ k := by rw [e]; simpa using h4
        simp [this, h4]
      · have : 0 < c / p ^ k := by rw [e]; exact h4
        simp [this, h4]
    have hr : vecR p k c = if 0 < c / p ^ k then [] else vecL p k c := by
      unfold vecR
      rw [hok]
      by_cases h4 : 0 < c / p ^ k <;> simp [h4]
    rw [hok, hr]
    exact s_VectorOf_loop p k c h1 (by omega) h3 hc' w

end Go.Proofs.Ytjcgommdeplbbaa
