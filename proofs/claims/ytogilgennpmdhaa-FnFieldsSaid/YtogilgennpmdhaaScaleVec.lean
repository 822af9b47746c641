/- ScaleVector, of the program and of the reference. -/
import Derived.Test.YtogilgennpmdhaaAddVec
namespace Go.Proofs.Ytogilgennpmdhaa
open Go.RowKit
set_option linter.unusedVariables false
set_option linter.unusedSimpArgs false

def scaK (p k : Int) (l : List Int) (n : Nat) : List Int := gen (fun t => ((k % p) * l.getD t 0) % p) n
theorem scaK_len (p k : Int) (l : List Int) (n : Nat) : (scaK p k l n).length = n := gen_len _ _
theorem scaK_succ (p k : Int) (l : List Int) (n : Nat) : scaK p k l n ++ [((k % p) * l.getD n 0) % p] = scaK p k l (n + 1) := gen_succ (fun t => ((k % p) * l.getD t 0) % p) n
def scaV (p k : Int) (l : List Int) : List Int := scaK p k l l.length
def scaR (p k : Int) (l : List Int) : List Int := if isV p l = true then scaV p k l else []

theorem mod_mul_bd {p k x : Int} (hp : isF p = true) (h0 : 0 ≤ x) (h1 : x ≤ 4) : 0 ≤ (k % p) * x ∧ (k % p) * x ≤ 16 := by
  have := isF_cases hp
  have h2 := Int.emod_nonneg k (show p ≠ 0 by omega)
  have h3 := Int.emod_lt_of_pos k (show 0 < p by omega)
  have h5 := Int.mul_le_mul (show k % p ≤ 4 by omega) h1 h0 (by omega)
  exact ⟨Int.mul_nonneg h2 h0, by omega⟩

set_option maxRecDepth 100000 in
set_option maxHeartbeats 1000000 in
theorem s_ScaleVector_yes (p k : Int) (va : Value) (la : List Int) (w : World) (ha : Ints w va la) (h1 : isV p la = true) :
    Calls Try.prog 21 #[.int .i64 p, .int .i64 k, va] w (VecOK (scaV p k la) true w) := by
  have hF := isV_F h1
  have hL := isV_L h1
  have hp5 : 2 ≤ p ∧ p ≤ 5 := by have := isF_cases hF; omega
  obtain ⟨hp2, hp5⟩ := hp5
  obtain ⟨B, hB⟩ : ∃ B, B = w.heap.size := ⟨_, rfl⟩
  have HB := Lib.hid hB
  have hB1 : B ≤ w.heap.size := by omega
  clear hB
  have hbl := (Below.refl B w).alloc hB1 (.cells #[] 3)
  have hbw : Below w.heap.size w (w.alloc (.cells #[] 3)) := (Below.refl _ w).alloc (Nat.le_refl _) _
  have HA := Lib.hid ha
  have HA2 := Lib.hid (ha.below hbw)
  obtain ⟨a, cap, rfl, hlc, hcm⟩ := ha.shape
  have hmd := Lib.hid (Own.made w (B := B) 3 .i64 hB1)
  have HBW := Lib.hid hbl
  clear ha hbw hbl
  go_enter Try.func21, Try.ntmps21
  go_wp2_with fail
  refine (s_IsVector _ _ la _ HA2.out).mono ?_; rintro e w' ⟨rfl, rfl⟩
  go_wp2
  go_loopw [8, 9] (fun v i wr => ∃ j : Nat, j ≤ la.length ∧ i = .int .i64 j ∧ Own wr B 3 .i64 v (scaK p k la j) ∧ Below B w wr ∧ B ≤ wr.heap.size) (fun _ i _ => la.length - (intOf i).toNat)
  case atStart => exact ⟨0, Nat.zero_le _, rfl, hmd.out, HBW.out, Nat.le_trans hB1 (by simp)⟩
  case round =>
    obtain ⟨j, hj, rfl, hown, hbel, hBr⟩ := hrel
    by_cases hlt : j < la.length
    · obtain ⟨g, off, rfl, hgs, hc, _⟩ := HA.out.cell hlt
      obtain ⟨hx0, hx1⟩ := isV_elem h1 hlt
      have hgs1 := scaK_succ p k la j
      have hcw := hc
      rw [← hbel.cell (p := ⟨g, off + j, none⟩) (by rw [HB.out]; exact hgs)] at hc
      obtain ⟨x, hx⟩ := elem_name la j
      simp only [hx] at hc hcw hx0 hx1 hgs1
      have HG := Lib.hid hgs1
      obtain ⟨hm0, hm1⟩ := mod_mul_bd (k := k) hF hx0 hx1
      clear hgs1 hx
      have hj0 : (0 : Int) ≤ (j : Int) := by omega
      have hj1 : (j : Int) < (la.length : Int) := by omega
      have hwr : IntKind.i64.wrap (k % p * x) = k % p * x := IntWalk.i64_in _ (by omega)
      go_wp2
      go_region_held3 (fun w' => w'.cell? ⟨g, off + j, none⟩ = some (.int .i64 x))
        (first
          | go_keep
          | exact (hbel3.cell (p := ⟨g, off + j, none⟩) (by rw [HB.out]; exact hgs)).trans hcw)
        (first
          | (refine step_app_int w wr (by rfl) (.tmp 22) (.tmp 33) (by rfl) B u8 (scaK p k la j) (by rfl) (by rfl) hown hbel hBr (by rw [scaK_len]; omega) ?_; intro v' w3 hown3 hbel3 hB3)
          | (go_at_call 34; refine (s_l2Mod _ _ hF _).mono ?_; rintro e w' ⟨rfl, rfl⟩))
      all_goals
        rw [HG.out] at hown3
        go_wp2
        go_roundw
        case rel => exact ⟨j + 1, by omega, by go_num, hown3, hbel3, hB3⟩
        case measure => simp [intOf]; omega
    · have hj' : j = la.length := by omega
      have HQ : Hid (Ints wr u8 (scaV p k la) ∧ FreshV B u8) := by rw [hj'] at hown; exact Ints.of_own hown
      clear hown hj'
      go_wp2
      go_ret2
      exact ⟨_, rfl, HQ.out.1, HQ.out.2.mono (by rw [HB.out]; exact Nat.le_refl _), hbel.mono (by rw [HB.out]; exact Nat.le_refl _)⟩

set_option maxRecDepth 100000 in
set_option maxHeartbeats 1000000 in
theorem s_ScaleVector_no (p k : Int) (va : Value) (la : List Int) (w : World) (ha : Ints w va la) (h1 : isV p la = false) :
    Calls Try.prog 21 #[.int .i64 p, .int .i64 k, va] w (VecOK [] false w) := by
  have hbw : Below w.heap.size w (w.alloc (.cells #[] 3)) := (Below.refl _ w).alloc (Nat.le_refl _) _
  have HA2 := Lib.hid (ha.below hbw)
  have hmd := Lib.hid (Ints.of_own (Own.made w (B := w.heap.size) 3 .i64 (Nat.le_refl _)))
  have HBW := Lib.hid hbw
  obtain ⟨a, cap, rfl, hlc, hcm⟩ := ha.shape
  clear ha hbw
  go_enter Try.func21, Try.ntmps21
  go_wp2_with fail
  refine (s_IsVector _ _ la _ HA2.out).mono ?_; rintro e w' ⟨rfl, rfl⟩
  go_wp2
  go_ret2
  exact ⟨_, rfl, hmd.out.1, hmd.out.2, HBW.out⟩

theorem s_ScaleVector (p k : Int) (va : Value) (la : List Int) (w : World) (ha : Ints w va la) :
    Calls Try.prog 21 #[.int .i64 p, .int .i64 k, va] w (VecOK (scaR p k la) (isV p la) w) := by
  unfold scaR
  cases h : isV p la
  · rw [if_neg (by simp)]; exact s_ScaleVector_no p k va la w ha h
  · rw [if_pos rfl]; exact s_ScaleVector_yes p k va la w ha h

theorem addAt_sca (p k : Int) (la : List Int) : addAt p (List.replicate la.length 0) 0 (k % p) la la.length = scaV p k la := by
  unfold addAt scaV scaK gen
  rw [List.length_replicate]
  apply List.map_congr_left
  intro t ht
  rw [List.mem_range] at ht
  rw [if_pos (by omega)]
  simp [List.getD, ht]

set_option maxRecDepth 100000 in
set_option maxHeartbeats 1000000 in
theorem i_ScaleVector_yes (p k : Int) (va : Value) (la : List Int) (w : World) (ha : Ints w va la) (h1 : isV p la = true) :
    Calls Try.prog 20 #[.int .i64 p, .int .i64 k, va] w (VecOK (scaV p k la) true w) := by
  have hF := isV_F h1
  have hL := isV_L h1
  have hp5 : 2 ≤ p ∧ p ≤ 5 := by have := isF_cases hF; omega
  obtain ⟨hp2, hp5⟩ := hp5
  have HA := Lib.hid ha
  obtain ⟨a, cap, rfl, hlc, hcm⟩ := ha.shape
  have hmk := run_make_ints la.length (by omega)
  clear ha
  go_enter Try.func20, Try.ntmps20
  go_wp2_with fail
  refine (i_IsVector _ _ la _ HA.out).mono ?_; rintro e w1 ⟨rfl, b1⟩
  have HZ : Hid (Ints (w1.alloc (.cells (zerosArr la.length) 3)).drew (.slice (some ⟨w1.heap.size, 0, none⟩) la.length la.length) (List.replicate la.length 0) ∧ FreshV w1.heap.size (.slice (some ⟨w1.heap.size, 0, none⟩) la.length la.length)) :=
    Ints.of_own (Own.drew (own_zeros w1 w1.heap.size la.length (Nat.le_refl _) (by omega)))
  have hb2 : Below w1.heap.size w1 (w1.alloc (.cells (zerosArr la.length) 3)).drew := ((Below.refl _ _).alloc (Nat.le_refl _) _).drew
  have HA1 := Lib.hid (HA.out.below b1)
  have HA2 := Lib.hid (HA1.out.below hb2)
  have HB2 := Lib.hid hb2
  have HS : Hid (∀ q, blk (.slice a la.length cap) = some q → ¬ blk (.slice (some ⟨w1.heap.size, 0, none⟩) la.length la.length) = some q) := fun q hq h => by
    have := HA1.out.lt q hq
    have := HZ.out.2 q h
    omega
  have HM : Hid (∀ j, j < la.length → 0 ≤ (List.replicate la.length (0 : Int)).getD j 0 ∧ (List.replicate la.length (0 : Int)).getD j 0 ≤ 1000000 ∧ 0 ≤ k % p * la.getD j 0 ∧ k % p * la.getD j 0 ≤ 1000000) := fun j hj => by
    obtain ⟨h2, h3⟩ := isV_elem h1 hj
    have := mod_mul_bd (k := k) hF h2 h3
    simp [List.getD, hj] at this ⊢
    omega
  clear hb2
  go_wp2_with fail
  go_region_with (first
    | (go_at_call 8; refine (i_ReduceMod_yes _ _ hF _).mono ?_; rintro e w' ⟨rfl, rfl⟩)
    | (go_at_call 43; refine (i_addMultiple_whole _ _ _ _ (List.replicate la.length 0) la _ (by omega) (by omega) HZ.out.1 HA2.out (by simp) HS.out HM.out).mono ?_; rintro e w4 ⟨rfl, hv4, c4⟩))
  all_goals
    rw [addAt_sca] at hv4
    go_wp2
    go_ret2
    have hb13 := below_call b1 HB2.out b1.size
    have hf := HZ.out.2.mono b1.size
    exact ⟨_, rfl, hv4, hf, below_chg hb13 c4 hb13.size (fun q h => hf q h)⟩

set_option maxRecDepth 100000 in
set_option maxHeartbeats 1000000 in
theorem i_ScaleVector_no (p k : Int) (va : Value) (la : List Int) (w : World) (ha : Ints w va la) (h1 : isV p la = false) :
    Calls Try.prog 20 #[.int .i64 p, .int .i64 k, va] w (VecOK [] false w) := by
  have HA := Lib.hid ha
  obtain ⟨a, cap, rfl, hlc, hcm⟩ := ha.shape
  clear ha
  go_enter Try.func20, Try.ntmps20
  go_wp2_with fail
  refine (i_IsVector _ _ la _ HA.out).mono ?_; rintro e w1 ⟨rfl, b1⟩
  go_wp2
  go_ret2
  exact ⟨_, rfl, Ints.nil _, FreshV.nil _, b1⟩

theorem i_ScaleVector (p k : Int) (va : Value) (la : List Int) (w : World) (ha : Ints w va la) :
    Calls Try.prog 20 #[.int .i64 p, .int .i64 k, va] w (VecOK (scaR p k la) (isV p la) w) := by
  unfold scaR
  cases h : isV p la
  · rw [if_neg (by simp)]; exact i_ScaleVector_no p k va la w ha h
  · rw [if_pos rfl]; exact i_ScaleVector_yes p k va la w ha h

end Go.Proofs.Ytogilgennpmdhaa
