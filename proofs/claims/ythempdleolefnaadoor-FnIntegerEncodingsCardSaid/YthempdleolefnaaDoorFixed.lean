/- EncodeFixed, of the program and of the reference: both give the same bytes, the highest first. -/
import Derived.Test.YthempdleolefnaaDoorOwn
import Derived.Test.YthempdleolefnaaDoorRange
namespace Go.Proofs.YthempdleolefnaaDoor
open Go.RowKit
set_option linter.unusedVariables false
set_option linter.unusedSimpArgs false

/-- the low bytes of a number, the highest of them first -/
def feL (n : Int) : Nat → List Int
  | 0 => []
  | i + 1 => (n / 2 ^ (8 * i) % 256) :: feL n i
theorem feL_len (n : Int) : ∀ i, (feL n i).length = i
  | 0 => rfl
  | i + 1 => by simp [feL, feL_len n i]
theorem feL_get (n : Int) : ∀ i k, k < i → (feL n i).getD k 0 = n / 2 ^ (8 * (i - 1 - k)) % 256
  | i + 1, 0, _ => by simp [feL]
  | i + 1, k + 1, h => by
    have := feL_get n i k (by omega)
    simp only [feL, List.getD_cons_succ, this]
    rw [show i + 1 - 1 - (k + 1) = i - 1 - k by omega]
theorem div_step (n : Int) (k : Nat) : n / 2 ^ (8 * k) / 256 = n / 2 ^ (8 * (k + 1)) := by
  rw [Int.ediv_ediv_of_nonneg (Int.pow_nonneg (by omega)), show 8 * (k + 1) = 8 * k + 8 by omega, Int.pow_add]; rfl

theorem strOfNums_cons (c : Int) (l : List Int) : strOfNums [c] ++ strOfNums l = strOfNums (c :: l) := by
  have := ByteArray.mk_append_mk ([c].map fun n => UInt8.ofNat n.toNat) (l.map fun n => UInt8.ofNat n.toNat)
  simpa [strOfNums] using this

set_option maxRecDepth 100000 in
set_option maxHeartbeats 1000000 in
theorem s_EncodeFixed_loop (n : Int) (width : Nat) (hn : 0 ≤ n) (hn' : n ≤ 9223372036854775807) (h1 : 1 ≤ width) (h7 : width ≤ 7) (w : World) :
    Calls Tryd.prog 21 #[.int .i64 n, .int .i64 width] w fun e w' => e = .returned (.string (if 0 < n / 2 ^ (8 * width) then ⟨#[]⟩ else strOfNums (feL n width))) ∧ Below w.heap.size w w' := by
  have hin : inR width 1 7 = true := inR_mk (by omega) (by omega)
  have hnd : decide (n < 0) = false := by simp; omega
  go_enter Tryd.func21, Tryd.ntmps21
  go_wp2_with fail
  refine (s_l1In _ _ _ _).mono ?_; rintro e w' ⟨rfl, rfl⟩
  go_wp2
  go_loopw [0, 5, 6] (fun m s i wr => ∃ k : Nat, k ≤ width ∧ i = .int .i64 k ∧ m = .int .i64 (n / 2 ^ (8 * k)) ∧ s = .string (strOfNums (feL n k)) ∧ Below w.heap.size w wr) (fun _ _ i _ => width - (intOf i).toNat)
  case atStart => exact ⟨0, Nat.zero_le _, rfl, by simp, rfl, Below.refl _ _⟩
  case round =>
    obtain ⟨k, hk, rfl, rfl, rfl, hbel⟩ := hrel
    by_cases hlt : k < width
    · have hcv : ∀ (c : Int), (convert 29 9 (.slice (some ⟨wr.heap.size, 0, none⟩) 1 1)).run Tryd.prog (wr.alloc (.cells #[.int .u8 c] 5)) = .ok (.string (strOfNums [c])) (wr.alloc (.cells #[.int .u8 c] 5)) := fun c =>
        text_of_bytes (B := 0) (l := [c]) (World.ownsRow_lit wr #[.int .u8 c] 1 (Nat.zero_le _) (by decide) rfl)
      have had : ∀ (c : Int) (wx : World), (Op.stringOp .add (strOfNums [c]) (strOfNums (feL n k))).run Tryd.prog wx = .ok (.string (strOfNums (c :: feL n k))) wx := fun c wx => by
        rw [run_string_add_sum _ _ _ (by rw [strOfNums_size, strOfNums_size, feL_len]; simp; omega), strOfNums_cons]
      have hpos : 0 ≤ n / 2 ^ (8 * k) := Int.ediv_nonneg hn (Int.pow_nonneg (by omega))
      have hle : n / 2 ^ (8 * k) ≤ n := Int.ediv_le_self _ hn
      go_wp2
      go_roundw
      case rel => exact ⟨k + 1, by omega, by go_num, by rw [← div_step], rfl, hbel.alloc hbel.size _⟩
      case measure => simp [intOf]; omega
    · obtain rfl : k = width := by omega
      by_cases hq : 0 < n / 2 ^ (8 * k)
      · go_wp2
        go_ret
        exact ⟨rfl, hbel⟩
      · go_wp2
        go_ret
        exact ⟨rfl, hbel⟩

set_option maxRecDepth 100000 in
set_option maxHeartbeats 1000000 in
set_option maxRecDepth 100000 in
theorem i_EncodeFixed_loop (n : Int) (width : Nat) (hn : 0 ≤ n) (hn' : n ≤ 9223372036854775807) (h1 : 1 ≤ width) (h7 : width ≤ 7) (w : World) :
    Calls Tryd.prog 19 #[.int .i64 n, .int .i64 width] w fun e w' => e = .returned (.string (if 0 < n / 2 ^ (8 * width) then ⟨#[]⟩ else strOfNums (feL n width))) ∧ Below w.heap.size w w' := by
  have hin : inR width 1 7 = true := inR_mk (by omega) (by omega)
  have hnd : decide (n < 0) = false := by simp; omega
  by_cases hq : 0 < n / 2 ^ (8 * width)
  · go_enter Tryd.func19, Tryd.ntmps19
    go_wp2_with fail
    refine (i_within _ _ _ _).mono ?_; rintro e w' ⟨rfl, rfl⟩
    go_wp2
    go_ret
    exact ⟨rfl, Below.refl _ _⟩
  · obtain ⟨B, hB⟩ : ∃ B, B = w.heap.size := ⟨_, rfl⟩
    have HB := Lib.hid hB
    have hB1 : B ≤ w.heap.size := by omega
    clear hB
    go_enter Tryd.func19, Tryd.ntmps19
    go_wp2_with fail
    refine (i_within _ _ _ _).mono ?_; rintro e w' ⟨rfl, rfl⟩
    go_wp2_with (at_make; refine mk_bytes w w rfl (.tmp 21) (.tmp 21) rfl B width rfl rfl (Below.refl _ _) hB1 (by omega) ?_)
    intro w1 hown hbel hB2
    have hdq : decide (0 < n / 2 ^ (8 * width)) = false := by simp; omega
    have HQ := Lib.hid hq; clear hq
    go_wp2
    go_loopw [25] (fun i wr => ∃ k : Nat, k ≤ width ∧ i = .int .i64 k ∧ Own wr B 5 .u8 (.slice (some ⟨w.heap.size, 0, none⟩) width width) ((feL n width).take k ++ List.replicate (width - k) 0) ∧ Below B w wr) (fun i _ => width - (intOf i).toNat)
    case atStart => exact ⟨0, Nat.zero_le _, rfl, by simpa using hown, hbel⟩
    case round =>
      obtain ⟨k, hk, rfl, hown, hbel⟩ := hrel
      by_cases hlt : k < width
      · obtain ⟨g, hg, hBg, hgs, hcl, hfr⟩ := (Own.at hown).2.2 (by omega)
        obtain rfl : g = w.heap.size := by simpa using hg.symm
        have hc1 := hcl k hlt
        have hf1 := hfr k
        clear hcl hfr hg
        have hsh : Op.shift BinOp.shr IntKind.i64 n IntKind.i64 (8 * ((width : Int) - 1 - (k : Int))) = pure (.int .i64 (n / 2 ^ (8 * (width - 1 - k)))) := by
          rw [shift_shr_any _ _ _ _ (by omega), show (8 * ((width : Int) - 1 - (k : Int))).toNat = 8 * (width - 1 - k) by omega, show IntKind.i64.bits = 64 from rfl, Nat.min_eq_left (by omega)]
        obtain ⟨q, hqv⟩ : ∃ q, q = n / 2 ^ (8 * (width - 1 - k)) := ⟨_, rfl⟩
        rw [← hqv] at hsh
        have HQV := Lib.hid hqv; clear hqv
        have hset := set_fill (feL n width) width k (feL_len n width) hlt (n / 2 ^ (8 * (width - 1 - k)) % 256) (feL_get n width k hlt)
        have hst := Own.store hown k (n / 2 ^ (8 * (width - 1 - k)) % 256)
        rw [hset] at hst
        clear hset
        have hst := Lib.hid hst
        go_wp2
        go_roundw
        case rel => exact ⟨k + 1, by omega, by go_num, hst.out, hbel.setCell hBg _⟩
        case measure => simp [intOf]; omega
      · obtain rfl : k = width := by omega
        rw [fill_done _ _ (feL_len n k)] at hown
        have ht := text_of_bytes hown
        go_wp2
        go_ret
        exact ⟨rfl, hbel.mono (by rw [HB.out]; exact Nat.le_refl _)⟩

/-- both give one text -/
def feS (n width : Int) : ByteArray := if inR width 1 7 = true ∧ 0 ≤ n ∧ ¬ 0 < n / 2 ^ (8 * width.toNat) then strOfNums (feL n width.toNat) else ⟨#[]⟩
def FixAns (n width : Int) (w : World) (e : Ending) (w' : World) : Prop := e = .returned (.string (feS n width)) ∧ Below w.heap.size w w'

theorem feS_yes {n : Int} {width : Nat} (hn : 0 ≤ n) (h1 : 1 ≤ width) (h7 : width ≤ 7) : feS n width = if 0 < n / 2 ^ (8 * width) then ⟨#[]⟩ else strOfNums (feL n width) := by
  unfold feS
  have hin : inR (width : Int) 1 7 = true := inR_mk (by omega) (by omega)
  by_cases h : 0 < n / 2 ^ (8 * width)
  · rw [if_pos h, if_neg (by rintro ⟨_, _, h'⟩; exact h' (by simpa using h))]
  · rw [if_neg h, if_pos ⟨hin, hn, by simpa using h⟩]; rfl
theorem feS_no {n width : Int} (h : inR width 1 7 = false ∨ n < 0) : feS n width = ⟨#[]⟩ := by
  unfold feS
  rw [if_neg]
  rintro ⟨h1, h2, _⟩
  rcases h with h | h
  · simp [h] at h1
  · omega

set_option maxRecDepth 100000 in
set_option maxHeartbeats 400000 in
theorem s_EncodeFixed (n width : Int) (hn' : n ≤ 9223372036854775807) (w : World) :
    Calls Tryd.prog 21 #[.int .i64 n, .int .i64 width] w (FixAns n width w) := by
  by_cases hin : inR width 1 7 = true
  · by_cases hn : 0 ≤ n
    · obtain ⟨h1, h7⟩ := inR_true hin
      obtain ⟨k, rfl⟩ := Int.eq_ofNat_of_zero_le (show 0 ≤ width by omega)
      refine (s_EncodeFixed_loop n k hn hn' (by omega) (by omega) w).mono ?_
      rintro e w' ⟨rfl, hb⟩
      exact ⟨ret_str (feS_yes hn (by omega) (by omega)).symm, hb⟩
    · have HV := Lib.hid (feS_no (width := width) (.inr (show n < 0 by omega)))
      go_enter Tryd.func21, Tryd.ntmps21
      go_wp2_with fail
      refine (s_l1In _ _ _ _).mono ?_; rintro e w' ⟨rfl, rfl⟩
      go_wp2
      go_ret
      exact ⟨ret_str HV.out.symm, Below.refl _ _⟩
  · have hin : inR width 1 7 = false := by simpa using hin
    have HV := Lib.hid (feS_no (n := n) (.inl hin))
    go_enter Tryd.func21, Tryd.ntmps21
    go_wp2_with fail
    refine (s_l1In _ _ _ _).mono ?_; rintro e w' ⟨rfl, rfl⟩
    go_wp2
    go_ret
    exact ⟨ret_str HV.out.symm, Below.refl _ _⟩

set_option maxRecDepth 100000 in
set_option maxHeartbeats 400000 in
theorem i_EncodeFixed (n width : Int) (hn' : n ≤ 9223372036854775807) (w : World) :
    Calls Tryd.prog 19 #[.int .i64 n, .int .i64 width] w (FixAns n width w) := by
  by_cases hin : inR width 1 7 = true
  · by_cases hn : 0 ≤ n
    · obtain ⟨h1, h7⟩ := inR_true hin
      obtain ⟨k, rfl⟩ := Int.eq_ofNat_of_zero_le (show 0 ≤ width by omega)
      refine (i_EncodeFixed_loop n k hn hn' (by omega) (by omega) w).mono ?_
      rintro e w' ⟨rfl, hb⟩
      exact ⟨ret_str (feS_yes hn (by omega) (by omega)).symm, hb⟩
    · have HV := Lib.hid (feS_no (width := width) (.inr (show n < 0 by omega)))
      go_enter Tryd.func19, Tryd.ntmps19
      go_wp2_with fail
      refine (i_within _ _ _ _).mono ?_; rintro e w' ⟨rfl, rfl⟩
      go_wp2
      go_ret
      exact ⟨ret_str HV.out.symm, Below.refl _ _⟩
  · have hin : inR width 1 7 = false := by simpa using hin
    have HV := Lib.hid (feS_no (n := n) (.inl hin))
    go_enter Tryd.func19, Tryd.ntmps19
    go_wp2_with fail
    refine (i_within _ _ _ _).mono ?_; rintro e w' ⟨rfl, rfl⟩
    go_wp2
    go_ret
    exact ⟨ret_str HV.out.symm, Below.refl _ _⟩


end Go.Proofs.YthempdleolefnaaDoor
