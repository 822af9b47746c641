/- FormatInt: the plain law of decimal numerals, the walks of the program and of the reference, the law. -/
import Derived.Test.YtdmjikfjmimfmaaDoorHexP
import Derived.Lib.ItoaMem
import Derived.Lib.AppendIntMem
import Derived.Lib.ItoaLen
import Derived.Lib.Atoi
import Derived.Lib.AtoiTie
namespace Go.Proofs.YtdmjikfjmimfmaaDoor
open Go.RowKit
set_option linter.unusedVariables false
set_option linter.unusedSimpArgs false

/-- the digits of a number, as numbers -/
def dI (u : Nat) : List Int := (Lib.decDigits u).map fun b => (b.toNat : Int)
theorem dI_small {u : Nat} (h : u < 10) : dI u = [48 + (u : Int)] := by
  unfold dI; rw [Lib.decDigits, dif_pos h]; simp; omega
theorem dI_big {u : Nat} (h : ¬ u < 10) : dI u = dI (u / 10) ++ [48 + ((u % 10 : Nat) : Int)] := by
  unfold dI; rw [Lib.decDigits, dif_neg h]; simp; omega
/-- none at 0 -/
def dZ (u : Nat) : List Int := if u = 0 then [] else dI u
theorem dZ_zero : dZ 0 = [] := rfl
theorem dZ_step {u : Nat} (h : u ≠ 0) : dZ u = dZ (u / 10) ++ [48 + ((u % 10 : Nat) : Int)] := by
  unfold dZ
  rw [if_neg h]
  by_cases h10 : u < 10
  · rw [dI_small h10, if_pos (by omega), show u % 10 = u by omega]; rfl
  · rw [dI_big h10, if_neg (by omega)]
theorem dI_len {u : Nat} (h : u ≤ 9223372036854775808) : (dI u).length ≤ 21 := by
  unfold dI
  rw [List.length_map]
  by_cases e : u = 9223372036854775808
  · have := Lib.itoa_length_le (-9223372036854775808) (by omega) (by omega)
    rw [show (-9223372036854775808 : Int) = -((9223372036854775808 : Nat) : Int) from rfl, Lib.itoa_neg _ (by omega)] at this
    simp only [List.length_cons] at this
    rw [e]; omega
  · have := Lib.itoa_length_le (u : Int) (by omega) (by omega)
    rwa [Lib.itoa_nonneg] at this

/-- the text of a number -/
def fmS (n : Int) : ByteArray := ⟨(Lib.itoa n).toArray⟩
theorem fmS_pos (u : Nat) : fmS (u : Int) = strOfNums (dI u) := by
  unfold fmS dI; rw [Lib.itoa_nonneg]; exact (by
    unfold strOfNums
    congr 2
    rw [List.map_map]
    conv => lhs; rw [← List.map_id (Lib.decDigits u)]
    apply List.map_congr_left
    intro b _
    simp)
theorem fmS_neg (u : Nat) (h : 1 ≤ u) : fmS (-(u : Int)) = strOfNums (45 :: dI u) := by
  unfold fmS dI; rw [Lib.itoa_neg _ h]; exact (by
    unfold strOfNums
    congr 1
    simp only [List.map_cons, List.map_map]
    congr 2
    conv => lhs; rw [← List.map_id (Lib.decDigits u)]
    apply List.map_congr_left
    intro b _
    simp)
def FmAns (n : Int) (w : World) (e : Ending) (w' : World) : Prop := e = .returned (.string (fmS n)) ∧ Below w.heap.size w w'
theorem strCons (c : Int) (l : List Int) : strOfNums [c] ++ strOfNums l = strOfNums (c :: l) := by
  have := ByteArray.mk_append_mk ([c].map fun n => UInt8.ofNat n.toNat) (l.map fun n => UInt8.ofNat n.toNat)
  simpa [strOfNums] using this

set_option maxRecDepth 100000 in
set_option maxHeartbeats 1000000 in
theorem s_FormatInt_zero (w : World) : Calls Tryd.prog 36 #[.int .i64 0] w (FmAns 0 w) := by
  have hv := Lib.hid (show fmS 0 = ⟨#[48]⟩ from by rw [show (0 : Int) = ((0 : Nat) : Int) from rfl, fmS_pos, dI_small (by omega)]; rfl)
  go_enter Tryd.func36, Tryd.ntmps36
  go_wp2
  go_ret
  exact ⟨ret_str hv.out.symm, Below.refl _ _⟩
set_option maxRecDepth 100000 in
set_option maxHeartbeats 1000000 in
theorem s_FormatInt_pos (n : Nat) (h1 : 1 ≤ n) (hn : n ≤ 9223372036854775807) (w : World) : Calls Tryd.prog 36 #[.int .i64 n] w (FmAns n w) := by
  have hv := Lib.hid (fmS_pos n)
  have hlen := dI_len (u := n) (by omega)
  have h0 : ((n : Int) == 0) = false := by simp; omega
  have hneg : decide ((n : Int) < 0) = false := by simp
  go_enter Tryd.func36, Tryd.ntmps36
  go_wp2
  go_loopw [0, 3, 5] (fun m s _ wr => ∃ (u : Nat) (L : List Int), u ≤ n ∧ m = .int .i64 u ∧ s = .string (strOfNums L) ∧ Hid (dZ u ++ L = dI n) ∧ Below w.heap.size w wr) (fun m _ _ _ => (intOf m).toNat)
  case atStart => exact ⟨n, [], Nat.le_refl _, rfl, rfl, by (show dZ n ++ [] = dI n); unfold dZ; rw [if_neg (by omega), List.append_nil], Below.refl _ _⟩
  case round =>
    obtain ⟨u, L, hu, rfl, rfl, hd, hbel⟩ := hrel
    have hL : L.length ≤ 21 := by have := congrArg List.length hd.out; rw [List.length_append] at this; omega
    by_cases hz : u = 0
    · subst hz
      have he := hd.out
      rw [dZ_zero, List.nil_append] at he
      have HE := Lib.hid he
      clear he
      go_wp2
      go_ret
      exact ⟨ret_str (by rw [hv.out, HE.out]), hbel⟩
    · have hst := Lib.hid (dZ_step hz)
      obtain ⟨x, hx⟩ : ∃ x, u % 10 = x := ⟨_, rfl⟩
      obtain ⟨y, hy⟩ : ∃ y, u / 10 = y := ⟨_, rfl⟩
      have hx10 : x < 10 := by omega
      have hyu : y < u := by omega
      have hm : (u : Int) % 10 = (x : Int) := by omega
      have hq : (u : Int) / 10 = (y : Int) := by omega
      rw [hx, hy] at hst
      have hcv : ∀ (c : Int), (convert 75 9 (.slice (some ⟨wr.heap.size, 0, none⟩) 1 1)).run Tryd.prog (wr.alloc (.cells #[.int .u8 c] 5)) = .ok (.string (strOfNums [c])) (wr.alloc (.cells #[.int .u8 c] 5)) := fun c =>
        text_of_bytes (B := 0) (l := [c]) (World.ownsRow_lit wr #[.int .u8 c] 1 (Nat.zero_le _) (by decide) rfl)
      have had : ∀ (c : Int) (wx : World), (Op.stringOp .add (strOfNums [c]) (strOfNums L)).run Tryd.prog wx = .ok (.string (strOfNums (c :: L))) wx := fun c wx => by
        rw [run_string_add_sum _ _ _ (by rw [strOfNums_size, strOfNums_size]; simp; omega), strCons]
      have hz0 : ((u : Int) != 0) = true := by simp; omega
      have HD : Hid (dZ y ++ ((48 + (x : Int)) :: L) = dI n) := by
        have h := hd.out
        rw [hst.out, List.append_assoc] at h
        exact h
      clear hx hy
      go_wp2
      go_roundw
      case rel => exact ⟨y, _, by omega, rfl, rfl, HD, hbel.alloc hbel.size _⟩
      case measure => simp [intOf]; omega

set_option maxRecDepth 100000 in
set_option maxHeartbeats 2000000 in
theorem s_FormatInt_neg (n : Nat) (h1 : 1 ≤ n) (hn : n ≤ 9223372036854775808) (w : World) : Calls Tryd.prog 36 #[.int .i64 (-(n : Int))] w (FmAns (-(n : Int)) w) := by
  have hv := Lib.hid (fmS_neg n h1)
  have hlen := dI_len (u := n) (by omega)
  have h0 : (-(n : Int) == 0) = false := by simp; omega
  have hneg : decide (-(n : Int) < 0) = true := by simp; omega
  go_enter Tryd.func36, Tryd.ntmps36
  go_wp2
  go_loopw [0, 3, 5] (fun m s _ wr => ∃ (u : Nat) (L : List Int), u ≤ n ∧ m = .int .i64 (-(u : Int)) ∧ s = .string (strOfNums L) ∧ Hid (dZ u ++ L = dI n) ∧ Below w.heap.size w wr) (fun m _ _ _ => (-(intOf m)).toNat)
  case atStart => exact ⟨n, [], Nat.le_refl _, rfl, rfl, by (show dZ n ++ [] = dI n); unfold dZ; rw [if_neg (by omega), List.append_nil], Below.refl _ _⟩
  case round =>
    obtain ⟨u, L, hu, rfl, rfl, hd, hbel⟩ := hrel
    have hL : L.length ≤ 21 := by have := congrArg List.length hd.out; rw [List.length_append] at this; omega
    by_cases hz : u = 0
    · subst hz
      have he := hd.out
      rw [dZ_zero, List.nil_append] at he
      have HE := Lib.hid he
      clear he
      have had : ∀ (wx : World), (Op.stringOp .add ⟨#[45]⟩ (strOfNums L)).run Tryd.prog wx = .ok (.string (strOfNums (45 :: L))) wx := fun wx => by
        rw [show (⟨#[45]⟩ : ByteArray) = strOfNums [45] from rfl, run_string_add_sum _ _ _ (by rw [strOfNums_size, strOfNums_size]; simp; omega), strCons]
      go_wp2
      go_ret
      exact ⟨ret_str (by rw [hv.out, HE.out]), hbel⟩
    · have hst := Lib.hid (dZ_step hz)
      obtain ⟨x, hx⟩ : ∃ x, u % 10 = x := ⟨_, rfl⟩
      obtain ⟨y, hy⟩ : ∃ y, u / 10 = y := ⟨_, rfl⟩
      have hx10 : x < 10 := by omega
      have hyu : y < u := by omega
      have hm : (-(u : Int)).tmod 10 = -(x : Int) := by rw [Int.neg_tmod, Int.tmod_eq_emod_of_nonneg (by omega)]; omega
      have hq : (-(u : Int)).tdiv 10 = -(y : Int) := by rw [Int.neg_tdiv, Int.tdiv_eq_ediv_of_nonneg (by omega)]; omega
      rw [hx, hy] at hst
      have hcv : ∀ (c : Int), (convert 75 9 (.slice (some ⟨wr.heap.size, 0, none⟩) 1 1)).run Tryd.prog (wr.alloc (.cells #[.int .u8 c] 5)) = .ok (.string (strOfNums [c])) (wr.alloc (.cells #[.int .u8 c] 5)) := fun c =>
        text_of_bytes (B := 0) (l := [c]) (World.ownsRow_lit wr #[.int .u8 c] 1 (Nat.zero_le _) (by decide) rfl)
      have had : ∀ (c : Int) (wx : World), (Op.stringOp .add (strOfNums [c]) (strOfNums L)).run Tryd.prog wx = .ok (.string (strOfNums (c :: L))) wx := fun c wx => by
        rw [run_string_add_sum _ _ _ (by rw [strOfNums_size, strOfNums_size]; simp; omega), strCons]
      have hz0 : (-(u : Int) != 0) = true := by simp; omega
      have HD : Hid (dZ y ++ ((48 + (x : Int)) :: L) = dI n) := by
        have h := hd.out
        rw [hst.out, List.append_assoc] at h
        exact h
      clear hx hy
      by_cases hx0 : x = 0
      · subst hx0
        go_wp2
        go_roundw
        case rel => exact ⟨y, _, by omega, rfl, rfl, HD, hbel.alloc hbel.size _⟩
        case measure => simp [intOf]; omega
      · have hxn : decide (-(x : Int) < 0) = true := by simp; omega
        go_wp2
        go_roundw
        case rel => exact ⟨y, _, by omega, rfl, rfl, HD, hbel.alloc hbel.size _⟩
        case measure => simp [intOf]; omega

theorem s_FormatInt (n : Int) (h0 : -9223372036854775808 ≤ n) (h1 : n ≤ 9223372036854775807) (w : World) : Calls Tryd.prog 36 #[.int .i64 n] w (FmAns n w) := by
  by_cases hn : n < 0
  · obtain ⟨u, rfl⟩ : ∃ u : Nat, n = -(u : Int) := ⟨n.natAbs, by omega⟩
    exact s_FormatInt_neg u (by omega) (by omega) w
  · obtain ⟨u, rfl⟩ : ∃ u : Nat, n = (u : Int) := ⟨n.toNat, by omega⟩
    by_cases hz : u = 0
    · subst hz; exact s_FormatInt_zero w
    · exact s_FormatInt_pos u (by omega) (by omega) w

abbrev PowTab (w : World) : Prop := Lib.TabIs Tryd.prog w "internal/strconv.uint64pow10" .u64 Lib.pow10Tab
theorem PowTab.below {w w' : World} (h : PowTab w) (b : Below w.heap.size w w') : PowTab w' := Lib.tabBelow_of_tabIs h w' b

set_option maxRecDepth 100000 in
set_option maxHeartbeats 400000 in
theorem i_FormatInt (n : Int) (h0 : -9223372036854775808 ≤ n) (h1 : n ≤ 9223372036854775807) (w : World) (ht : PowTab w) : Calls Tryd.prog 39 #[.int .i64 n] w (FmAns n w) := by
  have hc := Tryd.strconv_Itoa n h0 h1 w ht
  clear ht
  go_enter Tryd.func39, Tryd.ntmps39
  go_wp2_with fail
  refine hc.mono ?_; rintro e w' ⟨rfl, k, os, rfl⟩
  have hb := Lib.hid (Lib.below_grow w.heap.size w (Nat.le_refl _) k os)
  obtain ⟨w2, hw2⟩ : ∃ w2, w2 = Sort.grow (w.drewN k) os := ⟨_, rfl⟩
  rw [← hw2] at hb ⊢
  clear hw2
  go_wp2
  go_ret
  exact ⟨rfl, hb.out⟩


end Go.Proofs.YtdmjikfjmimfmaaDoor
