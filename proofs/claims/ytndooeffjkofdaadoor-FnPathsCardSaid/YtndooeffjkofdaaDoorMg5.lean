/- Fixed numbers: DecodeFixed, of the program and of the reference. Hexadecimal texts: the reference's digit and its EncodeHex; the program's EncodeHex; both give one text. FormatInt: the plain law of decimal numerals, the walks of the program and of the reference, the law. FormatPath: the plain law: the text of a path. FormatQuiver: the plain law: the text of a quiver. ParseQuiver: the plain law: a text is read back by places (the program) and by pieces (the reference). A quiver under way: a local struct whose two rows grow. A slice of texts that the call owns; l6Cut of the reference: its walk. digits: a text out of numbers below 10, of the program. -/
import Derived.Test.YtndooeffjkofdaaDoorMg1
import Derived.Test.YtndooeffjkofdaaDoorShelf
import Derived.Lib.HexFns2
import Derived.Lib.ConvBytes
import Derived.Deep.RegionHeld3
import Derived.Deep.AppendLies
import Derived.IntWalk
import Derived.Lib.ItoaMem
import Derived.Lib.AppendIntMem
import Derived.Lib.ItoaLen
import Derived.Lib.Atoi
import Derived.Lib.AtoiTie
import Derived.Test.YtndooeffjkofdaaDoorIsPath
import Derived.Test.YtndooeffjkofdaaDoorMg3
import Derived.Test.YtndooeffjkofdaaDoorMg2
namespace Go.Proofs.YtndooeffjkofdaaDoor
open Go.RowKit
set_option linter.unusedVariables false
set_option linter.unusedSimpArgs false

/-- the number that bytes are, the first one counts most -/
def beN (l : List UInt8) : Nat := l.foldl (fun a b => a * 256 + b.toNat) 0
theorem beN_snoc (l : List UInt8) (b : UInt8) : beN (l ++ [b]) = beN l * 256 + b.toNat := by simp [beN]
theorem beN_go (l : List UInt8) : ∀ acc : Nat, l.foldl (fun a b => a * 256 + b.toNat) acc < (acc + 1) * 256 ^ l.length := by
  induction l with
  | nil => intro acc; simp
  | cons b l ih =>
    intro acc
    have h := ih (acc * 256 + b.toNat)
    have hb := b.toNat_lt
    rw [List.foldl_cons, List.length_cons, Nat.pow_succ]
    refine Nat.lt_of_lt_of_le h ?_
    rw [Nat.mul_comm (256 ^ l.length) 256, ← Nat.mul_assoc]
    exact Nat.mul_le_mul_right _ (by omega)
theorem beN_lt (l : List UInt8) : beN l < 256 ^ l.length := by
  have := beN_go l 0; simpa [beN] using this
theorem beN_take (l : List UInt8) {k : Nat} (h : k ≤ 6) : beN (l.take k) < 281474976710656 := by
  have h1 := beN_lt (l.take k)
  have h2 := Nat.pow_le_pow_right (n := 256) (by omega) (show (l.take k).length ≤ 6 by have := List.length_take_le k l; omega)
  exact Nat.lt_of_lt_of_le h1 h2
theorem take_snoc (s : ByteArray) (k : Nat) (h : k < s.size) : s.data.toList.take (k + 1) = s.data.toList.take k ++ [s[k]] := by
  rw [List.take_succ_eq_append_getElem (by simpa using h)]; rfl

theorem beN_step (s : ByteArray) (k : Nat) (h : k < s.size) : (beN (s.data.toList.take k) : Int) * 256 + s[k].toNat = (beN (s.data.toList.take (k + 1)) : Int) := by
  rw [take_snoc s k h, beN_snoc]; simp

theorem or_byte (n : Nat) (b : UInt8) : (n * 256) ||| b.toNat = n * 256 + b.toNat := by
  have h := Nat.two_pow_add_eq_or_of_lt (i := 8) (b := b.toNat) b.toNat_lt n
  rw [Nat.mul_comm]; simpa using h.symm

theorem beN_or (s : ByteArray) (k : Nat) (h : k < s.size) (hb : beN (s.data.toList.take k) < 281474976710656) :
    bits BinOp.or IntKind.i64 ((beN (s.data.toList.take k) : Int) * 256) (s[k].toNat : Int) = (beN (s.data.toList.take (k + 1)) : Int) := by
  rw [← beN_step s k h]
  have e : ((beN (s.data.toList.take k) : Int) * 256) = ((beN (s.data.toList.take k) * 256 : Nat) : Int) := by simp
  have := s[k].toNat_lt
  rw [e, i64_or_nat _ _ (by omega) (by omega), or_byte]
  simp

/-- what DecodeFixed answers where the width is taken and the string is long enough -/
def DecAns (s : ByteArray) (width : Nat) (w : World) (e : Ending) (w' : World) : Prop :=
  e = .returned (.tuple #[.int .i64 (beN (s.data.toList.take width)), .bool true]) ∧ w = w'

/-- what DecodeFixed answers where it takes nothing -/
def DecNo (w : World) (e : Ending) (w' : World) : Prop := e = .returned (.tuple #[.int .i64 0, .bool false]) ∧ w = w'


end Go.Proofs.YtndooeffjkofdaaDoor

namespace Go.Proofs.YtndooeffjkofdaaDoor
open Go.RowKit
set_option linter.unusedVariables false
set_option linter.unusedSimpArgs false

/-- the digit of a number below 16, as a number -/
def hxD (k : Nat) : Int := ((Lib.Hx.digit k).toNat : Int)
theorem hxTab : ∀ j : Fin 16, (Lib.Hx.tab.data.toList.getD j.val 0) = Lib.Hx.digit j.val := by decide +kernel
/-- the digits of a text's bytes -/
def hxL (s : ByteArray) (k : Nat) : List Int := (Lib.Hx.encode (s.data.toList.take k)).map fun b => (b.toNat : Int)
theorem hxL_succ (s : ByteArray) (k : Nat) (h : k < s.size) : hxL s k ++ [hxD (s[k].toNat / 16), hxD (s[k].toNat % 16)] = hxL s (k + 1) := by
  unfold hxL hxD
  rw [take_snoc s k h]
  simp [Lib.Hx.encode, List.flatMap_append]
theorem hxL_len (s : ByteArray) (k : Nat) (h : k ≤ s.size) : (hxL s k).length = 2 * k := by
  unfold hxL
  rw [List.length_map, Lib.Hx.encode_length, List.length_take, Nat.min_eq_left (by have : s.data.toList.length = s.size := rfl; omega)]
/-- the text of hexadecimal digits -/
def hxS (s : ByteArray) : ByteArray := ⟨(Lib.Hx.encode s.data.toList).toArray⟩
theorem hxS_of (s : ByteArray) : strOfNums (hxL s s.size) = hxS s := by
  unfold hxS hxL
  rw [List.take_of_length_le (by have : s.data.toList.length = s.size := rfl; omega)]
  exact Lib.Hx.strOfNums_nums _
def HexAns (s : ByteArray) (w : World) (e : Ending) (w' : World) : Prop := e = .returned (.string (hxS s)) ∧ Below w.heap.size w w'

theorem step_app_byte2 {ops : Array Oper} {o : Oper} {a : Act} {K : Act → World → Prop} {Q : Exit → Act → World → Prop} {E : Prop} {c d : Int} (w0 w : World) (hgd : o.guard = none) (s x : Operand)
    (ho : o.op = .call { callee := .builtin .append, args := #[s, x], argTypes := #[22, 22] }) (B : Nat) (v : Value) (l : List Int)
    (hs : a.eval s = v) (hx : a.eval x = .slice (some ⟨w.heap.size, 0, none⟩) 2 2) (hown : Own w B 5 .u8 v l) (hbel : Below B w0 w) (hB : B ≤ w.heap.size) (hl : l.length + 2 ≤ 17592186044416)
    (hK : ∀ v' w', Own w' B 5 .u8 v' (l ++ [c, d]) → Below B w0 w' → B ≤ w'.heap.size → K (a.put o.dst v') w') :
    if Region.wanted o (yielded ops a.tmps) = true then Oper.wp Tryd.prog o a (w.alloc (.cells #[.int .u8 c, .int .u8 d] 5)).drew K Q else E := by
  obtain ⟨i, hi, h0, h1, h2⟩ := info_parts infoByte
  refine step_append_lies _ hgd s x 22 ho B 5 i (.int .u8 0) 1 1 Tryd.underlying22 hi h0 h1 h2 rfl (by decide) v l.length (l.map (Value.int .u8)) hs ((World.ownsRow.alloc hown _).drew)
    ⟨w.heap.size, 0, none⟩ 2 2 [.int .u8 c, .int .u8 d] hx rfl (news_cells w _ [.int .u8 c, .int .u8 d]) (ints_oneCell .u8 [c, d]) (by decide) (by unfold maxLen; omega) (by omega) (by simp; omega) _ rfl ?_
  intro g cap w' ho' hg _ _
  have hb : Below B w0 w' := ((hbel.alloc hB _).drew).grown hg (by simp; omega) (fun k hk => (World.ownsRow.lt hown k hk).1)
  refine hK _ w' ?_ hb ?_
  · unfold Own; simpa using ho'
  · have := hg.size; simp at this; omega


end Go.Proofs.YtndooeffjkofdaaDoor

namespace Go.Proofs.YtndooeffjkofdaaDoor
open Go.RowKit
set_option linter.unusedVariables false
set_option linter.unusedSimpArgs false

/-- the digits of a number, as numbers -/
def dI (u : Nat) : List Int := (Lib.decDigits u).map fun b => (b.toNat : Int)
theorem dI_small {u : Nat} (h : u < 10) : dI u = [48 + (u : Int)] := by
  unfold dI; rw [Lib.decDigits, dif_pos h]; simp; omega
theorem dI_big {u : Nat} (h : ¬ u < 10) : dI u = dI (u / 10) ++ [48 + ((u % 10 : Nat) : Int)] := by
  unfold dI; rw [Lib.decDigits, dif_neg h]; simp; omega
/-- none at 0 -/
def dZ (u : Nat) : List Int := if u = 0 then [] else dI u
theorem dZ_zero : dZ 0 = [] := rfl
theorem dZ_step {u : Nat} (h : u ≠ 0) : dZ u = dZ (u / 10) ++ [48 + ((u % 10 : Nat) : Int)] := by
  unfold dZ
  rw [if_neg h]
  by_cases h10 : u < 10
  · rw [dI_small h10, if_pos (by omega), show u % 10 = u by omega]; rfl
  · rw [dI_big h10, if_neg (by omega)]
theorem dI_len {u : Nat} (h : u ≤ 9223372036854775808) : (dI u).length ≤ 21 := by
  unfold dI
  rw [List.length_map]
  by_cases e : u = 9223372036854775808
  · have := Lib.itoa_length_le (-9223372036854775808) (by omega) (by omega)
    rw [show (-9223372036854775808 : Int) = -((9223372036854775808 : Nat) : Int) from rfl, Lib.itoa_neg _ (by omega)] at this
    simp only [List.length_cons] at this
    rw [e]; omega
  · have := Lib.itoa_length_le (u : Int) (by omega) (by omega)
    rwa [Lib.itoa_nonneg] at this

/-- the text of a number -/
def fmS (n : Int) : ByteArray := ⟨(Lib.itoa n).toArray⟩
theorem fmS_pos (u : Nat) : fmS (u : Int) = strOfNums (dI u) := by
  unfold fmS dI; rw [Lib.itoa_nonneg]; exact (by
    unfold strOfNums
    congr 2
    rw [List.map_map]
    conv => lhs; rw [← List.map_id (Lib.decDigits u)]
    apply List.map_congr_left
    intro b _
    simp)
theorem fmS_neg (u : Nat) (h : 1 ≤ u) : fmS (-(u : Int)) = strOfNums (45 :: dI u) := by
  unfold fmS dI; rw [Lib.itoa_neg _ h]; exact (by
    unfold strOfNums
    congr 1
    simp only [List.map_cons, List.map_map]
    congr 2
    conv => lhs; rw [← List.map_id (Lib.decDigits u)]
    apply List.map_congr_left
    intro b _
    simp)
def FmAns (n : Int) (w : World) (e : Ending) (w' : World) : Prop := e = .returned (.string (fmS n)) ∧ Below w.heap.size w w'
theorem strCons (c : Int) (l : List Int) : strOfNums [c] ++ strOfNums l = strOfNums (c :: l) := by
  have := ByteArray.mk_append_mk ([c].map fun n => UInt8.ofNat n.toNat) (l.map fun n => UInt8.ofNat n.toNat)
  simpa [strOfNums] using this

set_option maxRecDepth 100000 in
set_option maxHeartbeats 1000000 in
theorem s_FormatInt_zero (w : World) : Calls Tryd.prog 48 #[.int .i64 0] w (FmAns 0 w) := by
  have hv := Lib.hid (show fmS 0 = ⟨#[48]⟩ from by rw [show (0 : Int) = ((0 : Nat) : Int) from rfl, fmS_pos, dI_small (by omega)]; rfl)
  go_enter Tryd.func48, Tryd.ntmps48
  go_wp2
  go_ret
  exact ⟨ret_str hv.out.symm, Below.refl _ _⟩
set_option maxRecDepth 100000 in
set_option maxHeartbeats 1000000 in
theorem s_FormatInt_pos (n : Nat) (h1 : 1 ≤ n) (hn : n ≤ 9223372036854775807) (w : World) : Calls Tryd.prog 48 #[.int .i64 n] w (FmAns n w) := by
  have hv := Lib.hid (fmS_pos n)
  have hlen := dI_len (u := n) (by omega)
  have h0 : ((n : Int) == 0) = false := by simp; omega
  have hneg : decide ((n : Int) < 0) = false := by simp
  go_enter Tryd.func48, Tryd.ntmps48
  go_wp2
  go_loopw [0, 3, 5] (fun m s _ wr => ∃ (u : Nat) (L : List Int), u ≤ n ∧ m = .int .i64 u ∧ s = .string (strOfNums L) ∧ Hid (dZ u ++ L = dI n) ∧ Below w.heap.size w wr) (fun m _ _ _ => (intOf m).toNat)
  case atStart => exact ⟨n, [], Nat.le_refl _, rfl, rfl, by (show dZ n ++ [] = dI n); unfold dZ; rw [if_neg (by omega), List.append_nil], Below.refl _ _⟩
  case round =>
    obtain ⟨u, L, hu, rfl, rfl, hd, hbel⟩ := hrel
    have hL : L.length ≤ 21 := by have := congrArg List.length hd.out; rw [List.length_append] at this; omega
    by_cases hz : u = 0
    · subst hz
      have he := hd.out
      rw [dZ_zero, List.nil_append] at he
      have HE := Lib.hid he
      clear he
      go_wp2
      go_ret
      exact ⟨ret_str (by rw [hv.out, HE.out]), hbel⟩
    · have hst := Lib.hid (dZ_step hz)
      obtain ⟨x, hx⟩ : ∃ x, u % 10 = x := ⟨_, rfl⟩
      obtain ⟨y, hy⟩ : ∃ y, u / 10 = y := ⟨_, rfl⟩
      have hx10 : x < 10 := by omega
      have hyu : y < u := by omega
      have hm : (u : Int) % 10 = (x : Int) := by omega
      have hq : (u : Int) / 10 = (y : Int) := by omega
      rw [hx, hy] at hst
      have hcv : ∀ (c : Int), (convert 22 9 (.slice (some ⟨wr.heap.size, 0, none⟩) 1 1)).run Tryd.prog (wr.alloc (.cells #[.int .u8 c] 5)) = .ok (.string (strOfNums [c])) (wr.alloc (.cells #[.int .u8 c] 5)) := fun c =>
        text_of_bytes (B := 0) (l := [c]) (World.ownsRow_lit wr #[.int .u8 c] 1 (Nat.zero_le _) (by decide) rfl)
      have had : ∀ (c : Int) (wx : World), (Op.stringOp .add (strOfNums [c]) (strOfNums L)).run Tryd.prog wx = .ok (.string (strOfNums (c :: L))) wx := fun c wx => by
        rw [run_string_add_sum _ _ _ (by rw [strOfNums_size, strOfNums_size]; simp; omega), strCons]
      have hz0 : ((u : Int) != 0) = true := by simp; omega
      have HD : Hid (dZ y ++ ((48 + (x : Int)) :: L) = dI n) := by
        have h := hd.out
        rw [hst.out, List.append_assoc] at h
        exact h
      clear hx hy
      go_wp2
      go_roundw
      case rel => exact ⟨y, _, by omega, rfl, rfl, HD, hbel.alloc hbel.size _⟩
      case measure => simp [intOf]; omega

set_option maxRecDepth 100000 in
set_option maxHeartbeats 2000000 in
theorem s_FormatInt_neg (n : Nat) (h1 : 1 ≤ n) (hn : n ≤ 9223372036854775808) (w : World) : Calls Tryd.prog 48 #[.int .i64 (-(n : Int))] w (FmAns (-(n : Int)) w) := by
  have hv := Lib.hid (fmS_neg n h1)
  have hlen := dI_len (u := n) (by omega)
  have h0 : (-(n : Int) == 0) = false := by simp; omega
  have hneg : decide (-(n : Int) < 0) = true := by simp; omega
  go_enter Tryd.func48, Tryd.ntmps48
  go_wp2
  go_loopw [0, 3, 5] (fun m s _ wr => ∃ (u : Nat) (L : List Int), u ≤ n ∧ m = .int .i64 (-(u : Int)) ∧ s = .string (strOfNums L) ∧ Hid (dZ u ++ L = dI n) ∧ Below w.heap.size w wr) (fun m _ _ _ => (-(intOf m)).toNat)
  case atStart => exact ⟨n, [], Nat.le_refl _, rfl, rfl, by (show dZ n ++ [] = dI n); unfold dZ; rw [if_neg (by omega), List.append_nil], Below.refl _ _⟩
  case round =>
    obtain ⟨u, L, hu, rfl, rfl, hd, hbel⟩ := hrel
    have hL : L.length ≤ 21 := by have := congrArg List.length hd.out; rw [List.length_append] at this; omega
    by_cases hz : u = 0
    · subst hz
      have he := hd.out
      rw [dZ_zero, List.nil_append] at he
      have HE := Lib.hid he
      clear he
      have had : ∀ (wx : World), (Op.stringOp .add ⟨#[45]⟩ (strOfNums L)).run Tryd.prog wx = .ok (.string (strOfNums (45 :: L))) wx := fun wx => by
        rw [show (⟨#[45]⟩ : ByteArray) = strOfNums [45] from rfl, run_string_add_sum _ _ _ (by rw [strOfNums_size, strOfNums_size]; simp; omega), strCons]
      go_wp2
      go_ret
      exact ⟨ret_str (by rw [hv.out, HE.out]), hbel⟩
    · have hst := Lib.hid (dZ_step hz)
      obtain ⟨x, hx⟩ : ∃ x, u % 10 = x := ⟨_, rfl⟩
      obtain ⟨y, hy⟩ : ∃ y, u / 10 = y := ⟨_, rfl⟩
      have hx10 : x < 10 := by omega
      have hyu : y < u := by omega
      have hm : (-(u : Int)).tmod 10 = -(x : Int) := by rw [Int.neg_tmod, Int.tmod_eq_emod_of_nonneg (by omega)]; omega
      have hq : (-(u : Int)).tdiv 10 = -(y : Int) := by rw [Int.neg_tdiv, Int.tdiv_eq_ediv_of_nonneg (by omega)]; omega
      rw [hx, hy] at hst
      have hcv : ∀ (c : Int), (convert 22 9 (.slice (some ⟨wr.heap.size, 0, none⟩) 1 1)).run Tryd.prog (wr.alloc (.cells #[.int .u8 c] 5)) = .ok (.string (strOfNums [c])) (wr.alloc (.cells #[.int .u8 c] 5)) := fun c =>
        text_of_bytes (B := 0) (l := [c]) (World.ownsRow_lit wr #[.int .u8 c] 1 (Nat.zero_le _) (by decide) rfl)
      have had : ∀ (c : Int) (wx : World), (Op.stringOp .add (strOfNums [c]) (strOfNums L)).run Tryd.prog wx = .ok (.string (strOfNums (c :: L))) wx := fun c wx => by
        rw [run_string_add_sum _ _ _ (by rw [strOfNums_size, strOfNums_size]; simp; omega), strCons]
      have hz0 : (-(u : Int) != 0) = true := by simp; omega
      have HD : Hid (dZ y ++ ((48 + (x : Int)) :: L) = dI n) := by
        have h := hd.out
        rw [hst.out, List.append_assoc] at h
        exact h
      clear hx hy
      by_cases hx0 : x = 0
      · subst hx0
        go_wp2
        go_roundw
        case rel => exact ⟨y, _, by omega, rfl, rfl, HD, hbel.alloc hbel.size _⟩
        case measure => simp [intOf]; omega
      · have hxn : decide (-(x : Int) < 0) = true := by simp; omega
        go_wp2
        go_roundw
        case rel => exact ⟨y, _, by omega, rfl, rfl, HD, hbel.alloc hbel.size _⟩
        case measure => simp [intOf]; omega

theorem s_FormatInt (n : Int) (h0 : -9223372036854775808 ≤ n) (h1 : n ≤ 9223372036854775807) (w : World) : Calls Tryd.prog 48 #[.int .i64 n] w (FmAns n w) := by
  by_cases hn : n < 0
  · obtain ⟨u, rfl⟩ : ∃ u : Nat, n = -(u : Int) := ⟨n.natAbs, by omega⟩
    exact s_FormatInt_neg u (by omega) (by omega) w
  · obtain ⟨u, rfl⟩ : ∃ u : Nat, n = (u : Int) := ⟨n.toNat, by omega⟩
    by_cases hz : u = 0
    · subst hz; exact s_FormatInt_zero w
    · exact s_FormatInt_pos u (by omega) (by omega) w

abbrev PowTab (w : World) : Prop := Lib.TabIs Tryd.prog w "internal/strconv.uint64pow10" .u64 Lib.pow10Tab
theorem PowTab.below {w w' : World} (h : PowTab w) (b : Below w.heap.size w w') : PowTab w' := Lib.tabBelow_of_tabIs h w' b

set_option maxRecDepth 100000 in
set_option maxHeartbeats 400000 in
theorem i_FormatInt (n : Int) (h0 : -9223372036854775808 ≤ n) (h1 : n ≤ 9223372036854775807) (w : World) (ht : PowTab w) : Calls Tryd.prog 47 #[.int .i64 n] w (FmAns n w) := by
  have hc := Tryd.strconv_Itoa n h0 h1 w ht
  clear ht
  go_enter Tryd.func47, Tryd.ntmps47
  go_wp2_with fail
  refine hc.mono ?_; rintro e w' ⟨rfl, k, os, rfl⟩
  have hb := Lib.hid (Lib.below_grow w.heap.size w (Nat.le_refl _) k os)
  obtain ⟨w2, hw2⟩ : ∃ w2, w2 = Sort.grow (w.drewN k) os := ⟨_, rfl⟩
  rw [← hw2] at hb ⊢
  clear hw2
  go_wp2
  go_ret
  exact ⟨rfl, hb.out⟩


end Go.Proofs.YtndooeffjkofdaaDoor

namespace Go.Proofs.YtndooeffjkofdaaDoor
open Go.RowKit
set_option linter.unusedVariables false
set_option linter.unusedSimpArgs false

/-- the text of one arrow -/
def fpP (t l : List Int) (i : Nat) : ByteArray := ⟨#[45]⟩ ++ fmS (l.getD i 0) ++ ⟨#[62]⟩ ++ fmS (t.getD (l.getD i 0).toNat 0)
/-- the text of the first i arrows, behind the start -/
def fpS (t : List Int) (s : Int) (l : List Int) : Nat → ByteArray
  | 0 => fmS s
  | i + 1 => fpS t s l i ++ fpP t l i
def foP (n : Int) (f t : List Int) (s : Int) (l : List Int) : ByteArray := if isP n f t s l = true then fpS t s l l.length else ⟨#[]⟩
theorem foP_no {n : Int} {f t : List Int} {s : Int} {l : List Int} (h : isP n f t s l = false) : foP n f t s l = ⟨#[]⟩ := by simp [foP, h]
theorem foP_ok {n : Int} {f t : List Int} {s : Int} {l : List Int} (h : isP n f t s l = true) : foP n f t s l = fpS t s l l.length := if_pos h
theorem fmS_sz {d : Int} (h0 : -9223372036854775808 ≤ d) (h1 : d ≤ 9223372036854775807) : (fmS d).size ≤ 21 := by
  have := Lib.itoa_length_le d h0 h1
  have e : (fmS d).size = (Lib.itoa d).length := by unfold fmS; simp [ByteArray.size]
  omega
theorem fp_parts {n : Int} {f t : List Int} {s : Int} {l : List Int} (h : isP n f t s l = true) :
    f.length = t.length ∧ l.length ≤ 20 ∧ (0 ≤ s ∧ s ≤ 4) ∧ (∀ k, k < l.length → 0 ≤ l.getD k 0 ∧ l.getD k 0 < t.length) ∧ ∀ j, j < t.length → 0 ≤ t.getD j 0 ∧ t.getD j 0 ≤ 4 := by
  obtain ⟨hQ, hl, hk⟩ := isP_parts h
  obtain ⟨⟨n1, n5⟩, hlen, _⟩ := isQ_parts hQ
  have hs : inR s 0 (n - 1) = true := by
    unfold isP at h
    simp only [Bool.and_eq_true] at h
    exact h.1.1.2
  obtain ⟨s0, s1⟩ := inR_true hs
  refine ⟨hlen, hl, ⟨s0, by omega⟩, fun k hk' => ?_, fun j hj => ?_⟩
  · have := hk k hk'
    unfold okP at this
    simp only [Bool.and_eq_true] at this
    obtain ⟨a, b⟩ := inR_true this.1
    omega
  · have ht : allR t 0 (n - 1) = true := by
      unfold isQ at hQ
      simp only [Bool.and_eq_true] at hQ
      exact hQ.2
    unfold allR at ht
    rw [List.all_eq_true] at ht
    obtain ⟨a, b⟩ := inR_true (ht (t.getD j 0) (by simp [List.getD, hj]))
    omega
theorem fpS_sz {n : Int} {f t : List Int} {s : Int} {l : List Int} (h : isP n f t s l = true) : ∀ i, i ≤ l.length → (fpS t s l i).size ≤ 21 + 44 * i := by
  obtain ⟨h1, h2, ⟨h3, h3'⟩, h4, h5⟩ := fp_parts h
  have h6 : t.length ≤ 6 := by have := (isQ_parts (isP_parts h).1).2.2; omega
  intro i
  induction i with
  | zero => intro _; simp only [fpS]; have := fmS_sz (d := s) (by omega) (by omega); omega
  | succ i ih =>
    intro hi
    obtain ⟨a0, a1⟩ := h4 i (by omega)
    obtain ⟨b0, b1⟩ := h5 (l.getD i 0).toNat (by omega)
    have x1 := fmS_sz (d := l.getD i 0) (by omega) (by omega)
    have x2 := fmS_sz (d := t.getD (l.getD i 0).toNat 0) (by omega) (by omega)
    have := ih (by omega)
    have e1 : (⟨#[45]⟩ : ByteArray).size = 1 := rfl
    have e2 : (⟨#[62]⟩ : ByteArray).size = 1 := rfl
    simp only [fpS, fpP, ByteArray.size_append]
    omega
end Go.Proofs.YtndooeffjkofdaaDoor

namespace Go.Proofs.YtndooeffjkofdaaDoor
open Go.RowKit
set_option linter.unusedVariables false
set_option linter.unusedSimpArgs false

/-- the text of one arrow -/
def fqP (f t : List Int) (i : Nat) : ByteArray := ⟨#[32]⟩ ++ (fmS (f.getD i 0) ++ fmS (t.getD i 0))
/-- the text of the first i arrows, behind the number of vertices -/
def fqS (n : Int) (f t : List Int) : Nat → ByteArray
  | 0 => fmS n ++ ⟨#[58]⟩
  | i + 1 => fqS n f t i ++ fqP f t i
def foQ (n : Int) (f t : List Int) : ByteArray := if isQ n f t = true then fqS n f t f.length else ⟨#[]⟩
theorem foQ_no {n : Int} {f t : List Int} (h : isQ n f t = false) : foQ n f t = ⟨#[]⟩ := by simp [foQ, h]
theorem foQ_ok {n : Int} {f t : List Int} (h : isQ n f t = true) : foQ n f t = fqS n f t f.length := if_pos h
theorem fm_dig {a : Int} (h0 : 0 ≤ a) (h9 : a ≤ 9) : fmS a = strOfNums [48 + a] := by
  obtain ⟨u, rfl⟩ := Int.eq_ofNat_of_zero_le h0
  rw [fmS_pos, dI_small (by omega)]
theorem fm_two {a b : Int} (h0 : 0 ≤ a) (h9 : a ≤ 9) (g0 : 0 ≤ b) (g9 : b ≤ 9) : strOfNums [48 + a, 48 + b] = fmS a ++ fmS b := by
  rw [fm_dig h0 h9, fm_dig g0 g9, strCons]
theorem fq_parts {n : Int} {f t : List Int} (h : isQ n f t = true) :
    f.length = t.length ∧ f.length ≤ 6 ∧ (1 ≤ n ∧ n ≤ 5) ∧ (∀ k, k < f.length → 0 ≤ f.getD k 0 ∧ f.getD k 0 ≤ 4) ∧ ∀ j, j < t.length → 0 ≤ t.getD j 0 ∧ t.getD j 0 ≤ 4 := by
  obtain ⟨⟨n1, n5⟩, hlen, h6⟩ := isQ_parts h
  unfold isQ at h
  simp only [Bool.and_eq_true] at h
  have g : ∀ l : List Int, allR l 0 (n - 1) = true → ∀ j, j < l.length → 0 ≤ l.getD j 0 ∧ l.getD j 0 ≤ 4 := fun l hl j hj => by
    unfold allR at hl
    rw [List.all_eq_true] at hl
    obtain ⟨a, b⟩ := inR_true (hl (l.getD j 0) (by simp [List.getD, hj]))
    omega
  exact ⟨hlen, h6, ⟨n1, n5⟩, g f h.1.2, g t h.2⟩
theorem fqS_sz {n : Int} {f t : List Int} (h : isQ n f t = true) : ∀ i, i ≤ f.length → (fqS n f t i).size ≤ 22 + 43 * i := by
  obtain ⟨h1, h2, ⟨h3, h3'⟩, h4, h5⟩ := fq_parts h
  intro i
  induction i with
  | zero =>
    intro _; simp only [fqS, ByteArray.size_append]
    have := fmS_sz (d := n) (by omega) (by omega)
    have e1 : (⟨#[58]⟩ : ByteArray).size = 1 := rfl
    omega
  | succ i ih =>
    intro hi
    obtain ⟨a0, a1⟩ := h4 i (by omega)
    obtain ⟨b0, b1⟩ := h5 i (by omega)
    have x1 := fmS_sz (d := f.getD i 0) (by omega) (by omega)
    have x2 := fmS_sz (d := t.getD i 0) (by omega) (by omega)
    have := ih (by omega)
    have e1 : (⟨#[32]⟩ : ByteArray).size = 1 := rfl
    simp only [fqS, fqP, ByteArray.size_append]
    omega
end Go.Proofs.YtndooeffjkofdaaDoor

namespace Go.Proofs.YtndooeffjkofdaaDoor
open Go.RowKit
set_option linter.unusedVariables false
set_option linter.unusedSimpArgs false

theorem getD_left {α : Type} (l l' : List α) (n : Nat) (d : α) (h : n < l.length) : (l ++ l').getD n d = l.getD n d := by
  rw [List.getD_eq_getElem?_getD, List.getD_eq_getElem?_getD, List.getElem?_append_left h]
theorem getD_right {α : Type} (l l' : List α) (n : Nat) (d : α) (h : l.length ≤ n) : (l ++ l').getD n d = l'.getD (n - l.length) d := by
  rw [List.getD_eq_getElem?_getD, List.getD_eq_getElem?_getD, List.getElem?_append_right h]
/-- the byte of a digit -/
def dgB (a : Int) : UInt8 := UInt8.ofNat (48 + a).toNat
theorem dgB_nat {a : Int} (h0 : 0 ≤ a) (h9 : a ≤ 9) : (dgB a).toNat = (48 + a).toNat := by unfold dgB; rw [UInt8.toNat_ofNat']; omega
theorem dgB_sub {a : Int} (h0 : 0 ≤ a) (h9 : a ≤ 9) : ((dgB a).toNat : Int) - 48 = a := by rw [dgB_nat h0 h9]; omega
theorem dgB_ne {a : Int} (h0 : 0 ≤ a) (h9 : a ≤ 9) : dgB a ≠ 32 := fun h => by
  have := congrArg UInt8.toNat h
  rw [dgB_nat h0 h9] at this
  have e : (32 : UInt8).toNat = 32 := rfl
  omega
/-- the bytes of a quiver's text -/
def bq (n : Int) (f t : List Int) : Nat → List UInt8
  | 0 => [dgB n, 58]
  | i + 1 => bq n f t i ++ [32, dgB (f.getD i 0), dgB (t.getD i 0)]
theorem fmS_dig {a : Int} (h0 : 0 ≤ a) (h9 : a ≤ 9) : fmS a = ⟨#[dgB a]⟩ := by
  rw [fm_dig h0 h9]; rfl
theorem bq_spec {n : Int} {f t : List Int} (h : isQ n f t = true) : ∀ i, i ≤ f.length → (fqS n f t i).data.toList = bq n f t i := by
  obtain ⟨hl, h6, ⟨n1, n5⟩, hf, ht⟩ := fq_parts h
  intro i
  induction i with
  | zero => intro _; unfold fqS bq; rw [fmS_dig (by omega) (by omega)]; rfl
  | succ i ih =>
    intro hi
    have h1 := hf i (by omega)
    have h2 := ht i (by omega)
    unfold fqS bq fqP
    rw [fmS_dig (by omega) (by omega), fmS_dig (by omega) (by omega), ByteArray.data_append, Array.toList_append, ih (by omega)]
    rfl
theorem bq_len (n : Int) (f t : List Int) : ∀ i, (bq n f t i).length = 2 + 3 * i := by
  intro i; induction i with
  | zero => rfl
  | succ i ih => unfold bq; rw [List.length_append, ih]; simp; omega
theorem bq_0 (n : Int) (f t : List Int) : ∀ i, (bq n f t i).getD 0 0 = dgB n := by
  intro i; induction i with
  | zero => rfl
  | succ i ih => unfold bq; rw [getD_left _ _ _ _ (by rw [bq_len]; omega)]; exact ih
theorem bq_at (n : Int) (f t : List Int) : ∀ i k, k < i → (bq n f t i).getD (3 + 3 * k) 0 = dgB (f.getD k 0) ∧ (bq n f t i).getD (4 + 3 * k) 0 = dgB (t.getD k 0) := by
  intro i; induction i with
  | zero => intro k hk; omega
  | succ i ih =>
    intro k hk
    unfold bq
    by_cases hki : k < i
    · rw [getD_left _ _ _ _ (by rw [bq_len]; omega), getD_left _ _ _ _ (by rw [bq_len]; omega)]
      exact ih k hki
    · obtain rfl : k = i := by omega
      rw [getD_right _ _ _ _ (by rw [bq_len]; omega), getD_right _ _ _ _ (by rw [bq_len]; omega), bq_len]
      rw [show 3 + 3 * k - (2 + 3 * k) = 1 by omega, show 4 + 3 * k - (2 + 3 * k) = 2 by omega]
      exact ⟨rfl, rfl⟩

/-- a byte less '0' -/
def bN (b : List UInt8) (k : Nat) : Int := ((b.getD k 0).toNat : Int) - 48
theorem bN_rng (b : List UInt8) (k : Nat) : -48 ≤ bN b k ∧ bN b k ≤ 207 := by
  unfold bN
  have := UInt8.toNat_lt (b.getD k 0)
  omega
/-- every third byte from a place -/
def bE (b : List UInt8) (o m : Nat) : List Int := (List.range m).map fun k => bN b (o + 3 * k)
theorem bE_succ (b : List UInt8) (o m : Nat) : bE b o (m + 1) = bE b o m ++ [bN b (o + 3 * m)] := by simp [bE, List.range_succ]
theorem bE_len (b : List UInt8) (o m : Nat) : (bE b o m).length = m := by simp [bE]
/-- all that a text may say -/
def Says (b : List UInt8) (n : Int) (f t : List Int) : Prop := isQ n f t = true ∧ b = bq n f t f.length
theorem says_iff (s : ByteArray) (n : Int) (f t : List Int) : Says s.data.toList n f t ↔ isQ n f t = true ∧ foQ n f t = s := by
  constructor
  · rintro ⟨h1, h2⟩
    refine ⟨h1, ?_⟩
    rw [foQ_ok h1]
    rw [← bq_spec h1 _ (Nat.le_refl _)] at h2
    have e : s.data = (fqS n f t f.length).data := by rw [← Array.toList_inj]; exact h2
    cases s; cases hq : fqS n f t f.length; rw [hq] at e; simp at e; rw [e]
  · rintro ⟨h1, h2⟩
    refine ⟨h1, ?_⟩
    rw [foQ_ok h1] at h2
    rw [← h2, bq_spec h1 _ (Nat.le_refl _)]
theorem foQ_says {s : ByteArray} {n : Int} {f t : List Int} (hs : s ≠ ⟨#[]⟩) (h : foQ n f t = s) : Says s.data.toList n f t := by
  rw [says_iff]
  refine ⟨?_, h⟩
  cases hq : isQ n f t
  · rw [foQ_no hq] at h; exact absurd h.symm hs
  · rfl
theorem ext_range {m : Nat} {f : List Int} {g : Nat → Int} (hm : m = f.length) (h : ∀ k, k < m → g k = f.getD k 0) : (List.range m).map g = f := by
  apply List.ext_getElem (by simpa using hm)
  intro i h1 h2
  simp only [List.length_map, List.length_range] at h1
  rw [List.getElem_map, List.getElem_range, h i h1]
  simp [List.getD, h2]
/-- by places -/
theorem says_place {b : List UInt8} {n : Int} {f t : List Int} (h : Says b n f t) :
    2 ≤ b.length ∧ b.length ≤ 20 ∧ bN b 0 = n ∧ bE b 3 ((b.length - 2) / 3) = f ∧ bE b 4 ((b.length - 2) / 3) = t := by
  obtain ⟨hq, rfl⟩ := h
  obtain ⟨hl, h6, ⟨n1, n5⟩, hf, ht⟩ := fq_parts hq
  have hm : ((bq n f t f.length).length - 2) / 3 = f.length := by rw [bq_len]; omega
  refine ⟨by rw [bq_len]; omega, by rw [bq_len]; omega, ?_, ?_, ?_⟩
  · unfold bN; rw [bq_0]; exact dgB_sub (by omega) (by omega)
  · rw [hm]; unfold bE
    refine ext_range rfl fun k hk => ?_
    unfold bN; rw [(bq_at n f t _ k hk).1]; exact dgB_sub (hf k hk).1 (by have := (hf k hk).2; omega)
  · rw [hm]; unfold bE
    refine ext_range hl fun k hk => ?_
    unfold bN; rw [(bq_at n f t _ k hk).2]; exact dgB_sub (ht k (by omega)).1 (by have := (ht k (by omega)).2; omega)
theorem says_one {b : List UInt8} {n n' : Int} {f t f' t' : List Int} (h : Says b n f t) (h' : Says b n' f' t') : n = n' ∧ f = f' ∧ t = t' := by
  obtain ⟨_, _, a1, a2, a3⟩ := says_place h
  obtain ⟨_, _, b1, b2, b3⟩ := says_place h'
  exact ⟨a1 ▸ b1, a2 ▸ b2, a3 ▸ b3⟩
/-- cut at the spaces: what is cut off, and the piece under way -/
def cutStep (st : List (List UInt8) × List UInt8) (c : UInt8) : List (List UInt8) × List UInt8 := if c = 32 then (st.1 ++ [st.2], []) else (st.1, st.2 ++ [c])
def cutF (b : List UInt8) : List (List UInt8) × List UInt8 := b.foldl cutStep ([], [])
def cutL (b : List UInt8) : List (List UInt8) := (cutF b).1 ++ [(cutF b).2]
theorem cutF_succ {b : List UInt8} {k : Nat} (h : k < b.length) : cutF (b.take (k + 1)) = cutStep (cutF (b.take k)) b[k] := by
  unfold cutF; rw [List.take_succ_eq_append_getElem h, List.foldl_append]; rfl
theorem says_cut {b : List UInt8} {n : Int} {f t : List Int} (h : Says b n f t) :
    cutL b = [dgB n, 58] :: (List.range f.length).map fun k => [dgB (f.getD k 0), dgB (t.getD k 0)] := by
  obtain ⟨hq, rfl⟩ := h
  obtain ⟨hl, h6, ⟨n1, n5⟩, hf, ht⟩ := fq_parts hq
  have hn : dgB n ≠ 32 := dgB_ne (by omega) (by omega)
  have key : ∀ i, i ≤ f.length → cutL (bq n f t i) = [dgB n, 58] :: (List.range i).map fun k => [dgB (f.getD k 0), dgB (t.getD k 0)] := by
    intro i; induction i with
    | zero =>
      intro _
      have e : (58 : UInt8) ≠ 32 := by decide
      simp [cutL, cutF, bq, cutStep, hn, e]
    | succ i ih =>
      intro hi
      have h1 := ih (by omega)
      have x : dgB (f.getD i 0) ≠ 32 := dgB_ne (hf i (by omega)).1 (by have := (hf i (by omega)).2; omega)
      have y : dgB (t.getD i 0) ≠ 32 := dgB_ne (ht i (by omega)).1 (by have := (ht i (by omega)).2; omega)
      have e : cutF (bq n f t (i + 1)) = ((cutF (bq n f t i)).1 ++ [(cutF (bq n f t i)).2], [dgB (f.getD i 0), dgB (t.getD i 0)]) := by
        conv => lhs; unfold cutF bq
        rw [List.foldl_append]
        simp only [List.foldl_cons, List.foldl_nil, cutStep, if_true, if_neg x, if_neg y, List.nil_append, List.singleton_append]
        rfl
      unfold cutL at h1 ⊢
      rw [e]
      simp only
      rw [h1, List.range_succ, List.map_append]
      rfl
  exact key _ (Nat.le_refl _)
/-- the first (the second) byte of each piece behind the first one -/
def pE (p : List (List UInt8)) (o m : Nat) : List Int := (List.range m).map fun k => bN (p.getD (k + 1) []) o
theorem pE_succ (p : List (List UInt8)) (o m : Nat) : pE p o (m + 1) = pE p o m ++ [bN (p.getD (m + 1) []) o] := by simp [pE, List.range_succ]
theorem pE_len (p : List (List UInt8)) (o m : Nat) : (pE p o m).length = m := by simp [pE]
/-- by pieces -/
theorem says_piece {b : List UInt8} {n : Int} {f t : List Int} (h : Says b n f t) :
    b.length ≤ 30 ∧ ((cutL b).getD 0 []).length = 2 ∧ (∀ k, k < (cutL b).length → ((cutL b).getD k []).length = 2) ∧ bN ((cutL b).getD 0 []) 0 = n ∧ pE (cutL b) 0 ((cutL b).length - 1) = f ∧ pE (cutL b) 1 ((cutL b).length - 1) = t := by
  have hb := (says_place h).2.1
  have hc := says_cut h
  obtain ⟨hq, _⟩ := h
  obtain ⟨hl, h6, ⟨n1, n5⟩, hf, ht⟩ := fq_parts hq
  rw [hc]
  have g : ∀ k, k < f.length → (([dgB n, 58] :: (List.range f.length).map fun k => [dgB (f.getD k 0), dgB (t.getD k 0)])).getD (k + 1) [] = [dgB (f.getD k 0), dgB (t.getD k 0)] := by
    intro k hk; simp [List.getD, hk]
  have hlen : (([dgB n, 58] :: (List.range f.length).map fun k => [dgB (f.getD k 0), dgB (t.getD k 0)])).length = f.length + 1 := by simp
  refine ⟨by omega, rfl, ?_, dgB_sub (by omega) (by omega), ?_, ?_⟩
  · intro k hk
    rw [hlen] at hk
    cases k with
    | zero => rfl
    | succ k => rw [g k (by omega)]; rfl
  · rw [hlen]; unfold pE
    refine ext_range (by omega) fun k hk => ?_
    rw [g k (by omega)]; exact dgB_sub (hf k (by omega)).1 (by have := (hf k (by omega)).2; omega)
  · rw [hlen]; unfold pE
    refine ext_range (by omega) fun k hk => ?_
    rw [g k (by omega)]; exact dgB_sub (ht k (by omega)).1 (by have := (ht k (by omega)).2; omega)
open Classical in
/-- what ParseQuiver answers -/
noncomputable def parQ (s : ByteArray) : (Int × List Int × List Int) × Bool :=
  if h : ∃ q : Int × List Int × List Int, Says s.data.toList q.1 q.2.1 q.2.2 then (h.choose, true) else ((0, [], []), false)
noncomputable def parN (s : ByteArray) : Int := (parQ s).1.1
noncomputable def parF (s : ByteArray) : List Int := (parQ s).1.2.1
noncomputable def parT (s : ByteArray) : List Int := (parQ s).1.2.2
noncomputable def parB (s : ByteArray) : Bool := (parQ s).2
theorem par_yes {s : ByteArray} {n : Int} {f t : List Int} (h : Says s.data.toList n f t) : parN s = n ∧ parF s = f ∧ parT s = t ∧ parB s = true := by
  have hx : ∃ q : Int × List Int × List Int, Says s.data.toList q.1 q.2.1 q.2.2 := ⟨(n, f, t), h⟩
  have e : parQ s = (hx.choose, true) := by unfold parQ; rw [dif_pos hx]
  obtain ⟨a, b, c⟩ := says_one hx.choose_spec h
  unfold parN parF parT parB
  rw [e]
  exact ⟨a, b, c, rfl⟩
theorem par_no {s : ByteArray} (h : ∀ n f t, ¬ Says s.data.toList n f t) : parN s = 0 ∧ parF s = [] ∧ parT s = [] ∧ parB s = false := by
  have hx : ¬ ∃ q : Int × List Int × List Int, Says s.data.toList q.1 q.2.1 q.2.2 := fun ⟨q, hq⟩ => h _ _ _ hq
  have e : parQ s = ((0, [], []), false) := by unfold parQ; rw [dif_neg hx]
  unfold parN parF parT parB
  rw [e]
  exact ⟨rfl, rfl, rfl, rfl⟩
theorem par_len (s : ByteArray) : (parF s).length ≤ 6 ∧ (parT s).length ≤ 6 := by
  by_cases h : ∃ n f t, Says s.data.toList n f t
  · obtain ⟨n, f, t, h⟩ := h
    obtain ⟨_, e1, e2, _⟩ := par_yes h
    obtain ⟨hl, h6, _⟩ := fq_parts h.1
    rw [e1, e2]; omega
  · obtain ⟨_, e1, e2, _⟩ := par_no (s := s) (fun n f t hh => h ⟨n, f, t, hh⟩)
    rw [e1, e2]; simp
end Go.Proofs.YtndooeffjkofdaaDoor

namespace Go.Proofs.YtndooeffjkofdaaDoor
open Go.RowKit
set_option linter.unusedVariables false
set_option linter.unusedSimpArgs false

theorem Own.same {w w' : World} {B : Nat} {e : TypeId} {k : IntKind} {v : Value} {l : List Int} (h : Own w B e k v l) (hb : ∀ g, v.ownBlock = some g → w'.heap[g]? = w.heap[g]?) : Own w' B e k v l := by
  refine ⟨h.1, ?_⟩
  rcases h.2 with h2 | ⟨g, cap, cur, rfl, h4, h5, h6⟩
  · exact .inl h2
  · refine .inr ⟨g, cap, cur, rfl, h4, ?_, h6⟩
    rw [hb g rfl]; exact h5
/-- the struct's block (its cells cf, ct), the result's block, the two rows (vf, vt) -/
def QG (w0 : World) (t b B : Nat) (n : Int) (cf ct vf vt : Value) (lf lt : List Int) (w : World) : Prop :=
  Blk w b #[.int .i64 n, cf, ct] 26 ∧ Res3 w t 26 ∧ Own w B 3 .i64 vf lf ∧ Own w B 3 .i64 vt lt ∧ (∀ k, vf.ownBlock = some k → vt.ownBlock ≠ some k) ∧ Below w0.heap.size w0 w ∧ B ≤ w.heap.size ∧ ((∀ k, vf.ownBlock = some k → k ≠ b ∧ k ≠ t) ∧ (∀ k, vt.ownBlock = some k → k ≠ b ∧ k ≠ t) ∧ w0.heap.size ≤ b ∧ t ≠ b ∧ w0.heap.size ≤ B)
theorem QG.drew {w0 w : World} {t b B : Nat} {n : Int} {cf ct vf vt : Value} {lf lt : List Int} (h : QG w0 t b B n cf ct vf vt lf lt w) : QG w0 t b B n cf ct vf vt lf lt w.drew := by
  obtain ⟨h1, h2, h3, h4, h5, h6, h7, h8⟩ := h
  exact ⟨h1, h2, h3.drewN 1, h4.drewN 1, h5, h6.drew, h7, h8⟩
theorem QG.store1 {w0 w : World} {t b B : Nat} {n : Int} {cf ct vf vt : Value} {lf lt : List Int} (h : QG w0 t b B n cf ct vf vt lf lt w) : QG w0 t b B n vf ct vf vt lf lt (w.setCell ⟨b, 1, none⟩ vf) := by
  obtain ⟨h1, ⟨x, y, z, h2⟩, h3, h4, h5, h6, h7, h8, h9, h10, h11, h12⟩ := h
  have hk : ∀ v l, Own w B 3 .i64 v l → (∀ k, v.ownBlock = some k → k ≠ b ∧ k ≠ t) → Own (w.setCell ⟨b, 1, none⟩ vf) B 3 .i64 v l := fun v l hv hn => hv.same fun g hg => heap_setCell_other w ⟨b, 1, none⟩ g vf (fun e => (hn g hg).1 e)
  refine ⟨h1.set 1 vf, ⟨x, y, z, h2.setOther (p := ⟨b, 1, none⟩) (by simpa using h11) vf⟩, hk _ _ h3 h8, hk _ _ h4 h9, h5, h6.setCell (p := ⟨b, 1, none⟩) h10 vf, ?_, h8, h9, h10, h11, h12⟩
  have := ((Chg.refl (fun q => q = b) w).setCell (p := ⟨b, 1, none⟩) rfl vf).size
  omega
theorem QG.store2 {w0 w : World} {t b B : Nat} {n : Int} {cf ct vf vt : Value} {lf lt : List Int} (h : QG w0 t b B n cf ct vf vt lf lt w) : QG w0 t b B n cf vt vf vt lf lt (w.setCell ⟨b, 2, none⟩ vt) := by
  obtain ⟨h1, ⟨x, y, z, h2⟩, h3, h4, h5, h6, h7, h8, h9, h10, h11, h12⟩ := h
  have hk : ∀ v l, Own w B 3 .i64 v l → (∀ k, v.ownBlock = some k → k ≠ b ∧ k ≠ t) → Own (w.setCell ⟨b, 2, none⟩ vt) B 3 .i64 v l := fun v l hv hn => hv.same fun g hg => heap_setCell_other w ⟨b, 2, none⟩ g vt (fun e => (hn g hg).1 e)
  refine ⟨h1.set 2 vt, ⟨x, y, z, h2.setOther (p := ⟨b, 2, none⟩) (by simpa using h11) vt⟩, hk _ _ h3 h8, hk _ _ h4 h9, h5, h6.setCell (p := ⟨b, 2, none⟩) h10 vt, ?_, h8, h9, h10, h11, h12⟩
  have := ((Chg.refl (fun q => q = b) w).setCell (p := ⟨b, 2, none⟩) rfl vt).size
  omega
theorem grown_same {w w' : World} {o : Obj} {row : Option Nat} (hg : (w.alloc o).drew.grownBy w' row) {k : Nat} (hk : k < w.heap.size) (hne : row ≠ some k) : w'.heap[k]? = w.heap[k]? := by
  rw [hg.block k (by show k < (w.alloc o).heap.size; simp; omega) (fun e => hne e.symm)]
  show (w.alloc o).heap[k]? = w.heap[k]?
  exact ((Below.refl _ w).alloc (Nat.le_refl _) o).block k hk
/-- one row has grown (it is v' now, in the block g) -/
theorem QG.grow1 {w0 w w' : World} {t b B : Nat} {n : Int} {cf ct vf vt v' : Value} {lf lt l' : List Int} {o : Obj} {g : Nat} (h : QG w0 t b B n cf ct vf vt lf lt w) (hg : (w.alloc o).drew.grownBy w' vf.ownBlock) (ho : Own w' B 3 .i64 v' l')
    (hv : ∀ k, v'.ownBlock = some k → k = g) (hor : vf.ownBlock = some g ∨ g = w.heap.size + 1) : QG w0 t b B n cf ct v' vt l' lt w' := by
  obtain ⟨h1, ⟨x, y, z, h2⟩, h3, h4, h5, h6, h7, h8, h9, h10, h11, h12⟩ := h
  have hbl := h1.lt
  have htl := h2.lt
  have hsz : w.heap.size ≤ w'.heap.size := by have := hg.size; simp at this; omega
  refine ⟨?_, ⟨x, y, z, ?_⟩, ho, h4.same fun k hk => grown_same hg (World.ownsRow.lt h4 k hk).2 (fun e => h5 k e hk), ?_, ?_, by omega, ?_, h9, h10, h11, h12⟩
  · unfold Blk; rw [grown_same hg hbl (fun e => (h8 b e).1 rfl)]; exact h1
  · unfold Blk; rw [grown_same hg htl (fun e => (h8 t e).2 rfl)]; exact h2
  · intro k hk e
    obtain rfl := hv k hk
    rcases hor with h | h
    · exact h5 k h e
    · have := (World.ownsRow.lt h4 k e).2; omega
  · exact Below.grown ((h6.alloc h6.size o).drew) hg (by simp; have := h6.size; omega) (fun k hk => by have := (World.ownsRow.lt h3 k hk).1; omega)
  · intro k hk
    obtain rfl := hv k hk
    rcases hor with h | h
    · exact h8 k h
    · omega
theorem QG.swap_rows {w0 w : World} {t b B : Nat} {n : Int} {cf ct vf vt : Value} {lf lt : List Int} (h : QG w0 t b B n cf ct vf vt lf lt w) : QG w0 t b B n cf ct vt vf lt lf w := by
  obtain ⟨h1, h2, h3, h4, h5, h6, h7, h8, h9, h10⟩ := h
  exact ⟨h1, h2, h4, h3, fun k hk e => h5 k e hk, h6, h7, h9, h8, h10⟩
/-- at a step of a region that draws its order: append of one number to the first row -/
theorem step_app_q1 {ops : Array Oper} {o : Oper} {a : Act} {K : Act → World → Prop} {Q : Exit → Act → World → Prop} {E : Prop} {c : Int} (w : World) (hgd : o.guard = none) (s x : Operand)
    (ho : o.op = .call { callee := .builtin .append, args := #[s, x], argTypes := #[24, 24] }) {w0 : World} {t b B : Nat} {n : Int} {cf ct vf vt : Value} {lf lt : List Int}
    (hs : a.eval s = vf) (hx : a.eval x = .slice (some ⟨w.heap.size, 0, none⟩) 1 1) (hq : QG w0 t b B n cf ct vf vt lf lt w) (hl : lf.length + 1 ≤ 17592186044416)
    (hK : ∀ v' w', QG w0 t b B n cf ct v' vt (lf ++ [c]) lt w' → K (a.put o.dst v') w') :
    if Region.wanted o (yielded ops a.tmps) = true then Oper.wp Tryd.prog o a (w.alloc (.cells #[.int .i64 c] 3)).drew K Q else E := by
  obtain ⟨i, hi, h0, h1, h2⟩ := info_parts infoInt
  refine step_append_lies _ hgd s x 24 ho B 3 i (.int .i64 0) 1 8 Tryd.underlying24 hi h0 h1 h2 rfl (by decide) vf lf.length (lf.map (Value.int .i64)) hs ((World.ownsRow.alloc hq.2.2.1 _).drew)
    ⟨w.heap.size, 0, none⟩ 1 1 [.int .i64 c] hx rfl (news_cells w _ [.int .i64 c]) (ints_oneCell .i64 [c]) (by decide) (by unfold maxLen; omega) (by omega) (by have := hq.2.2.2.2.2.2.1; simp; omega) (w.heap.size + 1) (by simp) ?_
  intro g cap w' ho' hg hor _
  have hO : Own w' B 3 .i64 (.slice (some ⟨g, 0, none⟩) (lf.length + 1) cap) (lf ++ [c]) := by unfold Own; simpa using ho'
  exact hK _ w' (hq.grow1 hg hO (fun k hk => by simpa [Value.ownBlock] using hk.symm) hor)
theorem step_app_q2 {ops : Array Oper} {o : Oper} {a : Act} {K : Act → World → Prop} {Q : Exit → Act → World → Prop} {E : Prop} {c : Int} (w : World) (hgd : o.guard = none) (s x : Operand)
    (ho : o.op = .call { callee := .builtin .append, args := #[s, x], argTypes := #[24, 24] }) {w0 : World} {t b B : Nat} {n : Int} {cf ct vf vt : Value} {lf lt : List Int}
    (hs : a.eval s = vt) (hx : a.eval x = .slice (some ⟨w.heap.size, 0, none⟩) 1 1) (hq : QG w0 t b B n cf ct vf vt lf lt w) (hl : lt.length + 1 ≤ 17592186044416)
    (hK : ∀ v' w', QG w0 t b B n cf ct vf v' lf (lt ++ [c]) w' → K (a.put o.dst v') w') :
    if Region.wanted o (yielded ops a.tmps) = true then Oper.wp Tryd.prog o a (w.alloc (.cells #[.int .i64 c] 3)).drew K Q else E :=
  step_app_q1 w hgd s x ho hs hx hq.swap_rows hl (fun v' w' h => hK v' w' h.swap_rows)
theorem own_blk {w : World} {B : Nat} {e : TypeId} {v : Value} {l : List Int} {k : Nat} (h : Own w B e .i64 v l) (hk : blk v = some k) : v.ownBlock = some k := by
  rcases h.2 with ⟨rfl, _⟩ | ⟨g, cap, cur, rfl, _⟩
  · simp [blk] at hk
  · cases hn : l.length with
    | zero => rw [hn] at hk; simp [blk] at hk
    | succ m => rw [hn] at hk; simpa [blk, Value.ownBlock] using hk
/-- what is handed on -/
theorem QG.ends {w0 w : World} {t b B : Nat} {n : Int} {cf ct vf vt : Value} {lf lt : List Int} (h : QG w0 t b B n cf ct vf vt lf lt w) :
    Ints w vf lf ∧ Ints w vt lt ∧ FreshV B vf ∧ FreshV B vt ∧ (∀ k, blk vf = some k → ¬ blk vt = some k) := by
  obtain ⟨_, _, h3, h4, h5, _⟩ := h
  have a := Ints.of_own h3
  have b := Ints.of_own h4
  exact ⟨a.1, b.1, a.2, b.2, fun k hk hk' => h5 k (own_blk h3 hk) (own_blk h4 hk')⟩
end Go.Proofs.YtndooeffjkofdaaDoor

namespace Go.Proofs.YtndooeffjkofdaaDoor
open Go.RowKit
set_option linter.unusedVariables false
set_option linter.unusedSimpArgs false

theorem infoStr : (Tryd.prog.info? 9).map (fun i => (i.zero, i.size, i.bytes)) = some (some (.string ⟨#[]⟩), 1, 16) := by kernel_rfl
def strV (b : List UInt8) : Value := .string ⟨b.toArray⟩
/-- a slice of texts that the call owns -/
def OwnT (w : World) (B : Nat) (v : Value) (p : List (List UInt8)) : Prop := w.ownsRow B 9 1 v p.length (p.map strV)
theorem OwnT.made (w : World) {B : Nat} (hB : B ≤ w.heap.size) : OwnT (w.alloc (.cells #[] 9)) B (.slice (some ⟨w.heap.size, 0, none⟩) 0 0) [] :=
  World.ownsRow_lit (size := 1) (e := 9) (base := B) w #[] 0 hB (by decide) rfl
theorem OwnT.below {w w' : World} {B : Nat} {v : Value} {p : List (List UInt8)} (h : OwnT w B v p) (b : Below w.heap.size w w') : OwnT w' B v p := by
  refine ⟨h.1, ?_⟩
  rcases h.2 with h2 | ⟨g, cap, cur, rfl, h4, h5, h6⟩
  · exact .inl h2
  · exact .inr ⟨g, cap, cur, rfl, h4, by rw [b.block g (Array.getElem?_eq_some_iff.1 h5).1]; exact h5, h6⟩
theorem OwnT.at {w : World} {B : Nat} {a : Option Addr} {n c : Nat} {p : List (List UInt8)} (h : OwnT w B (.slice a n c) p) :
    n = p.length ∧ p.length ≤ c ∧ c ≤ 9223372036854775807 ∧ ∀ i, i < p.length → ∃ g, a = some ⟨g, 0, none⟩ ∧ g < w.heap.size ∧ B ≤ g ∧ w.cell? ⟨g, i, none⟩ = some (strV (p.getD i [])) := by
  rcases h.2 with ⟨e, h2⟩ | ⟨g, cap, cur, e, hb, hg, hnc, hcm, hcs, htake⟩
  · simp only [Value.slice.injEq] at e
    obtain ⟨rfl, rfl, rfl⟩ := e
    exact ⟨h2.symm, by omega, by omega, fun i hi => absurd hi (by omega)⟩
  · simp only [Value.slice.injEq] at e
    obtain ⟨rfl, rfl, rfl⟩ := e
    simp only [Nat.mul_one] at htake hcs
    refine ⟨rfl, hnc, by simpa [maxLen] using hcm, fun i hi => ⟨g, rfl, (Array.getElem?_eq_some_iff.1 hg).1, hb, ?_⟩⟩
    rw [cell_of_row w g i cur _ _ hg]
    have e : (cur.toList.take p.length)[i]? = (p.map strV)[i]? := by rw [htake]
    rw [List.getElem?_take_of_lt hi, Array.getElem?_toList, List.getElem?_map, List.getElem?_eq_getElem hi] at e
    rw [e, List.getD_eq_getElem?_getD, List.getElem?_eq_getElem hi]
    rfl
/-- append of one text -/
theorem app_str {ops : Array Oper} {rest : List Oper} {o : Oper} {a : Act} {Q : Exit → Act → World → Prop} (w0 w : World) (hgd : o.guard = none) (s x : Operand)
    (ho : o.op = .call { callee := .builtin .append, args := #[s, x], argTypes := #[71, 71] }) (B : Nat) (v : Value) (p : List (List UInt8)) (c : List UInt8)
    (hs : a.eval s = v) (hx : a.eval x = .slice (some ⟨w.heap.size, 0, none⟩) 1 1) (hown : OwnT w B v p) (hbel : Below B w0 w) (hB : B ≤ w.heap.size) (hl : p.length + 1 ≤ 1099511627776)
    (hK : ∀ v' w', OwnT w' B v' (p ++ [c]) → Below B w0 w' → wpList Tryd.prog ops Q rest (a.put o.dst v') w') :
    wpList Tryd.prog ops Q (o :: rest) a (w.alloc (.cells #[strV c] 9)) := by
  obtain ⟨i, hi, h0, h1, h2⟩ := info_parts infoStr
  refine wpList_append_own _ hgd s x 71 ho B 9 i (.string ⟨#[]⟩) 1 16 Tryd.underlying71 hi h0 h1 h2 rfl (by decide) v p.length (p.map strV) hs (World.ownsRow.alloc hown _)
    ⟨w.heap.size, 0, none⟩ 1 1 [strV c] hx rfl (news_cells w _ _) (by intro u hu; simp at hu; subst hu; rfl) (by unfold maxLen; omega) (by omega) (by simp; omega) ?_
  intro v' w' ho' hg _
  have hb : Below B w0 w' := (hbel.alloc hB _).grown hg (by simp; omega) (fun k hk => (World.ownsRow.lt hown k hk).1)
  refine hK v' w' ?_ hb
  unfold OwnT
  simpa using ho'
theorem ext_one (s : ByteArray) (k : Nat) (h : k < s.size) : s.extract k (k + 1) = ⟨#[s[k]]⟩ := by
  have h1 : (s.extract k (k + 1)).data = s.data.extract k (k + 1) := ByteArray.data_extract
  have h2 : s.data.extract k (k + 1) = #[s[k]] := by
    have hk : k < s.data.size := h
    apply Array.ext
    · simp; omega
    · intro i h3 h4
      simp at h4; subst h4
      simp; rfl
  rw [h2] at h1
  cases he : s.extract k (k + 1) with
  | mk d => rw [he] at h1; simp at h1; rw [h1]
theorem app_one (P : List UInt8) (x : UInt8) : (⟨P.toArray⟩ : ByteArray) ++ ⟨#[x]⟩ = ⟨(P ++ [x]).toArray⟩ := by
  have := ByteArray.mk_append_mk P [x]
  simpa using this
set_option maxRecDepth 100000 in
set_option maxHeartbeats 400000 in
theorem s_l6Cut (s : ByteArray) (w : World) (hs : s.size ≤ 1048576) :
    Calls Tryd.prog 72 #[.string s, .int .u8 32] w (fun e w' => ∃ v, e = .returned v ∧ OwnT w' w.heap.size v (cutL s.data.toList) ∧ Below w.heap.size w w') := by
  have hm := OwnT.made w (Nat.le_refl _)
  have hb0 : Below w.heap.size w (w.alloc (.cells #[] 9)) := (Below.refl _ w).alloc (Nat.le_refl _) _
  have H0 := Lib.hid (And.intro hm hb0)
  clear hm hb0
  go_enter Tryd.func72, Tryd.ntmps72
  go_wp2
  go_loopw [5, 6, 7] (fun sv pv iv wr => ∃ (k : Nat) (P : List UInt8), iv = .int .i64 k ∧ k ≤ s.size ∧ pv = strV P ∧ P.length ≤ k ∧ Hid (OwnT wr w.heap.size sv (cutF (s.data.toList.take k)).1 ∧ (cutF (s.data.toList.take k)).2 = P ∧ (cutF (s.data.toList.take k)).1.length ≤ k ∧ Below w.heap.size w wr)) (fun _ _ iv _ => s.size - (intOf iv).toNat)
  case atStart => exact ⟨0, [], rfl, by omega, rfl, by simp, H0.out.1, rfl, by simp [cutF], H0.out.2⟩
  case round =>
    obtain ⟨k, P, rfl, hk, rfl, hP, HR⟩ := hrel
    by_cases hlt : k < s.size
    · have hlen : s.data.toList.length = s.size := rfl
      have hst := cutF_succ (b := s.data.toList) (k := k) (by omega)
      have hgt : s.data.toList[k]'(by omega) = s[k] := rfl
      rw [hgt] at hst
      unfold cutStep at hst
      by_cases hsp : s[k] = 32
      · rw [if_pos hsp] at hst
        have hn : (s[k].toNat : Int) = 32 := by rw [hsp]; rfl
        have HST := Lib.hid hst
        have hc := HR.out.2.2.1
        clear hst hsp hgt hlen
        unfold strV
        go_wp2_with (at_builtin; refine app_str w wr rfl (.tmp 20) (.tmp 22) rfl w.heap.size _ _ P rfl rfl HR.out.1 HR.out.2.2.2 HR.out.2.2.2.size (by omega) ?_)
        intro v' w' hv' hb'
        have HR2 : Hid (OwnT w' w.heap.size v' (cutF (s.data.toList.take (k + 1))).1 ∧ (cutF (s.data.toList.take (k + 1))).2 = [] ∧ (cutF (s.data.toList.take (k + 1))).1.length ≤ k + 1 ∧ Below w.heap.size w w') := by
          rw [HST.out]
          refine ⟨?_, rfl, by simp; omega, hb'⟩
          simp only [HR.out.2.1]; exact hv'
        clear hv' hb' hc
        go_wp2
        go_roundw
        case rel => exact ⟨k + 1, [], by go_num, by omega, rfl, by simp, HR2⟩
        case measure => simp [intOf]; omega
      · rw [if_neg hsp] at hst
        have hn : (s[k].toNat : Int) ≠ 32 := fun e => hsp (by rw [← UInt8.toNat_inj]; show s[k].toNat = 32; omega)
        have HR2 : Hid (∀ sv, OwnT wr w.heap.size sv (cutF (s.data.toList.take k)).1 → OwnT wr w.heap.size sv (cutF (s.data.toList.take (k + 1))).1 ∧ (cutF (s.data.toList.take (k + 1))).2 = P ++ [s[k]] ∧ (cutF (s.data.toList.take (k + 1))).1.length ≤ k + 1 ∧ Below w.heap.size w wr) := by
          intro sv hsv
          rw [hst]
          have := HR.out.2.2.1
          exact ⟨hsv, by simp only [HR.out.2.1], by simp only; omega, HR.out.2.2.2⟩
        have HEX := Lib.hid (ext_one s k hlt)
        clear hsp hst hgt hlen
        unfold strV
        go_wp2
        go_roundw
        case rel => exact ⟨k + 1, P ++ [s[k]], by go_num, by omega, by rw [HEX.out, app_one], by simp; omega, HR2.out _ HR.out.1⟩
        case measure => simp [intOf]; omega
    · have hks : k = s.size := by omega
      have hlen : s.data.toList.length = s.size := rfl
      have htk : s.data.toList.take k = s.data.toList := List.take_of_length_le (by omega)
      have HTK := Lib.hid htk
      have hc := HR.out.2.2.1
      clear htk hlen hks
      unfold strV
      go_wp2_with (at_builtin; refine app_str w wr rfl (.tmp 31) (.tmp 33) rfl w.heap.size _ _ P rfl rfl HR.out.1 HR.out.2.2.2 HR.out.2.2.2.size (by omega) ?_)
      intro v' w' hv' hb'
      have HR2 : Hid (OwnT w' w.heap.size v' (cutL s.data.toList) ∧ Below w.heap.size w w') := by
        have e : cutL s.data.toList = (cutF (s.data.toList.take k)).1 ++ [P] := by unfold cutL; rw [HTK.out, ← HR.out.2.1, HTK.out]
        rw [e]; exact ⟨hv', hb'⟩
      clear hv' hb' hc
      go_wp2
      go_ret
      exact ⟨_, rfl, HR2.out.1, HR2.out.2⟩
end Go.Proofs.YtndooeffjkofdaaDoor

namespace Go.Proofs.YtndooeffjkofdaaDoor
open Go.RowKit
set_option linter.unusedVariables false
set_option linter.unusedSimpArgs false

def zerosB (n : Nat) : Array Value := madeCells #[.int .u8 0] n
theorem run_make_bytes (n : Nat) (hn : n ≤ 17592186044416) (w : World) : (Instr.makeSlice 22 (.int .i64 n) (.int .i64 n)).run Tryd.prog w =
    .ok (.slice (some ⟨w.heap.size, 0, none⟩) n n) (w.alloc (.cells (zerosB n) 5)) := by
  obtain ⟨i, hi, h0, h1, h2⟩ := info_parts infoByte
  have h := run_make (P := Tryd.prog) w 22 5 i (.int .u8 0) Tryd.underlying22 hi h0 .i64 .i64 n n (by omega) (Int.le_refl _) (by rw [h2]; omega) (by omega)
  rw [h1] at h
  simpa [zerosB, Value.cells] using h
theorem own_zerosB (w : World) (B n : Nat) (hB : B ≤ w.heap.size) (hn : n ≤ 17592186044416) : Own (w.alloc (.cells (zerosB n) 5)) B 5 .u8 (.slice (some ⟨w.heap.size, 0, none⟩) n n) (List.replicate n 0) := by
  have h := World.ownsRow_lit (size := 1) (e := 5) (base := B) w (zerosB n) n hB (by unfold maxLen; omega) (by simp [zerosB, size_madeCells])
  have e : (zerosB n).toList = (List.replicate n 0).map (Value.int .u8) := by unfold zerosB; rw [toList_madeCells_one]; simp
  unfold Own
  rw [e] at h
  simpa using h
/-- the first k digits written -/
def dgL (l : List Int) (k : Nat) : List Int := (l.take k).map (48 + ·) ++ List.replicate (l.length - k) 0
theorem dgL_zero (l : List Int) : dgL l 0 = List.replicate l.length 0 := by simp [dgL]
theorem dgL_len (l : List Int) (k : Nat) (hk : k ≤ l.length) : (dgL l k).length = l.length := by simp [dgL]; omega
theorem dgL_all (l : List Int) : dgL l l.length = l.map (48 + ·) := by simp [dgL]
theorem dgL_set (l : List Int) (k : Nat) (hk : k < l.length) : (dgL l k).set k (48 + l.getD k 0) = dgL l (k + 1) := by
  apply List.ext_getElem (by rw [List.length_set, dgL_len l k (by omega), dgL_len l (k + 1) (by omega)])
  intro t h1 h2
  have ht : t < l.length := by rw [dgL_len l (k + 1) (by omega)] at h2; exact h2
  rw [List.getElem_set]
  by_cases h : k = t
  · subst h
    rw [if_pos rfl]
    simp [dgL, List.getElem_append, List.getD, hk, Nat.min_eq_left (show k + 1 ≤ l.length by omega)]
  · rw [if_neg h]
    simp only [dgL, List.getElem_append, List.length_map, List.length_take, List.getElem_map, List.getElem_take, List.getElem_replicate]
    by_cases h3 : t < k
    · rw [dif_pos (by omega), dif_pos (by omega)]
    · rw [dif_neg (by omega), dif_neg (by omega)]
end Go.Proofs.YtndooeffjkofdaaDoor
