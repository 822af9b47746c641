/- Hexadecimal texts: the reference's digit and its EncodeHex; the program's EncodeHex; both give one text. -/
import Derived.Test.YthempdleolefnaaOwn
import Derived.Test.YthempdleolefnaaShelf
import Derived.Test.YthempdleolefnaaNum2
import Derived.Lib.HexFns2
import Derived.Lib.ConvBytes
import Derived.Deep.RegionHeld3
import Derived.Deep.AppendLies
import Derived.IntWalk
namespace Go.Proofs.Ythempdleolefnaa
open Go.RowKit
set_option linter.unusedVariables false
set_option linter.unusedSimpArgs false

/-- the digit of a number below 16, as a number -/
def hxD (k : Nat) : Int := ((Lib.Hx.digit k).toNat : Int)
theorem hxTab : ∀ j : Fin 16, (Lib.Hx.tab.data.toList.getD j.val 0) = Lib.Hx.digit j.val := by decide +kernel
set_option maxRecDepth 100000 in
set_option maxHeartbeats 400000 in
theorem s_l1Digit (k : Nat) (hk : k < 16) (w : World) :
    Calls Try.prog 9 #[.int .i64 k] w fun e w' => e = .returned (.int .u8 (hxD k)) ∧ w = w' := by
  go_enter Try.func9, Try.ntmps9
  go_wp2
  go_ret
  refine ⟨ret_int ?_, rfl⟩
  have h := hxTab ⟨k, hk⟩
  simp only at h
  unfold hxD
  rw [← h, List.getD_eq_getElem?_getD, List.getElem?_eq_getElem (show k < Lib.Hx.tab.data.toList.length from hk)]
  rfl

/-- the digits of a text's bytes -/
def hxL (s : ByteArray) (k : Nat) : List Int := (Lib.Hx.encode (s.data.toList.take k)).map fun b => (b.toNat : Int)
theorem hxL_succ (s : ByteArray) (k : Nat) (h : k < s.size) : hxL s k ++ [hxD (s[k].toNat / 16), hxD (s[k].toNat % 16)] = hxL s (k + 1) := by
  unfold hxL hxD
  rw [take_snoc s k h]
  simp [Lib.Hx.encode, List.flatMap_append]
theorem hxL_len (s : ByteArray) (k : Nat) (h : k ≤ s.size) : (hxL s k).length = 2 * k := by
  unfold hxL
  rw [List.length_map, Lib.Hx.encode_length, List.length_take, Nat.min_eq_left (by have : s.data.toList.length = s.size := rfl; omega)]
/-- the text of hexadecimal digits -/
def hxS (s : ByteArray) : ByteArray := ⟨(Lib.Hx.encode s.data.toList).toArray⟩
theorem hxS_of (s : ByteArray) : strOfNums (hxL s s.size) = hxS s := by
  unfold hxS hxL
  rw [List.take_of_length_le (by have : s.data.toList.length = s.size := rfl; omega)]
  exact Lib.Hx.strOfNums_nums _
def HexAns (s : ByteArray) (w : World) (e : Ending) (w' : World) : Prop := e = .returned (.string (hxS s)) ∧ Below w.heap.size w w'

set_option maxRecDepth 100000 in
set_option maxHeartbeats 1000000 in
theorem i_EncodeHex (s : ByteArray) (w : World) (hs : s.size ≤ 1048576) :
    Calls Try.prog 6 #[.string s] w (HexAns s w) := by
  have hcv := Lib.run_convert_string_bytes (P := Try.prog) w 9 26 5 s Try.underlying9 Try.underlying26 Try.underlying5
  have hcl := fun j hj => Lib.bytesWorld_cell w 5 s j hj
  have hsz := Lib.bytesWorld_size w 5 s
  have hbw : Below w.heap.size w (Lib.bytesWorld w 5 s) := ⟨rfl, rfl, rfl, by rw [hsz]; omega, fun i hi => Lib.bytesWorld_at_old w _ s i hi⟩
  generalize Lib.bytesWorld w 5 s = w1 at hcv hcl hsz hbw
  generalize grownCap w s.size 0 5 = cap at hcv
  have hcon := Try.hex_EncodeToString_bytes w.heap.size 0 cap s.data.toList w1 (fun i h => by
    rw [Nat.zero_add, hcl i h, List.getD_eq_getElem?_getD, List.getElem?_eq_getElem h]; rfl) (by omega) (by show 2 * s.size ≤ _; omega)
  have HB := Lib.hid hbw
  clear hcl hsz hbw
  go_enter Try.func6, Try.ntmps6
  go_wp2_with (go_at_call 10; refine hcon.mono ?_; rintro e w2 ⟨rfl, b2⟩)
  have HB2 := Lib.hid (HB.out.trans (b2.mono HB.out.size))
  go_wp2
  go_ret
  exact ⟨rfl, HB2.out⟩

theorem step_app_byte2 {ops : Array Oper} {o : Oper} {a : Act} {K : Act → World → Prop} {Q : Exit → Act → World → Prop} {E : Prop} {c d : Int} (w0 w : World) (hgd : o.guard = none) (s x : Operand)
    (ho : o.op = .call { callee := .builtin .append, args := #[s, x], argTypes := #[26, 26] }) (B : Nat) (v : Value) (l : List Int)
    (hs : a.eval s = v) (hx : a.eval x = .slice (some ⟨w.heap.size, 0, none⟩) 2 2) (hown : Own w B 5 .u8 v l) (hbel : Below B w0 w) (hB : B ≤ w.heap.size) (hl : l.length + 2 ≤ 17592186044416)
    (hK : ∀ v' w', Own w' B 5 .u8 v' (l ++ [c, d]) → Below B w0 w' → B ≤ w'.heap.size → K (a.put o.dst v') w') :
    if Region.wanted o (yielded ops a.tmps) = true then Oper.wp Try.prog o a (w.alloc (.cells #[.int .u8 c, .int .u8 d] 5)).drew K Q else E := by
  obtain ⟨i, hi, h0, h1, h2⟩ := info_parts infoByte
  refine step_append_lies _ hgd s x 26 ho B 5 i (.int .u8 0) 1 1 Try.underlying26 hi h0 h1 h2 rfl (by decide) v l.length (l.map (Value.int .u8)) hs ((World.ownsRow.alloc hown _).drew)
    ⟨w.heap.size, 0, none⟩ 2 2 [.int .u8 c, .int .u8 d] hx rfl (news_cells w _ [.int .u8 c, .int .u8 d]) (ints_oneCell .u8 [c, d]) (by decide) (by unfold maxLen; omega) (by omega) (by simp; omega) _ rfl ?_
  intro g cap w' ho' hg _ _
  have hb : Below B w0 w' := ((hbel.alloc hB _).drew).grown hg (by simp; omega) (fun k hk => (World.ownsRow.lt hown k hk).1)
  refine hK _ w' ?_ hb ?_
  · unfold Own; simpa using ho'
  · have := hg.size; simp at this; omega

set_option maxRecDepth 100000 in
set_option maxHeartbeats 1000000 in
theorem s_EncodeHex (s : ByteArray) (w : World) (hs : s.size ≤ 1048576) :
    Calls Try.prog 5 #[.string s] w (HexAns s w) := by
  obtain ⟨B, hB⟩ : ∃ B, B = w.heap.size := ⟨_, rfl⟩
  have HB := Lib.hid hB
  have hB1 : B ≤ w.heap.size := by omega
  clear hB
  go_enter Try.func5, Try.ntmps5
  go_wp2
  go_loopw [3, 4] (fun v i wr => ∃ k : Nat, k ≤ s.size ∧ i = .int .i64 k ∧ Own wr B 5 .u8 v (hxL s k) ∧ Below B w wr ∧ B ≤ wr.heap.size) (fun _ i _ => s.size - (intOf i).toNat)
  case atStart => exact ⟨0, Nat.zero_le _, rfl, Own.made w _ _ hB1, (Below.refl _ _).alloc hB1 _, by simp; omega⟩
  case round =>
    obtain ⟨k, hk, rfl, hown, hbel, hBr⟩ := hrel
    by_cases hlt : k < s.size
    · have hsu := hxL_succ s k hlt
      have hlen := hxL_len s k hk
      have hby := s[k].toNat_lt
      have hk0 : (0 : Int) ≤ (k : Int) := by omega
      have hk1 : (k : Int) < (s.size : Int) := by omega
      obtain ⟨x, hx⟩ : ∃ x, s[k].toNat / 16 = x := ⟨_, rfl⟩
      obtain ⟨y, hy⟩ : ∃ y, s[k].toNat % 16 = y := ⟨_, rfl⟩
      have hx16 : x < 16 := by omega
      have hy16 : y < 16 := by omega
      have hq : ((s[k].toNat : Int)).tdiv 16 = (x : Int) := by rw [Int.tdiv_eq_ediv_of_nonneg (by omega)]; omega
      have hr : ((s[k].toNat : Int)).tmod 16 = (y : Int) := by rw [Int.tmod_eq_emod_of_nonneg (by omega)]; omega
      have hw1 : IntKind.i64.wrap (s[k].toNat : Int) = (s[k].toNat : Int) := IntWalk.i64_in _ (by omega)
      have hw2 : IntKind.i64.wrap (x : Int) = (x : Int) := IntWalk.i64_in _ (by omega)
      have hw3 : IntKind.i64.wrap (y : Int) = (y : Int) := IntWalk.i64_in _ (by omega)
      rw [hx, hy] at hsu
      have HSU := Lib.hid hsu
      clear hsu
      have hlen2 : (hxL s k).length + 2 ≤ 17592186044416 := by omega
      clear hx hy hlen
      go_wp2
      go_region_held3 (fun _ => True) (exact trivial)
        (first
          | (refine step_app_byte2 w wr (by rfl) (.tmp 12) (.tmp 25) (by rfl) B u3 (hxL s k) (by rfl) (by rfl) hown hbel hBr hlen2 ?_; intro v' w3 hown3 hbel3 hB3)
          | (go_at_call 9; (first | (with_reducible refine (s_l1Digit x hx16 _).mono ?_) | (with_reducible refine (s_l1Digit y hy16 _).mono ?_)); rintro e w' ⟨rfl, rfl⟩))
      all_goals
        rw [HSU.out] at hown3
        clear hq hr hw1 hw2 hw3
        go_wp2
        go_roundw
        case rel => exact ⟨k + 1, by omega, by go_num, hown3, hbel3, hB3⟩
        case measure => simp [intOf]; omega
    · obtain rfl : k = s.size := by omega
      have ht := text_of_bytes hown
      rw [hxS_of] at ht
      go_wp2
      go_ret
      exact ⟨rfl, hbel.mono (by rw [HB.out]; exact Nat.le_refl _)⟩

set_option maxRecDepth 100000 in
set_option maxHeartbeats 400000 in
theorem law_FnExactEncodeHex (s : ByteArray) (w : World) (hs : s.size ≤ maxLen) :
    Calls Try.prog 3 #[.string s] w fun e w' => e = .returned (.bool true) ∧ Below w.heap.size w w' := by
  unfold maxLen at hs
  by_cases hbig : s.size ≤ 1048576
  · go_enter Try.func3, Try.ntmps3
    go_wp2_with fail
    refine (s_EncodeHex s _ hbig).mono ?_; rintro e w1 ⟨rfl, b1⟩
    go_wp2_with fail
    refine (i_EncodeHex s _ hbig).mono ?_; rintro e w2 ⟨rfl, b2⟩
    go_wp2
    go_ret
    exact ⟨rfl, below_call b1 b2 b1.size⟩
  · go_enter Try.func3, Try.ntmps3
    go_wp2
    go_ret
    exact ⟨rfl, Below.refl _ _⟩

end Go.Proofs.Ythempdleolefnaa
