/- DecodeVarint, of the program and of the reference: the number and the length of the one code with which the text begins. -/
import Derived.Test.YthempdleolefnaaDoorDecVL
import Derived.Deep.RegionWith
import Derived.Deep.RegionHeld3
import Derived.IntWalk
namespace Go.Proofs.YthempdleolefnaaDoor
open Go.RowKit
set_option linter.unusedVariables false
set_option linter.unusedSimpArgs false

def DvAns (s : ByteArray) (w : World) (e : Ending) (w' : World) : Prop := e = .returned (.tuple #[.int .i64 (dN s), .int .i64 (dK s)]) ∧ Below w.heap.size w w'
theorem DvAns.yes {s : ByteArray} {k : Nat} {w w' : World} (h : dok s k = true) (h1 : 1 ≤ k) (h7 : k ≤ 7) (hs : k ≤ s.size) (hb : Below w.heap.size w w') :
    DvAns s w (.returned (.tuple #[.int .i64 (vv (s.data.toList.take k)), .int .i64 k])) w' := by
  have e := dK_of h h1 h7 hs
  refine ⟨?_, hb⟩
  unfold dN; rw [e]
theorem DvAns.no {s : ByteArray} {w w' : World} (h : dK s = 0) (hb : Below w.heap.size w w') :
    DvAns s w (.returned (.tuple #[.int .i64 0, .int .i64 0])) w' := by
  refine ⟨?_, hb⟩
  rw [dN_zero h, h]; rfl
/-- the test of the program and of the reference, decided -/
theorem str_beq {a b : ByteArray} (h : a = b) : (a.toList == b.toList) = true := by rw [h]; simp
theorem str_bne {a b : ByteArray} (h : a ≠ b) : (a.toList == b.toList) = false := by
  simp only [beq_eq_false_iff_ne]
  rw [ByteArray.toList_eq, ByteArray.toList_eq]
  intro e
  apply h
  cases a; cases b
  simp at e
  rw [e]
/-- the text of the code of the first k bytes -/
def dtx (s : ByteArray) (k : Nat) : ByteArray := viS (vv (s.data.toList.take k))
theorem dok_str {s : ByteArray} {k : Nat} (h : dok s k = true) : ((dtx s k).toList == (s.extract 0 k).toList) = true := str_beq (dok_iff.1 h)
theorem dok_str_no {s : ByteArray} {k : Nat} (h : dok s k = false) : ((dtx s k).toList == (s.extract 0 k).toList) = false :=
  str_bne (fun e => by have := dok_iff.2 e; rw [h] at this; cases this)
theorem NoCode.step {s : ByteArray} {k : Nat} (h : NoCode s (k - 1)) (hd : dok s k = false) (hk : 1 ≤ k) : NoCode s k := by
  intro j h1 hj h7 hs
  by_cases e : j = k
  · rw [e]; exact hd
  · exact h j h1 (by omega) h7 hs
theorem NoCode.done {s : ByteArray} {k : Nat} (h : NoCode s (k - 1)) (hk : 1 ≤ k) (h2 : 8 ≤ k ∨ s.size < k) : dK s = 0 :=
  dK_none fun j h1 h7 hs => h j h1 (by omega) h7 hs

/-- the byte's two halves, as the program asks for them -/
theorem byte_hi (b : UInt8) : (128 ≤ b.toNat → bits BinOp.and IntKind.u8 (b.toNat : Int) 128 = 128) ∧ (b.toNat < 128 → bits BinOp.and IntKind.u8 (b.toNat : Int) 128 = 0) := by
  have h : ∀ n : Fin 256, (128 ≤ n.val → bits BinOp.and IntKind.u8 (n.val : Int) 128 = 128) ∧ (n.val < 128 → bits BinOp.and IntKind.u8 (n.val : Int) 128 = 0) := by decide +kernel
  exact h ⟨b.toNat, b.toNat_lt⟩
theorem byte_lo (b : UInt8) : bits BinOp.and IntKind.u8 (b.toNat : Int) 127 = (b.toNat : Int) % 128 := by
  have h : ∀ n : Fin 256, bits BinOp.and IntKind.u8 (n.val : Int) 127 = (n.val : Int) % 128 := by decide +kernel
  exact h ⟨b.toNat, b.toNat_lt⟩

theorem vv_orw (s : ByteArray) (k : Nat) (h : k < s.size) (h7 : k < 7) :
    bits BinOp.or IntKind.i64 (vv (s.data.toList.take k) : Int) (wrap64 ((s[k].toNat : Int) % 128 * 2 ^ (7 * k))) = (vv (s.data.toList.take (k + 1)) : Int) := by
  have h1 : (2 : Nat) ^ (7 * k) ≤ 2 ^ 42 := Nat.pow_le_pow_right (by omega) (by omega)
  have h2 : s[k].toNat % 128 < 128 := Nat.mod_lt _ (by omega)
  have h3 : s[k].toNat % 128 * 2 ^ (7 * k) ≤ 128 * 2 ^ 42 := Nat.mul_le_mul (by omega) h1
  have e : ((s[k].toNat : Int) % 128 * 2 ^ (7 * k)) = ((s[k].toNat % 128 * 2 ^ (7 * k) : Nat) : Int) := by push_cast; rfl
  rw [e, IntWalk.wrap64_in _ (by constructor <;> omega), ← e]
  exact vv_or s k h h7

set_option maxRecDepth 100000 in
set_option maxHeartbeats 1000000 in
theorem i_DecodeVarint (s : ByteArray) (w : World) (hs : s.size ≤ 9223372036854775807) :
    Calls Tryd.prog 17 #[.string s] w (DvAns s w) := by
  go_enter Tryd.func17, Tryd.ntmps17
  go_wp2
  go_loop [4, 5] (fun n i => ∃ k : Nat, k ≤ 7 ∧ k ≤ s.size ∧ i = .int .i64 k ∧ n = .int .i64 (vv (s.data.toList.take k)) ∧ Hid (HiB s k)) (fun _ i => 7 - (intOf i).toNat)
  case atStart => exact ⟨0, by omega, by omega, rfl, rfl, fun j h1 => by omega⟩
  case round =>
    obtain ⟨k, hk7, hks, rfl, rfl, hhi⟩ := hrel
    by_cases hlt : k < 7
    · by_cases hks' : k < s.size
      · have hor := vv_orw s k hks' hlt
        have hlo := byte_lo s[k]
        have hhi8 := byte_hi s[k]
        have hv := vv_take_lt s.data.toList (show k + 1 ≤ 7 by omega)
        have hcon : ∀ wq, Calls Tryd.prog 16 #[.int .i64 (vv (s.data.toList.take (k + 1)))] wq fun e w' => e = .returned (.string (dtx s (k + 1))) ∧ Below wq.heap.size wq w' := fun wq => i_EncodeVarint (vv (s.data.toList.take (k + 1))) wq
        by_cases hb : s[k].toNat < 128
        · have h0 := hhi8.2 hb
          clear hhi8
          by_cases hd : dok s (k + 1) = true
          · have hst := dok_str hd
            have HD := Lib.hid hd
            clear hd
            go_wp2
            have hwr : IntKind.i64.wrap ((k : Int) + 1) = (k : Int) + 1 := IntWalk.i64_in _ (by omega)
            have hw0 : (0 : Int) ≤ (k : Int) + 1 := by omega
            have hw1 : (k : Int) + 1 ≤ (s.size : Int) := by omega
            have hwn : ((k : Int) + 1).toNat = k + 1 := by omega
            go_region_with (go_at_call 16; refine (hcon _).mono ?_; rintro e w' ⟨rfl, b1⟩)
            clear hwr hw0 hw1 hwn
            have HB2 := Lib.hid ((Below.refl _ w).drew.trans (b1.mono (Nat.le_refl _)))
            clear b1
            go_wp2
            go_ret2
            exact DvAns.yes HD.out (by omega) (by omega) (by omega) HB2.out
          · have hd : dok s (k + 1) = false := by simpa using hd
            have hst := dok_str_no hd
            have HD := Lib.hid (hhi.out.stop hks' hb hd)
            clear hd
            go_wp2
            have hwr : IntKind.i64.wrap ((k : Int) + 1) = (k : Int) + 1 := IntWalk.i64_in _ (by omega)
            have hw0 : (0 : Int) ≤ (k : Int) + 1 := by omega
            have hw1 : (k : Int) + 1 ≤ (s.size : Int) := by omega
            have hwn : ((k : Int) + 1).toNat = k + 1 := by omega
            go_region_with (go_at_call 16; refine (hcon _).mono ?_; rintro e w' ⟨rfl, b1⟩)
            clear hwr hw0 hw1 hwn
            have HB2 := Lib.hid ((Below.refl _ w).drew.trans (b1.mono (Nat.le_refl _)))
            clear b1
            go_wp2
            go_ret2
            exact DvAns.no HD.out HB2.out
        · have h0 := hhi8.1 (by omega)
          have HH := Lib.hid (hhi.out.step hks' (by omega))
          clear hhi8
          go_wp2
          go_round
          case rel => exact ⟨k + 1, by omega, by omega, by go_num, rfl, HH⟩
          case measure => simp [intOf]; omega
      · have hz := Lib.hid (dK_none (s := s) fun j h1 h7 hs => hhi.out.none j h1 (by omega) h7 hs)
        go_wp2
        go_ret2
        exact DvAns.no hz.out (Below.refl _ _)
    · have hz := Lib.hid (dK_none (s := s) fun j h1 h7 hs => hhi.out.none j h1 (by omega) h7 hs)
      go_wp2
      go_ret2
      exact DvAns.no hz.out (Below.refl _ _)


end Go.Proofs.YthempdleolefnaaDoor
