/- Fixed numbers: DecodeFixed, of the program and of the reference. -/
import Derived.Test.YtdmjikfjmimfmaaDoorRange
namespace Go.Proofs.YtdmjikfjmimfmaaDoor
open Go.RowKit
set_option linter.unusedVariables false
set_option linter.unusedSimpArgs false

/-- the number that bytes are, the first one counts most -/
def beN (l : List UInt8) : Nat := l.foldl (fun a b => a * 256 + b.toNat) 0
theorem beN_snoc (l : List UInt8) (b : UInt8) : beN (l ++ [b]) = beN l * 256 + b.toNat := by simp [beN]
theorem beN_go (l : List UInt8) : ∀ acc : Nat, l.foldl (fun a b => a * 256 + b.toNat) acc < (acc + 1) * 256 ^ l.length := by
  induction l with
  | nil => intro acc; simp
  | cons b l ih =>
    intro acc
    have h := ih (acc * 256 + b.toNat)
    have hb := b.toNat_lt
    rw [List.foldl_cons, List.length_cons, Nat.pow_succ]
    refine Nat.lt_of_lt_of_le h ?_
    rw [Nat.mul_comm (256 ^ l.length) 256, ← Nat.mul_assoc]
    exact Nat.mul_le_mul_right _ (by omega)
theorem beN_lt (l : List UInt8) : beN l < 256 ^ l.length := by
  have := beN_go l 0; simpa [beN] using this
theorem beN_take (l : List UInt8) {k : Nat} (h : k ≤ 6) : beN (l.take k) < 281474976710656 := by
  have h1 := beN_lt (l.take k)
  have h2 := Nat.pow_le_pow_right (n := 256) (by omega) (show (l.take k).length ≤ 6 by have := List.length_take_le k l; omega)
  exact Nat.lt_of_lt_of_le h1 h2
theorem take_snoc (s : ByteArray) (k : Nat) (h : k < s.size) : s.data.toList.take (k + 1) = s.data.toList.take k ++ [s[k]] := by
  rw [List.take_succ_eq_append_getElem (by simpa using h)]; rfl

theorem beN_step (s : ByteArray) (k : Nat) (h : k < s.size) : (beN (s.data.toList.take k) : Int) * 256 + s[k].toNat = (beN (s.data.toList.take (k + 1)) : Int) := by
  rw [take_snoc s k h, beN_snoc]; simp

theorem or_byte (n : Nat) (b : UInt8) : (n * 256) ||| b.toNat = n * 256 + b.toNat := by
  have h := Nat.two_pow_add_eq_or_of_lt (i := 8) (b := b.toNat) b.toNat_lt n
  rw [Nat.mul_comm]; simpa using h.symm

theorem beN_or (s : ByteArray) (k : Nat) (h : k < s.size) (hb : beN (s.data.toList.take k) < 281474976710656) :
    bits BinOp.or IntKind.i64 ((beN (s.data.toList.take k) : Int) * 256) (s[k].toNat : Int) = (beN (s.data.toList.take (k + 1)) : Int) := by
  rw [← beN_step s k h]
  have e : ((beN (s.data.toList.take k) : Int) * 256) = ((beN (s.data.toList.take k) * 256 : Nat) : Int) := by simp
  have := s[k].toNat_lt
  rw [e, i64_or_nat _ _ (by omega) (by omega), or_byte]
  simp

/-- what DecodeFixed answers where the width is taken and the string is long enough -/
def DecAns (s : ByteArray) (width : Nat) (w : World) (e : Ending) (w' : World) : Prop :=
  e = .returned (.tuple #[.int .i64 (beN (s.data.toList.take width)), .bool true]) ∧ w = w'

/-- what DecodeFixed answers where it takes nothing -/
def DecNo (w : World) (e : Ending) (w' : World) : Prop := e = .returned (.tuple #[.int .i64 0, .bool false]) ∧ w = w'


end Go.Proofs.YtdmjikfjmimfmaaDoor
