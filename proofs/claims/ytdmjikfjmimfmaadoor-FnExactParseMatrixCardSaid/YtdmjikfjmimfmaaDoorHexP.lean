/- Hexadecimal texts: the reference's digit and its EncodeHex; the program's EncodeHex; both give one text. -/
import Derived.Test.YtdmjikfjmimfmaaDoorOwn
import Derived.Test.YtdmjikfjmimfmaaDoorShelf
import Derived.Test.YtdmjikfjmimfmaaDoorNum2
import Derived.Lib.HexFns2
import Derived.Lib.ConvBytes
import Derived.Deep.RegionHeld3
import Derived.Deep.AppendLies
import Derived.IntWalk
namespace Go.Proofs.YtdmjikfjmimfmaaDoor
open Go.RowKit
set_option linter.unusedVariables false
set_option linter.unusedSimpArgs false

/-- the digit of a number below 16, as a number -/
def hxD (k : Nat) : Int := ((Lib.Hx.digit k).toNat : Int)
theorem hxTab : ∀ j : Fin 16, (Lib.Hx.tab.data.toList.getD j.val 0) = Lib.Hx.digit j.val := by decide +kernel
/-- the digits of a text's bytes -/
def hxL (s : ByteArray) (k : Nat) : List Int := (Lib.Hx.encode (s.data.toList.take k)).map fun b => (b.toNat : Int)
theorem hxL_succ (s : ByteArray) (k : Nat) (h : k < s.size) : hxL s k ++ [hxD (s[k].toNat / 16), hxD (s[k].toNat % 16)] = hxL s (k + 1) := by
  unfold hxL hxD
  rw [take_snoc s k h]
  simp [Lib.Hx.encode, List.flatMap_append]
theorem hxL_len (s : ByteArray) (k : Nat) (h : k ≤ s.size) : (hxL s k).length = 2 * k := by
  unfold hxL
  rw [List.length_map, Lib.Hx.encode_length, List.length_take, Nat.min_eq_left (by have : s.data.toList.length = s.size := rfl; omega)]
/-- the text of hexadecimal digits -/
def hxS (s : ByteArray) : ByteArray := ⟨(Lib.Hx.encode s.data.toList).toArray⟩
theorem hxS_of (s : ByteArray) : strOfNums (hxL s s.size) = hxS s := by
  unfold hxS hxL
  rw [List.take_of_length_le (by have : s.data.toList.length = s.size := rfl; omega)]
  exact Lib.Hx.strOfNums_nums _
def HexAns (s : ByteArray) (w : World) (e : Ending) (w' : World) : Prop := e = .returned (.string (hxS s)) ∧ Below w.heap.size w w'

theorem step_app_byte2 {ops : Array Oper} {o : Oper} {a : Act} {K : Act → World → Prop} {Q : Exit → Act → World → Prop} {E : Prop} {c d : Int} (w0 w : World) (hgd : o.guard = none) (s x : Operand)
    (ho : o.op = .call { callee := .builtin .append, args := #[s, x], argTypes := #[75, 75] }) (B : Nat) (v : Value) (l : List Int)
    (hs : a.eval s = v) (hx : a.eval x = .slice (some ⟨w.heap.size, 0, none⟩) 2 2) (hown : Own w B 5 .u8 v l) (hbel : Below B w0 w) (hB : B ≤ w.heap.size) (hl : l.length + 2 ≤ 17592186044416)
    (hK : ∀ v' w', Own w' B 5 .u8 v' (l ++ [c, d]) → Below B w0 w' → B ≤ w'.heap.size → K (a.put o.dst v') w') :
    if Region.wanted o (yielded ops a.tmps) = true then Oper.wp Tryd.prog o a (w.alloc (.cells #[.int .u8 c, .int .u8 d] 5)).drew K Q else E := by
  obtain ⟨i, hi, h0, h1, h2⟩ := info_parts infoByte
  refine step_append_lies _ hgd s x 75 ho B 5 i (.int .u8 0) 1 1 Tryd.underlying75 hi h0 h1 h2 rfl (by decide) v l.length (l.map (Value.int .u8)) hs ((World.ownsRow.alloc hown _).drew)
    ⟨w.heap.size, 0, none⟩ 2 2 [.int .u8 c, .int .u8 d] hx rfl (news_cells w _ [.int .u8 c, .int .u8 d]) (ints_oneCell .u8 [c, d]) (by decide) (by unfold maxLen; omega) (by omega) (by simp; omega) _ rfl ?_
  intro g cap w' ho' hg _ _
  have hb : Below B w0 w' := ((hbel.alloc hB _).drew).grown hg (by simp; omega) (fun k hk => (World.ownsRow.lt hown k hk).1)
  refine hK _ w' ?_ hb ?_
  · unfold Own; simpa using ho'
  · have := hg.size; simp at this; omega


end Go.Proofs.YtdmjikfjmimfmaaDoor
