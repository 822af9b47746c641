/- DecodeVarint: the plain law: a text begins with at most one number's code. No program is read here. -/
import Derived.Test.YthempdleolefnaaDoorVarint
import Derived.Test.YthempdleolefnaaDoorNum2
namespace Go.Proofs.YthempdleolefnaaDoor
open Go.RowKit
set_option linter.unusedVariables false
set_option linter.unusedSimpArgs false

/-- the number that bytes are, seven bits each, the low ones first -/
def vv (l : List UInt8) : Nat := l.foldr (fun b a => b.toNat % 128 + 128 * a) 0
theorem vv_snoc (l : List UInt8) (b : UInt8) : vv (l ++ [b]) = vv l + b.toNat % 128 * 128 ^ l.length := by
  induction l with
  | nil => simp [vv]
  | cons a l ih =>
    have h : vv (a :: l ++ [b]) = a.toNat % 128 + 128 * vv (l ++ [b]) := rfl
    have h' : vv (a :: l) = a.toNat % 128 + 128 * vv l := rfl
    rw [h, h', ih, List.length_cons, Nat.pow_succ, Nat.mul_add, ← Nat.add_assoc]
    congr 1
    rw [Nat.mul_comm 128, Nat.mul_assoc]
theorem vv_lt (l : List UInt8) : vv l < 128 ^ l.length := by
  induction l with
  | nil => simp [vv]
  | cons a l ih =>
    have h' : vv (a :: l) = a.toNat % 128 + 128 * vv l := rfl
    rw [h', List.length_cons, Nat.pow_succ]
    have := Nat.mod_lt a.toNat (show 0 < 128 by omega)
    omega
theorem vv_take_lt (l : List UInt8) {k : Nat} (h : k ≤ 7) : vv (l.take k) < 562949953421312 := by
  have h1 := vv_lt (l.take k)
  have h2 := Nat.pow_le_pow_right (n := 128) (by omega) (show (l.take k).length ≤ 7 by have := List.length_take_le k l; omega)
  exact Nat.lt_of_lt_of_le h1 h2

/-- the code of a number: all bytes but the last have the high bit -/
theorem viF_shape (f : Nat) : ∀ m : Int, 0 ≤ m → m < 128 ^ (f + 1) → ∃ I t, viF f m = I ++ [t] ∧ 0 ≤ t ∧ t < 128 ∧ ∀ x ∈ I, 128 ≤ x ∧ x < 256 := by
  induction f with
  | zero => intro m h0 h1; exact ⟨[], m, rfl, h0, by simpa using h1, fun _ h => by cases h⟩
  | succ f ih =>
    intro m h0 h1
    by_cases hm : m < 128
    · exact ⟨[], m, by rw [viF_small _ hm]; rfl, h0, hm, fun _ h => by cases h⟩
    · rw [viF_big f hm]
      rw [Int.pow_succ] at h1
      obtain ⟨I, t, e, ht0, ht1, hI⟩ := ih (m / 128) (by omega) (by omega)
      refine ⟨(m % 128 + 128) :: I, t, by rw [e]; rfl, ht0, ht1, ?_⟩
      intro x hx
      rcases List.mem_cons.1 hx with rfl | hx
      · omega
      · exact hI x hx

/-- the first k bytes are the code of a number -/
def dok (s : ByteArray) (k : Nat) : Bool := decide (viS (vv (s.data.toList.take k)) = s.extract 0 k)
theorem dok_iff {s : ByteArray} {k : Nat} : dok s k = true ↔ viS (vv (s.data.toList.take k)) = s.extract 0 k := by unfold dok; simp
theorem extract_list (s : ByteArray) (k : Nat) : (s.extract 0 k).data.toList = s.data.toList.take k := by
  simp
theorem dok_shape {s : ByteArray} {k : Nat} (h : dok s k = true) (h1 : 1 ≤ k) (h7 : k ≤ 7) (hs : k ≤ s.size) :
    (s.data.toList.getD (k - 1) 0).toNat < 128 ∧ ∀ j, j < k - 1 → 128 ≤ (s.data.toList.getD j 0).toNat := by
  rw [dok_iff] at h
  have hv := vv_take_lt s.data.toList h7
  have hin : inR (vv (s.data.toList.take k)) 0 562949953421311 = true := inR_mk (by omega) (by omega)
  rw [show viS (vv (s.data.toList.take k)) = strOfNums (viF 7 (vv (s.data.toList.take k))) from if_pos hin] at h
  obtain ⟨I, t, e, ht0, ht1, hI⟩ := viF_shape 7 (vv (s.data.toList.take k)) (by omega) (by
    have : (128 : Int) ^ (7 + 1) = 72057594037927936 := by decide
    rw [this]; omega)
  have hd := congrArg (fun b => b.data.toList) h
  simp only [extract_list] at hd
  have hlen : s.data.toList.length = s.size := rfl
  have hd' : (I ++ [t]).map (fun n => UInt8.ofNat n.toNat) = s.data.toList.take k := by rw [← e]; simpa [strOfNums] using hd
  have hl := congrArg List.length hd'
  simp only [List.length_map, List.length_append, List.length_cons, List.length_nil, List.length_take] at hl
  have hget : ∀ j, j < k → (s.data.toList.getD j 0) = UInt8.ofNat ((I ++ [t]).getD j 0).toNat := by
    intro j hj
    have h2 : (s.data.toList.take k)[j]? = ((I ++ [t]).map (fun n => UInt8.ofNat n.toNat))[j]? := by rw [hd']
    rw [List.getElem?_take, if_pos hj, List.getElem?_map] at h2
    rw [List.getD_eq_getElem?_getD, List.getD_eq_getElem?_getD, h2]
    have : j < (I ++ [t]).length := by simp; omega
    rw [List.getElem?_eq_getElem this]; rfl
  constructor
  · rw [hget _ (by omega)]
    have e1 : (I ++ [t]).getD (k - 1) 0 = t := by
      rw [List.getD_eq_getElem?_getD, List.getElem?_append_right (by omega), show k - 1 - I.length = 0 by omega]; rfl
    rw [e1, UInt8.toNat_ofNat']
    omega
  · intro j hj
    rw [hget _ (by omega)]
    have hjI : j < I.length := by omega
    have e1 : (I ++ [t]).getD j 0 = I[j] := by
      rw [List.getD_eq_getElem?_getD, List.getElem?_append_left hjI, List.getElem?_eq_getElem hjI]; rfl
    have := hI I[j] (List.getElem_mem hjI)
    rw [e1, UInt8.toNat_ofNat']
    omega
theorem dok_uniq {s : ByteArray} {k k' : Nat} (h : dok s k = true) (h1 : 1 ≤ k) (h7 : k ≤ 7) (hs : k ≤ s.size) (h' : dok s k' = true) (h1' : 1 ≤ k') (h7' : k' ≤ 7) (hs' : k' ≤ s.size) : k = k' := by
  have a := dok_shape h h1 h7 hs
  have b := dok_shape h' h1' h7' hs'
  rcases Nat.lt_trichotomy k k' with hlt | rfl | hlt
  · have := b.2 (k - 1) (by omega); omega
  · rfl
  · have := a.2 (k' - 1) (by omega); omega

/-- how many bytes the code has with which a text begins, or 0 -/
def dK (s : ByteArray) : Nat := ((List.range 8).find? fun k => decide (1 ≤ k) && decide (k ≤ s.size) && dok s k).getD 0
theorem dK_of {s : ByteArray} {k : Nat} (h : dok s k = true) (h1 : 1 ≤ k) (h7 : k ≤ 7) (hs : k ≤ s.size) : dK s = k := by
  unfold dK
  cases hf : (List.range 8).find? fun k => decide (1 ≤ k) && decide (k ≤ s.size) && dok s k with
  | none =>
    have := List.find?_eq_none.1 hf k (by simp; omega)
    simp [h, h1, hs] at this
  | some k' =>
    have hp := List.find?_some hf
    have hm := List.mem_of_find?_eq_some hf
    simp at hp hm
    exact (dok_uniq h h1 h7 hs hp.2 hp.1.1 (by omega) hp.1.2).symm
theorem dK_none {s : ByteArray} (h : ∀ k, 1 ≤ k → k ≤ 7 → k ≤ s.size → dok s k = false) : dK s = 0 := by
  unfold dK
  cases hf : (List.range 8).find? fun k => decide (1 ≤ k) && decide (k ≤ s.size) && dok s k with
  | none => rfl
  | some k' =>
    have hp := List.find?_some hf
    have hm := List.mem_of_find?_eq_some hf
    simp at hp hm
    have := h k' hp.1.1 (by omega) hp.1.2
    rw [hp.2] at this; cases this
/-- the number told -/
def dN (s : ByteArray) : Nat := vv (s.data.toList.take (dK s))
theorem dN_zero {s : ByteArray} (h : dK s = 0) : dN s = 0 := by unfold dN; rw [h]; rfl

/-- no code ends ahead of place k -/
def NoCode (s : ByteArray) (k : Nat) : Prop := ∀ j, 1 ≤ j → j ≤ k → j ≤ 7 → j ≤ s.size → dok s j = false
/-- the first k bytes have the high bit -/
def HiB (s : ByteArray) (k : Nat) : Prop := ∀ j, j < k → 128 ≤ (s.data.toList.getD j 0).toNat
theorem HiB.none {s : ByteArray} {k : Nat} (h : HiB s k) : NoCode s k := by
  intro j h1 hk h7 hs
  by_cases hd : dok s j = true
  · have a := (dok_shape hd h1 h7 hs).1
    have := h (j - 1) (by omega); omega
  · simpa using hd
theorem HiB.step {s : ByteArray} {k : Nat} (h : HiB s k) (hk : k < s.size) (hb : 128 ≤ s[k].toNat) : HiB s (k + 1) := by
  intro j hj
  by_cases e : j = k
  · subst e
    rw [List.getD_eq_getElem?_getD, List.getElem?_eq_getElem (by simpa using hk)]; exact hb
  · exact h j (by omega)
/-- a byte without the high bit: the code ends here or nowhere -/
theorem HiB.stop {s : ByteArray} {k : Nat} (h : HiB s k) (hk : k < s.size) (hb : s[k].toNat < 128) (hd : dok s (k + 1) = false) : dK s = 0 := by
  refine dK_none fun j h1 h7 hs => ?_
  by_cases hle : j ≤ k
  · exact h.none j h1 hle h7 hs
  · by_cases e : j = k + 1
    · rw [e]; exact hd
    · by_cases hdj : dok s j = true
      · have := (dok_shape hdj h1 h7 hs).2 k (by omega)
        rw [List.getD_eq_getElem?_getD, List.getElem?_eq_getElem (by simpa using hk)] at this
        have this : 128 ≤ s[k].toNat := this
        omega
      · simpa using hdj
theorem vv_step (s : ByteArray) (k : Nat) (h : k < s.size) : vv (s.data.toList.take (k + 1)) = vv (s.data.toList.take k) + s[k].toNat % 128 * 128 ^ k := by
  rw [take_snoc s k h, vv_snoc, List.length_take, Nat.min_eq_left (by have : s.data.toList.length = s.size := rfl; omega)]
theorem pow128 (k : Nat) : (128 : Nat) ^ k = 2 ^ (7 * k) := by rw [Nat.pow_mul]
theorem vv_or (s : ByteArray) (k : Nat) (h : k < s.size) (h7 : k < 7) :
    bits BinOp.or IntKind.i64 (vv (s.data.toList.take k) : Int) ((s[k].toNat : Int) % 128 * 2 ^ (7 * k)) = (vv (s.data.toList.take (k + 1)) : Int) := by
  have hlt := vv_lt (s.data.toList.take k)
  have hlen : (s.data.toList.take k).length = k := by rw [List.length_take, Nat.min_eq_left (by have : s.data.toList.length = s.size := rfl; omega)]
  rw [hlen, pow128] at hlt
  have hnext := vv_take_lt s.data.toList (show k + 1 ≤ 7 by omega)
  rw [vv_step s k h, pow128] at hnext
  have e : ((s[k].toNat : Int) % 128 * 2 ^ (7 * k)) = ((2 ^ (7 * k) * (s[k].toNat % 128) : Nat) : Int) := by
    push_cast; rw [Int.mul_comm]
  rw [vv_step s k h, pow128, e, i64_or_nat _ _ (by omega) (by rw [Nat.mul_comm]; omega), Nat.or_comm]
  rw [← Nat.two_pow_add_eq_or_of_lt hlt]
  congr 1
  rw [Nat.mul_comm]; omega

/-- Horner's steps from behind: the sum of the bytes from place j on, of the first k -/
def vd (s : ByteArray) (j k : Nat) : Nat := vv ((s.data.toList.take k).drop j)
theorem vd_end (s : ByteArray) (k : Nat) : vd s k k = 0 := by
  unfold vd; rw [List.drop_eq_nil_of_le (List.length_take_le _ _)]; rfl
theorem vd_zero (s : ByteArray) (k : Nat) : vd s 0 k = vv (s.data.toList.take k) := by unfold vd; rw [List.drop_zero]
theorem vd_step (s : ByteArray) (j k : Nat) (hj : j < k) (hk : k ≤ s.size) (hjs : j < s.size) : vd s j k = vd s (j + 1) k * 128 + s[j].toNat % 128 := by
  unfold vd
  have hl : j < (s.data.toList.take k).length := by rw [List.length_take]; have : s.data.toList.length = s.size := rfl; omega
  rw [List.drop_eq_getElem_cons hl]
  have e : (s.data.toList.take k)[j] = s[j] := by rw [List.getElem_take]; rfl
  rw [e]
  show s[j].toNat % 128 + 128 * vv _ = _
  rw [Nat.mul_comm, Nat.add_comm]
theorem vd_lt (s : ByteArray) (j k : Nat) (h : k ≤ 7) : vd s j k < 562949953421312 := by
  have h1 := vv_lt ((s.data.toList.take k).drop j)
  have h2 := Nat.pow_le_pow_right (n := 128) (by omega) (show ((s.data.toList.take k).drop j).length ≤ 7 by rw [List.length_drop]; have := List.length_take_le k s.data.toList; omega)
  exact Nat.lt_of_lt_of_le h1 h2

end Go.Proofs.YthempdleolefnaaDoor
