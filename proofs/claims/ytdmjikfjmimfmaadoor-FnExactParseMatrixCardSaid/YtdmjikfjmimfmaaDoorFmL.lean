/- FormatMatrix: the plain law: the text of a matrix, by cells and by rows. -/
import Derived.Test.YtdmjikfjmimfmaaDoorPqL
import Derived.Test.YtdmjikfjmimfmaaDoorMat2
import Derived.Test.YtdmjikfjmimfmaaDoorRws
import Derived.Lib.Join
namespace Go.Proofs.YtdmjikfjmimfmaaDoor
open Go.RowKit
set_option linter.unusedVariables false
set_option linter.unusedSimpArgs false

def dB (l : List Int) : List UInt8 := l.map dgB
theorem dB_len (l : List Int) : (dB l).length = l.length := by simp [dB]
theorem dB_str (l : List Int) : strOfNums (l.map (48 + ·)) = ⟨(dB l).toArray⟩ := by
  unfold strOfNums dB
  rw [List.map_map]
  rfl
/-- the cells with a mark ahead of each row but the first -/
def mtC (C : Nat) (l : List Int) : Nat → List UInt8
  | 0 => []
  | k + 1 => mtC C l k ++ (if 0 < k ∧ k % C = 0 then [47] else []) ++ [dgB (l.getD k 0)]
theorem mtC_succ (C : Nat) (l : List Int) (k : Nat) : mtC C l (k + 1) = mtC C l k ++ (if 0 < k ∧ k % C = 0 then [47] else []) ++ [dgB (l.getD k 0)] := rfl
def mtB (R C : Int) (l : List Int) : List UInt8 := [dgB R, 120, dgB C, 58] ++ mtC C.toNat l l.length
def foM (p R C : Int) (l : List Int) : ByteArray := if isM p R C l = true then ⟨(mtB R C l).toArray⟩ else ⟨#[]⟩
theorem foM_no {p R C : Int} {l : List Int} (h : isM p R C l = false) : foM p R C l = ⟨#[]⟩ := by simp [foM, h]
theorem foM_ok {p R C : Int} {l : List Int} (h : isM p R C l = true) : foM p R C l = ⟨(mtB R C l).toArray⟩ := if_pos h
theorem mtC_len (C : Nat) (l : List Int) : ∀ k, (mtC C l k).length ≤ 2 * k := by
  intro k; induction k with
  | zero => simp [mtC]
  | succ k ih =>
    unfold mtC
    rw [List.length_append, List.length_append]
    split <;> simp <;> omega
def rowsM (c : Nat) (l : List Int) (k : Nat) : List (List Int) := (List.range k).map fun i => rowL c i l
theorem rowL_getD (C i : Nat) (l : List Int) {j : Nat} (hj : j < C) : (rowL C i l).getD j 0 = l.getD (i * C + j) 0 := by
  unfold rowL
  rw [List.getD_eq_getElem?_getD, List.getD_eq_getElem?_getD, List.getElem?_take_of_lt hj, List.getElem?_drop]
theorem mt_row {C i : Nat} {l : List Int} (hC : 0 < C) (h : (i + 1) * C ≤ l.length) : ∀ j, j ≤ C → mtC C l (i * C + j) = mtC C l (i * C) ++ (if 0 < i ∧ 0 < j then [47] else []) ++ (dB (rowL C i l)).take j := by
  have hrl : (rowL C i l).length = C := by
    unfold rowL; rw [List.length_take, List.length_drop]; rw [Nat.add_mul] at h; omega
  intro j; induction j with
  | zero => intro _; simp
  | succ j ih =>
    intro hj
    have e : i * C + (j + 1) = (i * C + j) + 1 := by omega
    have hm : (i * C + j) % C = j := by rw [Nat.add_comm, Nat.add_mul_mod_self_right]; exact Nat.mod_eq_of_lt (by omega)
    have ht : (dB (rowL C i l)).take (j + 1) = (dB (rowL C i l)).take j ++ [dgB (l.getD (i * C + j) 0)] := by
      rw [List.take_succ_eq_append_getElem (by rw [dB_len]; omega)]
      congr 2
      unfold dB
      rw [List.getElem_map]
      congr 1
      rw [← rowL_getD C i l (show j < C by omega)]
      simp [List.getD, show j < (rowL C i l).length by omega]
    rw [e, mtC_succ, ih (by omega), hm, ht]
    by_cases h0 : j = 0
    · subst h0
      rcases Nat.eq_zero_or_pos i with hi | hi
      · subst hi; simp [mtC]
      · have : 0 < i * C := Nat.mul_pos hi hC
        simp [hi, this]
    · have h1 : ¬ (0 < i * C + j ∧ j = 0) := fun hh => h0 hh.2
      have h2 : 0 < j := by omega
      simp [h0, h2]
theorem join_snoc (xs : List (List UInt8)) (y sep : List UInt8) : Lib.join (xs ++ [y]) sep = (if xs = [] then [] else Lib.join xs sep ++ sep) ++ y := by
  cases xs with
  | nil => simp [Lib.join_one]
  | cons x r =>
    rw [List.cons_append, Lib.join_cons, Lib.join_cons]
    simp [Lib.joinTail]
theorem mt_join {C R : Nat} {l : List Int} (hC : 0 < C) (h : l.length = R * C) : ∀ i, i ≤ R → Lib.join ((rowsM C l i).map dB) [47] = mtC C l (i * C) := by
  intro i; induction i with
  | zero => intro _; simp [rowsM, Lib.join_nil, mtC]
  | succ i ih =>
    intro hi
    have hle : (i + 1) * C ≤ l.length := by rw [h]; exact Nat.mul_le_mul_right _ hi
    have hs : rowsM C l (i + 1) = rowsM C l i ++ [rowL C i l] := by simp [rowsM, List.range_succ]
    have hrl : (dB (rowL C i l)).length = C := by
      rw [dB_len]; unfold rowL; rw [List.length_take, List.length_drop]; rw [Nat.add_mul] at hle; omega
    rw [hs, List.map_append, List.map_singleton, join_snoc, ih (by omega), Nat.add_mul, Nat.one_mul, mt_row hC hle C (Nat.le_refl _), List.take_of_length_le (by omega)]
    rcases Nat.eq_zero_or_pos i with h0 | h0
    · subst h0; simp [rowsM, mtC]
    · have hne : (rowsM C l i).map dB ≠ [] := fun e => by
        have := congrArg List.length e
        simp [rowsM] at this; omega
      rw [if_neg hne, if_pos ⟨h0, hC⟩]
end Go.Proofs.YtdmjikfjmimfmaaDoor
