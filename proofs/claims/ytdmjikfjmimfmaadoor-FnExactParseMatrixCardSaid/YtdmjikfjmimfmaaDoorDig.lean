/- digits: a text out of numbers below 10, of the program. -/
import Derived.Test.YtdmjikfjmimfmaaDoorFpL
namespace Go.Proofs.YtdmjikfjmimfmaaDoor
open Go.RowKit
set_option linter.unusedVariables false
set_option linter.unusedSimpArgs false

def zerosB (n : Nat) : Array Value := madeCells #[.int .u8 0] n
theorem run_make_bytes (n : Nat) (hn : n ≤ 17592186044416) (w : World) : (Instr.makeSlice 75 (.int .i64 n) (.int .i64 n)).run Tryd.prog w =
    .ok (.slice (some ⟨w.heap.size, 0, none⟩) n n) (w.alloc (.cells (zerosB n) 5)) := by
  obtain ⟨i, hi, h0, h1, h2⟩ := info_parts infoByte
  have h := run_make (P := Tryd.prog) w 75 5 i (.int .u8 0) Tryd.underlying75 hi h0 .i64 .i64 n n (by omega) (Int.le_refl _) (by rw [h2]; omega) (by omega)
  rw [h1] at h
  simpa [zerosB, Value.cells] using h
theorem own_zerosB (w : World) (B n : Nat) (hB : B ≤ w.heap.size) (hn : n ≤ 17592186044416) : Own (w.alloc (.cells (zerosB n) 5)) B 5 .u8 (.slice (some ⟨w.heap.size, 0, none⟩) n n) (List.replicate n 0) := by
  have h := World.ownsRow_lit (size := 1) (e := 5) (base := B) w (zerosB n) n hB (by unfold maxLen; omega) (by simp [zerosB, size_madeCells])
  have e : (zerosB n).toList = (List.replicate n 0).map (Value.int .u8) := by unfold zerosB; rw [toList_madeCells_one]; simp
  unfold Own
  rw [e] at h
  simpa using h
/-- the first k digits written -/
def dgL (l : List Int) (k : Nat) : List Int := (l.take k).map (48 + ·) ++ List.replicate (l.length - k) 0
theorem dgL_zero (l : List Int) : dgL l 0 = List.replicate l.length 0 := by simp [dgL]
theorem dgL_len (l : List Int) (k : Nat) (hk : k ≤ l.length) : (dgL l k).length = l.length := by simp [dgL]; omega
theorem dgL_all (l : List Int) : dgL l l.length = l.map (48 + ·) := by simp [dgL]
theorem dgL_set (l : List Int) (k : Nat) (hk : k < l.length) : (dgL l k).set k (48 + l.getD k 0) = dgL l (k + 1) := by
  apply List.ext_getElem (by rw [List.length_set, dgL_len l k (by omega), dgL_len l (k + 1) (by omega)])
  intro t h1 h2
  have ht : t < l.length := by rw [dgL_len l (k + 1) (by omega)] at h2; exact h2
  rw [List.getElem_set]
  by_cases h : k = t
  · subst h
    rw [if_pos rfl]
    simp [dgL, List.getElem_append, List.getD, hk, Nat.min_eq_left (show k + 1 ≤ l.length by omega)]
  · rw [if_neg h]
    simp only [dgL, List.getElem_append, List.length_map, List.length_take, List.getElem_map, List.getElem_take, List.getElem_replicate]
    by_cases h3 : t < k
    · rw [dif_pos (by omega), dif_pos (by omega)]
    · rw [dif_neg (by omega), dif_neg (by omega)]
set_option maxRecDepth 100000 in
set_option maxHeartbeats 1000000 in
theorem i_digits (v : Value) (l : List Int) (w : World) (hv : Ints w v l) (hd : ∀ j, j < l.length → 0 ≤ l.getD j 0 ∧ l.getD j 0 ≤ 9) (hn : l.length ≤ 1000) :
    Calls Tryd.prog 43 #[v] w fun e w' => e = .returned (.string (strOfNums (l.map (48 + ·)))) ∧ Below w.heap.size w w' := by
  obtain ⟨a, cap, rfl, hlc, hcm⟩ := hv.shape
  have HV := Lib.hid hv
  have HD := Lib.hid hd
  have hmk := run_make_bytes l.length (by omega) w
  obtain ⟨B, hB⟩ : ∃ B, B = w.heap.size := ⟨_, rfl⟩
  have hBle : B ≤ w.heap.size := by omega
  have H0 : Hid (Own (w.alloc (.cells (zerosB l.length) 5)) B 5 .u8 (.slice (some ⟨w.heap.size, 0, none⟩) l.length l.length) (dgL l 0) ∧ Below B w (w.alloc (.cells (zerosB l.length) 5))) :=
    ⟨by rw [dgL_zero]; exact own_zerosB w B l.length hBle (by omega), (Below.refl B w).alloc hBle _⟩
  have HB := Lib.hid hB
  clear hv hd hB
  go_enter Tryd.func43, Tryd.ntmps43
  go_wp2
  go_loopw [11] (fun i wr => ∃ k : Nat, k ≤ l.length ∧ i = .int .i64 k ∧ Hid (Own wr B 5 .u8 (.slice (some ⟨w.heap.size, 0, none⟩) l.length l.length) (dgL l k) ∧ Below B w wr)) (fun i _ => l.length - (intOf i).toNat)
  case atStart => exact ⟨0, Nat.zero_le _, rfl, H0⟩
  case round =>
    obtain ⟨k, hk, rfl, HR⟩ := hrel
    by_cases hlt : k < l.length
    · obtain ⟨x0, x9⟩ := HD.out k hlt
      obtain ⟨g, off, rfl, hgs, hc, _⟩ := HV.out.cell hlt
      have hc' := (HR.out.2.cell (p := ⟨g, off + k, none⟩) (by rw [HB.out]; exact hgs)).trans hc
      obtain ⟨x, hx⟩ := elem_name l k
      rw [hx] at hc' x0 x9
      have HS := Lib.hid (dgL_set l k hlt)
      have HX := Lib.hid hx
      clear hx hc
      have hlen := dgL_len l k hk
      obtain ⟨g', hg', hb', hs', hcc, hf'⟩ := (Own.at HR.out.1).2.2 (by omega)
      obtain rfl : w.heap.size = g' := by simpa using hg'
      have hck := hcc k (by omega)
      have hfk := hf' k
      have H1 : Hid (Own (wr.setCell ⟨w.heap.size, k, none⟩ (.int .u8 (48 + x))) B 5 .u8 (.slice (some ⟨w.heap.size, 0, none⟩) l.length l.length) (dgL l (k + 1)) ∧ Below B w (wr.setCell ⟨w.heap.size, k, none⟩ (.int .u8 (48 + x)))) := by
        have h := HR.out.1.store k (48 + x)
        have h2 := HS.out
        rw [HX.out] at h2
        rw [h2] at h
        exact ⟨h, HR.out.2.setCell (p := ⟨w.heap.size, k, none⟩) hb' _⟩
      have hk0 : (0 : Int) ≤ (k : Int) := by omega
      have hk1 : (k : Int) < (l.length : Int) := by omega
      clear hg' hcc hf' hlen
      go_wp2
      go_roundw
      case rel => exact ⟨k + 1, by omega, by go_num, by rw [show min (max x 0) 9 = x by omega]; exact H1⟩
      case measure => simp [intOf]; omega
    · have hke : k = l.length := by omega
      have hcv := text_of_bytes HR.out.1
      have hE : dgL l k = l.map (48 + ·) := by rw [hke]; exact dgL_all l
      rw [hE] at hcv
      have hdk : decide (k < l.length) = false := by simpa using hlt
      have HBB := Lib.hid (show Below w.heap.size w wr by rw [← HB.out]; exact HR.out.2)
      clear hke hE
      go_wp2
      go_ret
      exact ⟨rfl, HBB.out⟩
end Go.Proofs.YtdmjikfjmimfmaaDoor
