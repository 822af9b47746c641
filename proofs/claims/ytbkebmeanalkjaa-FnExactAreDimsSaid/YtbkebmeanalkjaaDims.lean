/- AreDims, of the program and of the reference. -/
import Derived.Test.YtbkebmeanalkjaaIsQuiv
namespace Go.Proofs.Ytbkebmeanalkjaa
open Go.RowKit
set_option linter.unusedVariables false

/-- the sum of the first k numbers -/
def sumP (l : List Int) : Nat → Int
  | 0 => 0
  | k + 1 => sumP l k + l.getD k 0
def areD (n : Int) (f t d : List Int) : Bool := isQ n f t && decide ((d.length : Int) = n) && allR d 0 4 && decide (sumP d d.length ≤ 8)
theorem allR_get {l : List Int} {lo hi : Int} (h : allR l lo hi = true) {j : Nat} (hj : j < l.length) : inR (l.getD j 0) lo hi = true := by
  unfold allR at h
  rw [List.all_eq_true] at h
  exact h _ (by simp [List.getD, hj])
theorem sumP_bd {l : List Int} {k : Nat} (h : ∀ j, j < k → inR (l.getD j 0) 0 4 = true) : 0 ≤ sumP l k ∧ sumP l k ≤ 4 * k := by
  induction k with
  | zero => exact ⟨Int.le_refl _, Int.le_refl _⟩
  | succ k ih =>
    obtain ⟨a, b⟩ := ih fun j hj => h j (by omega)
    obtain ⟨c, d⟩ := inR_true (h k (by omega))
    simp only [sumP]
    constructor <;> omega
theorem isQ_n {n : Int} {f t : List Int} (h : isQ n f t = true) : 1 ≤ n ∧ n ≤ 5 := by
  unfold isQ at h
  simp only [Bool.and_eq_true] at h
  exact inR_true h.1.1.1.1

set_option maxHeartbeats 400000 in
theorem i_sumOf (v : Value) (l : List Int) (w : World) (hv : Ints w v l) (hb : allR l 0 4 = true) (hl : l.length ≤ 5) :
    Calls Try.prog 57 #[v] w (IntAns (sumP l l.length) w) := by
  obtain ⟨a, cap, rfl, hlc, hcm⟩ := hv.shape
  have HB := Lib.hid (fun (k : Nat) (h : k ≤ l.length) => sumP_bd (l := l) (k := k) (fun j hj => allR_get hb (by omega)))
  have HG := Lib.hid (fun (k : Nat) (h : k < l.length) => inR_true (allR_get hb h))
  clear hb
  go_enter Try.func57, Try.ntmps57
  go_wp2
  go_loop [3, 8] (fun s i => ∃ (k : Nat) (q : Int), k ≤ l.length ∧ i = .int .i64 k ∧ s = .int .i64 q ∧ q = sumP l k) (fun _ i => l.length - (intOf i).toNat)
  case atStart => exact ⟨0, 0, Nat.zero_le _, rfl, rfl, rfl⟩
  case round =>
    obtain ⟨k, q, hk, rfl, rfl, hq⟩ := hrel
    have HQ := Lib.hid hq
    by_cases hlt : k < l.length
    · obtain ⟨q0, q4⟩ := HB.out k (by omega)
      obtain ⟨x0, x4⟩ := HG.out k hlt
      obtain ⟨g, off, rfl, hgs, hc, _⟩ := hv.cell hlt
      obtain ⟨x, hx⟩ := elem_name l k
      rw [hx] at hc x0 x4
      rw [← hq] at q0 q4
      have HX := Lib.hid hx; clear hx hq
      go_wp2
      go_round
      case rel => exact ⟨k + 1, q + x, by omega, by go_num, rfl, by simp only [sumP]; rw [HQ.out, HX.out]⟩
      case measure => simp [intOf]; omega
    · have hke : k = l.length := by omega
      clear hq
      go_wp2
      go_ret
      exact ⟨ret_int (by rw [HQ.out, hke]), rfl⟩

set_option maxHeartbeats 2000000 in
theorem i_AreDims (n : Int) (vf vt vd : Value) (lf lt ld : List Int) (w : World) (hf : Ints w vf lf) (ht : Ints w vt lt) (hd : Ints w vd ld) :
    Calls Try.prog 29 #[.agg #[.int .i64 n, vf, vt], vd] w (BoolAnsB (areD n lf lt ld) w) := by
  obtain ⟨a1, c1, rfl, hl1, hm1⟩ := hf.shape
  obtain ⟨a2, c2, rfl, hl2, hm2⟩ := ht.shape
  obtain ⟨a3, c3, rfl, hl3, hm3⟩ := hd.shape
  have h2 : Below w.heap.size w (w.alloc (.cells #[.int .i64 n, .slice a1 lf.length c1, .slice a2 lt.length c2] 34)) := (Below.refl _ w).alloc (Nat.le_refl _) _
  have P0 := Lib.hid (Blk.new w #[.int .i64 n, .slice a1 lf.length c1, .slice a2 lt.length c2] 34)
  have HF := Lib.hid (hf.below h2); have HT := Lib.hid (ht.below h2); have HD := Lib.hid (hd.below h2)
  have H2 := Lib.hid h2
  clear hf ht hd h2
  go_enter Try.func29, Try.ntmps29
  obtain ⟨p0, p1, p2⟩ := blk3 P0.out
  go_wp2_with fail
  refine (i_IsQuiver _ _ _ lf lt _ HF.out HT.out).mono ?_; rintro e w1 ⟨rfl, b1⟩
  have hb3 := Lib.hid (below_call H2.out b1 H2.out.size)
  obtain ⟨r0, r1, r2⟩ := blk3 (P0.out.below b1)
  have HD1 := Lib.hid (HD.out.below b1)
  clear p0 p1 p2
  cases hQ : isQ n lf lt
  · have HA := Lib.hid (show areD n lf lt ld = false by simp [areD, hQ])
    go_wp2
    go_ret
    exact ⟨ret_bool HA.out.symm, hb3.out⟩
  obtain ⟨n1, n5⟩ := isQ_n hQ
  by_cases hn : (ld.length : Int) = n
  rotate_left
  · have HA := Lib.hid (show areD n lf lt ld = false by simp [areD, hn])
    have hnb : ((ld.length : Int) == n) = false := by simpa using hn
    clear hn
    go_wp2
    go_ret
    exact ⟨ret_bool HA.out.symm, hb3.out⟩
  have hnb : ((ld.length : Int) == n) = true := by simpa using hn
  have HA := Lib.hid (show areD n lf lt ld = (allR ld 0 4 && decide (sumP ld ld.length ≤ 8)) by simp [areD, hQ, hn])
  have hl5 : ld.length ≤ 5 := by omega
  clear hn
  go_wp2_with fail
  refine (i_allWithin _ ld _ _ _ HD1.out).mono ?_; rintro e w2 ⟨rfl, b2⟩
  have hb4 := Lib.hid (below_call hb3.out b2 hb3.out.size)
  have HD2 := Lib.hid (HD1.out.below b2)
  cases ha : (ld.all fun x => inR x 0 4)
  · have HA' := Lib.hid (show areD n lf lt ld = false by rw [HA.out]; unfold allR; rw [ha]; rfl)
    go_wp2
    go_ret
    exact ⟨ret_bool HA'.out.symm, hb4.out⟩
  have HR : allR ld 0 4 = true := ha
  have HA' := Lib.hid (show areD n lf lt ld = decide (sumP ld ld.length ≤ 8) by rw [HA.out, HR]; rfl)
  go_wp2_with fail
  refine (i_sumOf _ ld _ HD2.out HR hl5).mono ?_; rintro e w3 ⟨rfl, rfl⟩
  obtain ⟨q, hq⟩ : ∃ q, q = sumP ld ld.length := ⟨_, rfl⟩
  rw [← hq]
  rw [← hq] at HA'
  clear hq
  by_cases h8 : q ≤ 8
  · have hd8 : decide (q ≤ 8) = true := by simpa using h8
    go_wp2
    go_ret
    exact ⟨ret_bool (by rw [HA'.out]; exact hd8.symm), hb4.out⟩
  · have hd8 : decide (q ≤ 8) = false := by simpa using h8
    go_wp2
    go_ret
    exact ⟨ret_bool (by rw [HA'.out]; exact hd8.symm), hb4.out⟩

set_option maxHeartbeats 2000000 in
theorem s_AreDims (n : Int) (vf vt vd : Value) (lf lt ld : List Int) (w : World) (hf : Ints w vf lf) (ht : Ints w vt lt) (hd : Ints w vd ld) :
    Calls Try.prog 27 #[.agg #[.int .i64 n, vf, vt], vd] w (BoolAnsB (areD n lf lt ld) w) := by
  obtain ⟨a1, c1, rfl, hl1, hm1⟩ := hf.shape
  obtain ⟨a2, c2, rfl, hl2, hm2⟩ := ht.shape
  obtain ⟨a3, c3, rfl, hl3, hm3⟩ := hd.shape
  have h2 : Below w.heap.size w (w.alloc (.cells #[.int .i64 n, .slice a1 lf.length c1, .slice a2 lt.length c2] 34)) := (Below.refl _ w).alloc (Nat.le_refl _) _
  have P0 := Lib.hid (Blk.new w #[.int .i64 n, .slice a1 lf.length c1, .slice a2 lt.length c2] 34)
  have HF := Lib.hid (hf.below h2); have HT := Lib.hid (ht.below h2); have HD := Lib.hid (hd.below h2)
  have H2 := Lib.hid h2
  clear hf ht hd h2
  go_enter Try.func27, Try.ntmps27
  obtain ⟨p0, p1, p2⟩ := blk3 P0.out
  go_wp2_with fail
  refine (s_IsQuiver _ _ _ lf lt _ HF.out HT.out).mono ?_; rintro e w1 ⟨rfl, b1⟩
  have hb3 := Lib.hid (below_call H2.out b1 H2.out.size)
  obtain ⟨r0, r1, r2⟩ := blk3 (P0.out.below b1)
  have hD1 := HD.out.below b1
  clear p0 p1 p2
  cases hQ : isQ n lf lt
  · have HA := Lib.hid (show areD n lf lt ld = false by simp [areD, hQ])
    go_wp2
    go_ret
    exact ⟨ret_bool HA.out.symm, hb3.out⟩
  obtain ⟨n1, n5⟩ := isQ_n hQ
  by_cases hn : (ld.length : Int) = n
  rotate_left
  · have HA := Lib.hid (show areD n lf lt ld = false by simp [areD, hn])
    have hnb : ((ld.length : Int) != n) = true := by simpa using hn
    clear hn hD1
    go_wp2
    go_ret
    exact ⟨ret_bool HA.out.symm, hb3.out⟩
  have hnb : ((ld.length : Int) != n) = false := by simpa using hn
  have HA := Lib.hid (show areD n lf lt ld = (allR ld 0 4 && decide (sumP ld ld.length ≤ 8)) by simp [areD, hQ, hn])
  have hl5 : ld.length ≤ 5 := by omega
  have HN := Lib.hid hn
  clear hn
  go_wp2
  go_loop [5, 6] (fun s i => ∃ (k : Nat) (q : Int), k ≤ ld.length ∧ i = .int .i64 k ∧ s = .int .i64 q ∧ q = sumP ld k ∧ ∀ j, j < k → inR (ld.getD j 0) 0 4 = true) (fun _ i => ld.length - (intOf i).toNat)
  case atStart => exact ⟨0, 0, Nat.zero_le _, rfl, rfl, rfl, fun j hj => absurd hj (by omega)⟩
  case round =>
    obtain ⟨k, q, hk, rfl, rfl, hq, hall⟩ := hrel
    have HQ := Lib.hid hq
    obtain ⟨q0, q4⟩ := sumP_bd hall
    rw [← hq] at q0 q4
    have HL := Lib.hid hall
    clear hq hall
    by_cases hlt : k < ld.length
    · obtain ⟨g, off, rfl, hgs, hc, _⟩ := hD1.cell hlt
      obtain ⟨x, hx⟩ := elem_name ld k
      rw [hx] at hc
      have HX := Lib.hid hx; clear hx
      cases hq : inR x 0 4
      · have HA' := Lib.hid (show areD n lf lt ld = false by rw [HA.out, allR_no hlt (by rw [HX.out]; exact hq)]; rfl)
        go_wp2_with fail
        refine (s_l1In _ _ _ _).mono ?_; rintro e wz ⟨rfl, rfl⟩
        go_wp2
        go_ret
        exact ⟨ret_bool HA'.out.symm, hb3.out⟩
      · obtain ⟨x0, x4⟩ := inR_true hq
        go_wp2_with fail
        refine (s_l1In _ _ _ _).mono ?_; rintro e wz ⟨rfl, rfl⟩
        go_wp2
        go_round
        case rel => exact ⟨k + 1, q + x, by omega, by go_num, rfl, by simp only [sumP]; rw [HQ.out, HX.out], fun j hj => by
          by_cases h : j = k
          · rw [h, HX.out]; exact hq
          · exact HL.out j (by omega)⟩
        case measure => simp [intOf]; omega
    · have hke : k = ld.length := by omega
      have HA' := Lib.hid (show areD n lf lt ld = decide (q ≤ 8) by rw [HA.out, allR_of (fun j hj => HL.out j (by omega)), HQ.out, hke]; rfl)
      by_cases h8 : q ≤ 8
      · have hd8 : decide (q ≤ 8) = true := by simpa using h8
        go_wp2
        go_ret
        exact ⟨ret_bool (by rw [HA'.out]; exact hd8.symm), hb3.out⟩
      · have hd8 : decide (q ≤ 8) = false := by simpa using h8
        go_wp2
        go_ret
        exact ⟨ret_bool (by rw [HA'.out]; exact hd8.symm), hb3.out⟩

end Go.Proofs.Ytbkebmeanalkjaa
