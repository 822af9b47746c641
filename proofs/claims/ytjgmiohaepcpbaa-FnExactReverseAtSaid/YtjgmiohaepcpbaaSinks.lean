/- Sources and sinks, of the program and of the reference; the search of the slices package for one number. -/
import Derived.Test.YtjgmiohaepcpbaaIsQuiv
namespace Go.Proofs.Ytjgmiohaepcpbaa
open Go.RowKit
set_option linter.unusedVariables false

/-- the number stands in the list -/
def memI (x : Int) (l : List Int) : Bool := l.any fun y => x == y
theorem memI_hit {x : Int} {l : List Int} {j : Nat} (hj : j < l.length) (h : l.getD j 0 = x) : memI x l = true := by
  unfold memI
  rw [List.any_eq_true]
  have e : l[j] = x := by simpa [List.getD, hj] using h
  exact ⟨l[j], List.getElem_mem hj, by simp [e]⟩
theorem memI_no {x : Int} {l : List Int} (h : ∀ j, j < l.length → (x == l.getD j 0) = false) : memI x l = false := by
  unfold memI
  rw [List.any_eq_false]
  intro y hy
  obtain ⟨j, hj, rfl⟩ := List.mem_iff_getElem.1 hy
  have := h j hj
  simpa [List.getD, hj] using this
/-- the numbers below k that do not stand in the list -/
def freeP (l : List Int) : Nat → List Int
  | 0 => []
  | k + 1 => if memI k l = true then freeP l k else freeP l k ++ [(k : Int)]
theorem freeP_len (l : List Int) (k : Nat) : (freeP l k).length ≤ k := by
  induction k with
  | zero => simp [freeP]
  | succ k ih => 
    simp only [freeP]
    split
    · omega
    · rw [List.length_append]; simp; omega
theorem freeP_in {l : List Int} {k : Nat} (h : memI k l = true) : freeP l (k + 1) = freeP l k := by simp [freeP, h]
theorem freeP_out {l : List Int} {k : Nat} (h : memI k l = false) : freeP l (k + 1) = freeP l k ++ [(k : Int)] := by simp [freeP, h]

set_option maxHeartbeats 400000 in
theorem s_l4Has (v : Value) (l : List Int) (x : Int) (w : World) (hv : Ints w v l) :
    Calls Try.prog 42 #[v, .int .i64 x] w (BoolAns (memI x l) w) := by
  obtain ⟨a, cap, rfl, hlc, hcm⟩ := hv.shape
  go_enter Try.func42, Try.ntmps42
  go_wp2
  go_loop [5] (fun i => ∃ k : Nat, k ≤ l.length ∧ i = .int .i64 k ∧ ∀ j, j < k → (x == l.getD j 0) = false) (fun i => l.length - (intOf i).toNat)
  case atStart => exact ⟨0, Nat.zero_le _, rfl, fun j hj => absurd hj (by omega)⟩
  case round =>
    obtain ⟨k, hk, rfl, hno⟩ := hrel
    have HN := Lib.hid hno; clear hno
    by_cases hlt : k < l.length
    · obtain ⟨g, off, rfl, hgs, hc, hf⟩ := hv.cell hlt
      obtain ⟨y, hy⟩ := elem_named l k
      rw [hy] at hc
      have HY := Lib.hid hy; clear hy
      by_cases hq : y = x
      · have HQ := Lib.hid (memI_hit hlt (show l.getD k 0 = x by rw [HY.out, hq]))
        have hqb : (y == x) = true := by simpa using hq
        clear hq
        go_wp2
        go_ret
        exact ⟨ret_bool HQ.out.symm, rfl⟩
      · have HQ := Lib.hid (show (x == y) = false by simp; exact fun h => hq h.symm)
        have hqb : (y == x) = false := by simpa using hq
        clear hq
        go_wp2
        go_round
        case rel => exact ⟨k + 1, by omega, by go_num, fun j hj => by
          by_cases h : j = k
          · rw [h, HY.out]; exact HQ.out
          · exact HN.out j (by omega)⟩
        case measure => simp [intOf]; omega
    · go_wp2
      go_ret
      exact ⟨ret_bool (memI_no (fun j hj => HN.out j (by omega))).symm, rfl⟩

set_option maxHeartbeats 400000 in
theorem Index_ints (v : Value) (l : List Int) (x : Int) (w : World) (hv : Ints w v l) :
    Calls Try.prog 70 #[v, .int .i64 x] w (IntAns (findI (fun y => x == y) l) w) := by
  obtain ⟨a, cap, rfl, hlc, hcm⟩ := hv.shape
  go_enter Try.func70, Try.ntmps70
  go_wp2
  go_loop [8] (fun i => ∃ k : Nat, k ≤ l.length ∧ i = .int .i64 k ∧ ∀ j, j < k → (x == l.getD j 0) = false) (fun i => l.length - (intOf i).toNat)
  case atStart => exact ⟨0, Nat.zero_le _, rfl, fun j hj => absurd hj (by omega)⟩
  case round =>
    obtain ⟨k, hk, rfl, hno⟩ := hrel
    have HN := Lib.hid hno; clear hno
    by_cases hlt : k < l.length
    · obtain ⟨g, off, rfl, hgs, hc, hf⟩ := hv.cell hlt
      obtain ⟨y, hy⟩ := elem_named l k
      rw [hy] at hc
      have HY := Lib.hid hy; clear hy
      by_cases hq : (x == y) = true
      · have HQ := Lib.hid (findI_hit (f := fun y => x == y) hlt HN.out (by rw [HY.out]; exact hq))
        go_wp2
        go_ret
        exact ⟨ret_int HQ.out.symm, rfl⟩
      · have hq : (x == y) = false := by simpa using hq
        have HQ := Lib.hid hq
        go_wp2
        go_round
        case rel => exact ⟨k + 1, by omega, by go_num, fun j hj => by
          by_cases h : j = k
          · rw [h, HY.out]; exact HQ.out
          · exact HN.out j (by omega)⟩
        case measure => simp [intOf]; omega
    · go_wp2
      go_ret
      exact ⟨ret_int (findI_none (f := fun y => x == y) (fun j hj => HN.out j (by omega))).symm, rfl⟩

set_option maxHeartbeats 400000 in
theorem Contains_ints (v : Value) (l : List Int) (x : Int) (w : World) (hv : Ints w v l) :
    Calls Try.prog 45 #[v, .int .i64 x] w (BoolAns (memI x l) w) := by
  obtain ⟨a, cap, rfl, hlc, hcm⟩ := hv.shape
  go_enter Try.func45, Try.ntmps45
  go_wp2_with fail
  refine (Index_ints _ l _ _ hv).mono ?_; rintro e wz ⟨rfl, rfl⟩
  have HA := Lib.hid (findI_any (fun y => x == y) l)
  generalize findI (fun y => x == y) l = q at HA
  by_cases hq : 0 ≤ q
  · have hd : decide (0 ≤ q) = true := by simpa using hq
    rw [hd] at HA
    go_wp2
    go_ret
    exact ⟨ret_bool HA.out, rfl⟩
  · have hd : decide (0 ≤ q) = false := by simpa using hq
    rw [hd] at HA
    go_wp2
    go_ret
    exact ⟨ret_bool HA.out, rfl⟩


/-- the vertices that do not stand among the ends given -/
def endsQ (n : Int) (f t l : List Int) : List Int := if isQ n f t = true then freeP l n.toNat else []
theorem endsQ_len (n : Int) (f t l : List Int) : (endsQ n f t l).length ≤ 5 := by
  unfold endsQ
  split
  · rename_i h
    unfold isQ at h
    simp only [Bool.and_eq_true] at h
    have h1 := inR_true h.1.1.1.1
    have := freeP_len l n.toNat
    omega
  · simp
theorem isQ_n' {n : Int} {f t : List Int} (h : isQ n f t = true) : 1 ≤ n ∧ n ≤ 5 := by
  unfold isQ at h
  simp only [Bool.and_eq_true] at h
  exact inR_true h.1.1.1.1


set_option maxHeartbeats 2000000 in
theorem s_SinksOf (n : Int) (vf vt : Value) (lf lt : List Int) (w : World) (hf : Ints w vf lf) (ht : Ints w vt lt) :
    Calls Try.prog 51 #[.agg #[.int .i64 n, vf, vt]] w (IntsNew (endsQ n lf lt lf) w) := by
  have HLF := Lib.hid hf.lt; have HLT := Lib.hid ht.lt
  obtain ⟨a1, c1, rfl, hl1, hm1⟩ := hf.shape
  obtain ⟨a2, c2, rfl, hl2, hm2⟩ := ht.shape
  have h2 : Below w.heap.size w (w.alloc (.cells #[.int .i64 n, .slice a1 lf.length c1, .slice a2 lt.length c2] 27)) := (Below.refl _ w).alloc (Nat.le_refl _) _
  have P0 := Lib.hid (Blk.new w #[.int .i64 n, .slice a1 lf.length c1, .slice a2 lt.length c2] 27)
  have HF := Lib.hid (hf.below h2); have HT := Lib.hid (ht.below h2)
  have H2 := Lib.hid h2
  clear hf ht h2
  obtain ⟨W, hW⟩ : ∃ W, W = w.alloc (.cells #[.int .i64 n, .slice a1 lf.length c1, .slice a2 lt.length c2] 27) := ⟨_, rfl⟩
  obtain ⟨B, hB⟩ : ∃ B, B = w.heap.size + 1 := ⟨_, rfl⟩
  have hB0 : W.heap.size = B := by rw [hW, hB]; simp
  rw [← hW] at P0 HF HT H2
  have hBw : w.heap.size + 1 ≤ B := by omega
  have hBW : B ≤ W.heap.size := by omega
  have HBw := Lib.hid hBw; have HBW := Lib.hid hBW
  have HW := Lib.hid hW
  have hWs : W.heap.size = w.heap.size + 1 := by rw [hW]; simp
  have HWs := Lib.hid hWs
  have HQ0 := Lib.hid (show isQ n lf lt = true → 1 ≤ n ∧ n ≤ 5 from isQ_n')
  clear hW hB hB0 hBw hBW hWs
  go_enter Try.func51, Try.ntmps51
  go_wp2
  rw [← HW.out]
  go_loopw [3, 4] (fun s i wr => ∃ (k : Nat), (k : Int) ≤ max n 0 ∧ (isQ n lf lt = false → k = 0) ∧ i = .int .i64 k ∧ Own wr B 3 .i64 s (freeP lf k) ∧ Below B W wr ∧ B ≤ wr.heap.size) (fun _ i _ => n.toNat - (intOf i).toNat)
  case atStart => exact ⟨0, by simp; omega, fun _ => rfl, rfl, by rw [← HWs.out]; exact Own.made W _ _ HBW.out, (Below.refl B W).alloc HBW.out _, by have := HBW.out; simp; omega⟩
  case round =>
    obtain ⟨k, hk, hk0, rfl, hown, hbel, hBr⟩ := hrel
    have HO := Lib.hid hown; have HBel := Lib.hid hbel; have HK := Lib.hid hk; have HK0 := Lib.hid hk0
    obtain ⟨r0, r1, r2⟩ := blk3 (P0.out.belowB hbel (by have := HBw.out; omega))
    have HF1 := Lib.hid (HF.out.belowB hbel (fun q hq => by have := HLF.out q hq; have := HBw.out; omega))
    have HT1 := Lib.hid (HT.out.belowB hbel (fun q hq => by have := HLT.out q hq; have := HBw.out; omega))
    have PB := Lib.hid (P0.out.belowB hbel (by have := HBw.out; omega))
    clear hown hbel hk hk0
    by_cases hlt : (k : Int) < n
    · cases hQ : isQ n lf lt
      · have hk0 := HK0.out hQ
        subst hk0
        have HA := Lib.hid (show endsQ n lf lt lf = freeP lf 0 by simp [endsQ, hQ, freeP])
        go_wp2_with fail
        refine (s_IsQuiver _ _ _ lf lt _ HF1.out HT1.out).mono ?_; rintro e w1 ⟨rfl, b1⟩
        go_wp2
        go_ret
        obtain ⟨hi, hfr⟩ := Ints.of_own (HO.out.below b1)
        exact ⟨_, rfl, by rw [HA.out]; exact hi, hfr.mono (by have := HBw.out; omega), H2.out.trans ((HBel.out.trans (b1.mono hBr)).mono (by have := HBw.out; omega))⟩
      · obtain ⟨n1, n5⟩ := HQ0.out hQ
        have hfl := freeP_len lf k
        go_wp2_with fail
        refine (s_IsQuiver _ _ _ lf lt _ HF1.out HT1.out).mono ?_; rintro e w1 ⟨rfl, b1⟩
        have HO1 := Lib.hid (HO.out.below b1)
        have HBel1 := Lib.hid (HBel.out.trans (b1.mono hBr))
        have hBr1 : B ≤ w1.heap.size := Nat.le_trans hBr b1.size
        have HV1 := Lib.hid (HF1.out.below b1)
        clear r0 r1 r2
        obtain ⟨r0, r1, r2⟩ := blk3 (PB.out.below b1)
        rw [hQ]
        cases hm : memI k lf
        · have HM := Lib.hid (freeP_out hm)
          go_wp2_with fail
          refine (s_l4Has _ lf _ _ HV1.out).mono ?_; rintro e wz ⟨rfl, rfl⟩
          rw [hm]
          go_wp2_with (at_builtin; refine app_int W w1 rfl (.tmp 21) (.tmp 23) rfl B _ (freeP lf k) rfl rfl HO1.out HBel1.out hBr1 (by omega) ?_)
          intro v' w' hown' hbel' hB'
          go_wp2
          go_roundw
          case rel => exact ⟨k + 1, by omega, fun h => by simp at h, by go_num, by rw [HM.out]; exact hown', hbel', hB'⟩
          case measure => simp [intOf]; omega
        · have HM := Lib.hid (freeP_in hm)
          go_wp2_with fail
          refine (s_l4Has _ lf _ _ HV1.out).mono ?_; rintro e wz ⟨rfl, rfl⟩
          rw [hm]
          go_wp2
          go_roundw
          case rel => exact ⟨k + 1, by omega, fun h => by simp at h, by go_num, by rw [HM.out]; exact HO1.out, HBel1.out, hBr1⟩
          case measure => simp [intOf]; omega
    · have HA : Hid (endsQ n lf lt lf = freeP lf k) := Lib.hid (by
        unfold endsQ
        cases hQ : isQ n lf lt
        · rw [HK0.out hQ]; simp [freeP]
        · obtain ⟨n1, n5⟩ := HQ0.out hQ
          have := HK.out
          rw [if_pos rfl, show n.toNat = k by omega])
      have hd : decide ((k : Int) < n) = false := by simpa using hlt
      go_wp2
      go_ret
      obtain ⟨hi, hfr⟩ := Ints.of_own HO.out
      exact ⟨_, rfl, by rw [HA.out]; exact hi, hfr.mono (by have := HBw.out; omega), H2.out.trans (HBel.out.mono (by have := HBw.out; omega))⟩


set_option maxHeartbeats 2000000 in
theorem s_SourcesOf (n : Int) (vf vt : Value) (lf lt : List Int) (w : World) (hf : Ints w vf lf) (ht : Ints w vt lt) :
    Calls Try.prog 50 #[.agg #[.int .i64 n, vf, vt]] w (IntsNew (endsQ n lf lt lt) w) := by
  have HLF := Lib.hid hf.lt; have HLT := Lib.hid ht.lt
  obtain ⟨a1, c1, rfl, hl1, hm1⟩ := hf.shape
  obtain ⟨a2, c2, rfl, hl2, hm2⟩ := ht.shape
  have h2 : Below w.heap.size w (w.alloc (.cells #[.int .i64 n, .slice a1 lf.length c1, .slice a2 lt.length c2] 27)) := (Below.refl _ w).alloc (Nat.le_refl _) _
  have P0 := Lib.hid (Blk.new w #[.int .i64 n, .slice a1 lf.length c1, .slice a2 lt.length c2] 27)
  have HF := Lib.hid (hf.below h2); have HT := Lib.hid (ht.below h2)
  have H2 := Lib.hid h2
  clear hf ht h2
  obtain ⟨W, hW⟩ : ∃ W, W = w.alloc (.cells #[.int .i64 n, .slice a1 lf.length c1, .slice a2 lt.length c2] 27) := ⟨_, rfl⟩
  obtain ⟨B, hB⟩ : ∃ B, B = w.heap.size + 1 := ⟨_, rfl⟩
  have hB0 : W.heap.size = B := by rw [hW, hB]; simp
  rw [← hW] at P0 HF HT H2
  have hBw : w.heap.size + 1 ≤ B := by omega
  have hBW : B ≤ W.heap.size := by omega
  have HBw := Lib.hid hBw; have HBW := Lib.hid hBW
  have HW := Lib.hid hW
  have hWs : W.heap.size = w.heap.size + 1 := by rw [hW]; simp
  have HWs := Lib.hid hWs
  have HQ0 := Lib.hid (show isQ n lf lt = true → 1 ≤ n ∧ n ≤ 5 from isQ_n')
  clear hW hB hB0 hBw hBW hWs
  go_enter Try.func50, Try.ntmps50
  go_wp2
  rw [← HW.out]
  go_loopw [3, 4] (fun s i wr => ∃ (k : Nat), (k : Int) ≤ max n 0 ∧ (isQ n lf lt = false → k = 0) ∧ i = .int .i64 k ∧ Own wr B 3 .i64 s (freeP lt k) ∧ Below B W wr ∧ B ≤ wr.heap.size) (fun _ i _ => n.toNat - (intOf i).toNat)
  case atStart => exact ⟨0, by simp; omega, fun _ => rfl, rfl, by rw [← HWs.out]; exact Own.made W _ _ HBW.out, (Below.refl B W).alloc HBW.out _, by have := HBW.out; simp; omega⟩
  case round =>
    obtain ⟨k, hk, hk0, rfl, hown, hbel, hBr⟩ := hrel
    have HO := Lib.hid hown; have HBel := Lib.hid hbel; have HK := Lib.hid hk; have HK0 := Lib.hid hk0
    obtain ⟨r0, r1, r2⟩ := blk3 (P0.out.belowB hbel (by have := HBw.out; omega))
    have HF1 := Lib.hid (HF.out.belowB hbel (fun q hq => by have := HLF.out q hq; have := HBw.out; omega))
    have HT1 := Lib.hid (HT.out.belowB hbel (fun q hq => by have := HLT.out q hq; have := HBw.out; omega))
    have PB := Lib.hid (P0.out.belowB hbel (by have := HBw.out; omega))
    clear hown hbel hk hk0
    by_cases hlt : (k : Int) < n
    · cases hQ : isQ n lf lt
      · have hk0 := HK0.out hQ
        subst hk0
        have HA := Lib.hid (show endsQ n lf lt lt = freeP lt 0 by simp [endsQ, hQ, freeP])
        go_wp2_with fail
        refine (s_IsQuiver _ _ _ lf lt _ HF1.out HT1.out).mono ?_; rintro e w1 ⟨rfl, b1⟩
        go_wp2
        go_ret
        obtain ⟨hi, hfr⟩ := Ints.of_own (HO.out.below b1)
        exact ⟨_, rfl, by rw [HA.out]; exact hi, hfr.mono (by have := HBw.out; omega), H2.out.trans ((HBel.out.trans (b1.mono hBr)).mono (by have := HBw.out; omega))⟩
      · obtain ⟨n1, n5⟩ := HQ0.out hQ
        have hfl := freeP_len lt k
        go_wp2_with fail
        refine (s_IsQuiver _ _ _ lf lt _ HF1.out HT1.out).mono ?_; rintro e w1 ⟨rfl, b1⟩
        have HO1 := Lib.hid (HO.out.below b1)
        have HBel1 := Lib.hid (HBel.out.trans (b1.mono hBr))
        have hBr1 : B ≤ w1.heap.size := Nat.le_trans hBr b1.size
        have HV1 := Lib.hid (HT1.out.below b1)
        clear r0 r1 r2
        obtain ⟨r0, r1, r2⟩ := blk3 (PB.out.below b1)
        rw [hQ]
        cases hm : memI k lt
        · have HM := Lib.hid (freeP_out hm)
          go_wp2_with fail
          refine (s_l4Has _ lt _ _ HV1.out).mono ?_; rintro e wz ⟨rfl, rfl⟩
          rw [hm]
          go_wp2_with (at_builtin; refine app_int W w1 rfl (.tmp 21) (.tmp 23) rfl B _ (freeP lt k) rfl rfl HO1.out HBel1.out hBr1 (by omega) ?_)
          intro v' w' hown' hbel' hB'
          go_wp2
          go_roundw
          case rel => exact ⟨k + 1, by omega, fun h => by simp at h, by go_num, by rw [HM.out]; exact hown', hbel', hB'⟩
          case measure => simp [intOf]; omega
        · have HM := Lib.hid (freeP_in hm)
          go_wp2_with fail
          refine (s_l4Has _ lt _ _ HV1.out).mono ?_; rintro e wz ⟨rfl, rfl⟩
          rw [hm]
          go_wp2
          go_roundw
          case rel => exact ⟨k + 1, by omega, fun h => by simp at h, by go_num, by rw [HM.out]; exact HO1.out, HBel1.out, hBr1⟩
          case measure => simp [intOf]; omega
    · have HA : Hid (endsQ n lf lt lt = freeP lt k) := Lib.hid (by
        unfold endsQ
        cases hQ : isQ n lf lt
        · rw [HK0.out hQ]; simp [freeP]
        · obtain ⟨n1, n5⟩ := HQ0.out hQ
          have := HK.out
          rw [if_pos rfl, show n.toNat = k by omega])
      have hd : decide ((k : Int) < n) = false := by simpa using hlt
      go_wp2
      go_ret
      obtain ⟨hi, hfr⟩ := Ints.of_own HO.out
      exact ⟨_, rfl, by rw [HA.out]; exact hi, hfr.mono (by have := HBw.out; omega), H2.out.trans (HBel.out.mono (by have := HBw.out; omega))⟩

end Go.Proofs.Ytjgmiohaepcpbaa
