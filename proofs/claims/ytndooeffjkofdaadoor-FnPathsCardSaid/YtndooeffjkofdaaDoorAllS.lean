/- AllPaths and LongestPath, of the reference. -/
import Derived.Test.YtndooeffjkofdaaDoorL7
import Derived.Test.YtndooeffjkofdaaDoorMg3
namespace Go.Proofs.YtndooeffjkofdaaDoor
open Go.RowKit
set_option linter.unusedVariables false
set_option linter.unusedSimpArgs false

set_option maxRecDepth 100000 in
set_option maxHeartbeats 2000000 in
theorem s_AllPaths (n : Int) (vf vt : Value) (f t : List Int) (w : World) (hf : Ints w vf f) (ht : Ints w vt t) :
    Calls Tryd.prog 13 #[.agg #[.int .i64 n, vf, vt]] w (PtsOK (allR2 n f t) (ordOK n f t) w) := by
  obtain ⟨a1, c1, rfl, hl1, hm1⟩ := hf.shape
  obtain ⟨a2, c2, rfl, hl2, hm2⟩ := ht.shape
  have h2 : Below w.heap.size w (w.alloc (.cells #[.int .i64 n, .slice a1 f.length c1, .slice a2 t.length c2] 26)) := (Below.refl _ w).alloc (Nat.le_refl _) _
  have h2' : Below (w.heap.size + 1) (w.alloc (.cells #[.int .i64 n, .slice a1 f.length c1, .slice a2 t.length c2] 26)) ((w.alloc (.cells #[.int .i64 n, .slice a1 f.length c1, .slice a2 t.length c2] 26)).alloc (.cells #[] 28)) := (Below.refl _ _).alloc (by simp) _
  have P0 := Lib.hid (Blk.new w #[.int .i64 n, .slice a1 f.length c1, .slice a2 t.length c2] 26)
  obtain ⟨W, hW⟩ : ∃ W, W = w.alloc (.cells #[.int .i64 n, .slice a1 f.length c1, .slice a2 t.length c2] 26) := ⟨_, rfl⟩
  have hWs : W.heap.size = w.heap.size + 1 := by rw [hW]; simp
  have HF := Lib.hid (hf.below h2); have HT := Lib.hid (ht.below h2)
  have HE0 : OwnP (W.alloc (.cells #[] 28)) (w.heap.size + 1) (.slice (some ⟨w.heap.size + 1, 0, none⟩) 0 0) [] := by
    rw [← hWs]
    exact ⟨[], World.ownsRow_lit (size := 2) (e := 28) (base := W.heap.size) W #[] 0 (Nat.le_refl _) (by decide) rfl, trivial⟩
  rw [hW] at HE0
  have HE := Lib.hid HE0
  have H2 := Lib.hid h2; have H2' := Lib.hid h2'
  clear hf ht h2 h2' hWs HE0 hW W
  go_enter Tryd.func13, Tryd.ntmps13
  have P1 := P0.out.below ((Below.refl _ (w.alloc (.cells #[.int .i64 n, .slice a1 f.length c1, .slice a2 t.length c2] 26))).alloc (Nat.le_refl _) (.cells #[] 28))
  have HF1 := Lib.hid (HF.out.below ((Below.refl _ (w.alloc (.cells #[.int .i64 n, .slice a1 f.length c1, .slice a2 t.length c2] 26))).alloc (Nat.le_refl _) (.cells #[] 28)))
  have HT1 := Lib.hid (HT.out.below ((Below.refl _ (w.alloc (.cells #[.int .i64 n, .slice a1 f.length c1, .slice a2 t.length c2] 26))).alloc (Nat.le_refl _) (.cells #[] 28)))
  obtain ⟨p0, p1, p2⟩ := blk3 P1
  have HP1 := Lib.hid P1
  clear P1
  go_wp2_with fail
  refine (s_IsAcyclic _ _ _ f t _ HF1.out HT1.out).mono ?_; rintro e w1 ⟨rfl, b1⟩
  have HB1 := Lib.hid (H2'.out.trans (b1.mono (by simp)))
  have HO1 := Lib.hid (HE.out.below b1)
  have hs1 : w.heap.size + 1 + 1 ≤ w1.heap.size := by have := b1.size; simpa using this
  have HP := Lib.hid (HP1.out.below b1)
  have HF2 := Lib.hid (HF1.out.below b1); have HT2 := Lib.hid (HT1.out.below b1)
  have HBw := Lib.hid (H2.out.trans (HB1.out.mono (by omega)))
  clear b1 p0 p1 p2
  cases hq : ordOK n f t
  · have HN := Lib.hid (allR2_no hq)
    go_wp2
    go_ret2
    exact PtsOK.of_eq ⟨_, rfl, HO1.out.mono (by omega), HBw.out⟩ HN.out.symm hq.symm
  have hq2 := hq
  unfold ordOK at hq2
  simp only [Bool.and_eq_true] at hq2
  obtain ⟨hisq, hgo⟩ := hq2
  obtain ⟨n1, n5⟩ := isQ_n' hisq
  obtain ⟨N, rfl⟩ := Int.eq_ofNat_of_zero_le (show 0 ≤ n by omega)
  have hgo : ordGo f t N = true := hgo
  obtain ⟨_, htN, hlen, h6, _, _⟩ := isQ_all hisq
  have HR := Lib.hid (show allR2 N f t = allP f t N by unfold allR2; rw [if_pos hq]; rfl)
  have HOK := Lib.hid hq
  have HGO := Lib.hid (And.intro hgo (And.intro hlen htN))
  have HSM := Lib.hid (fun k => allP_small (f := f) (t := t) h6 k)
  have HPS := Lib.hid (fun v => pP_small (f := f) (t := t) h6 v)
  have hN5 : N ≤ 5 := by omega
  have HBase := Lib.hid (Below.refl w1.heap.size w1)
  clear hq hisq hgo htN hlen n1 n5
  go_wp2
  go_loopw [4, 5] (fun s i wr => ∃ k : Nat, k ≤ N ∧ i = .int .i64 k ∧ OwnP wr (w.heap.size + 1) s (allP f t k) ∧ Below (w.heap.size + 1) w1 wr) (fun _ i _ => N - (intOf i).toNat)
  case atStart => exact ⟨0, Nat.zero_le _, rfl, HO1.out, Below.refl _ _⟩
  case round =>
    obtain ⟨k, hk, rfl, hos, hbel⟩ := hrel
    obtain ⟨aS, cS, rfl, _, _⟩ := hos.shape
    have HO := Lib.hid hos; have HBel := Lib.hid hbel
    have hBr : w.heap.size + 1 ≤ wr.heap.size := by have := hbel.size; omega
    have HPr := Lib.hid (HP.out.belowB hbel (by omega))
    have HFr := Lib.hid (HF2.out.belowB hbel (fun q hq => by have := HF.out.lt q hq; simpa using this)); have HTr := Lib.hid (HT2.out.belowB hbel (fun q hq => by have := HT.out.lt q hq; simpa using this))
    obtain ⟨p0, p1, p2⟩ := blk3 HPr.out
    clear hos hbel
    by_cases hlt : k < N
    · have hlt' : ((k : Int) < (N : Int)) := by omega
      have hsm := HSM.out k
      have hps := HPS.out (k : Int)
      have hkm : k * 117649 ≤ 5 * 117649 := Nat.mul_le_mul_right _ (by omega)
      have hrk : rkV f t N k N < 6 := by have := rk_le f t N k N; omega
      go_wp2_with fail
      refine (s_l7From HGO.out.1 HGO.out.2.1 h6 HGO.out.2.2 6 k _ _ _ hrk (Nat.le_refl _) HFr.out HTr.out).mono ?_; rintro e w2 ⟨vv, rfl, ho2, b2⟩
      have hvv := ho2.mono (B' := w.heap.size + 1) hBr
      obtain ⟨aL, cL, rfl, _, _⟩ := hvv.shape
      have HO2 := Lib.hid (HO.out.below b2)
      have HBel2 := Lib.hid (HBel.out.trans (b2.mono hBr))
      have hs2 : w.heap.size + 1 ≤ w2.heap.size := by have := b2.size; omega
      have HVV := Lib.hid hvv
      clear ho2 b2 hvv p0 p1 p2
      go_wp2_with (at_builtin; refine app_pts w2 rfl (.tmp 17) (.tmp 20) rfl (w.heap.size + 1) _ _ (allP f t k) (pP f t 6 k) rfl rfl HO2.out HVV.out (pP_pos _ _ _ _) hs2 (by omega) ?_)
      intro v' w' ho' hg' hloc'
      rw [← allP_succ] at ho'
      obtain ⟨a', c', rfl, _, _⟩ := ho'.shape
      have HB' := Lib.hid (HBel2.out.grown hg' hs2 (fun q hq => (HO2.out.ownLt q hq).1))
      have HO' := Lib.hid ho'
      clear ho' hg' hloc'
      go_wp2
      go_roundw
      case rel => exact ⟨k + 1, by omega, by go_num, HO'.out, HB'.out⟩
      case measure => simp [intOf]; omega
    · have hk' : k = N := by omega
      have HQ := Lib.hid (show OwnP wr w.heap.size (.slice aS (allP f t k).length cS) (allR2 N f t) by rw [HR.out, ← hk']; exact HO.out.mono (by omega))
      have HBB := Lib.hid (HBw.out.trans (HBel.out.mono (by omega)))
      clear hk'
      go_wp2
      go_ret2
      exact PtsOK.of_eq ⟨_, rfl, HQ.out, HBB.out⟩ rfl HOK.out.symm

set_option maxRecDepth 100000 in
set_option maxHeartbeats 2000000 in
theorem s_LongestPath (n : Int) (vf vt : Value) (f t : List Int) (w : World) (hf : Ints w vf f) (ht : Ints w vt t) :
    Calls Tryd.prog 15 #[.agg #[.int .i64 n, vf, vt]] w (IntAnsC (lonR n f t) w) := by
  obtain ⟨a1, c1, rfl, hl1, hm1⟩ := hf.shape
  obtain ⟨a2, c2, rfl, hl2, hm2⟩ := ht.shape
  have h2 : Below w.heap.size w (w.alloc (.cells #[.int .i64 n, .slice a1 f.length c1, .slice a2 t.length c2] 26)) := (Below.refl _ w).alloc (Nat.le_refl _) _
  have P0 := Lib.hid (Blk.new w #[.int .i64 n, .slice a1 f.length c1, .slice a2 t.length c2] 26)
  have HF := Lib.hid (hf.below h2); have HT := Lib.hid (ht.below h2)
  have H2 := Lib.hid h2
  clear hf ht h2
  go_enter Tryd.func15, Tryd.ntmps15
  obtain ⟨p0, p1, p2⟩ := blk3 P0.out
  go_wp2_with fail
  refine (s_AllPaths _ _ _ f t _ HF.out HT.out).mono ?_; rintro e w1 ⟨vv, rfl, ho, b1⟩
  obtain ⟨L, hL⟩ : ∃ L, L = allR2 n f t := ⟨_, rfl⟩
  rw [← hL] at ho
  have hsm : L.length ≤ 588245 := by rw [hL]; exact allR2_small
  have HAR := Lib.hid (show ∀ i, i < L.length → (L.getD i (0, [])).2.length ≤ 6 from fun i hi => by rw [hL] at hi ⊢; exact allR2_arr hi)
  have HLR := Lib.hid (show lonR n f t = if ordOK n f t = true then mxP 0 L L.length else -1 by rw [hL]; rfl)
  obtain ⟨aL, cL, rfl, _, _⟩ := ho.shape
  have HO := Lib.hid ho
  have HB := Lib.hid (below_call H2.out b1 H2.out.size)
  clear ho b1 p0 p1 p2 hL
  cases hq : ordOK n f t
  · have HR := Lib.hid (show lonR n f t = -1 by rw [HLR.out, hq]; rfl)
    go_wp2
    go_ret
    exact ⟨ret_int HR.out.symm, HB.out⟩
  have HR := Lib.hid (show lonR n f t = mxP 0 L L.length by rw [HLR.out, hq]; rfl)
  go_wp2
  go_loop [5, 6] (fun m i => ∃ (k : Nat) (y : Int), k ≤ L.length ∧ i = .int .i64 k ∧ m = .int .i64 y ∧ y = mxP 0 L k ∧ 0 ≤ y ∧ y ≤ 6) (fun _ i => L.length - (intOf i).toNat)
  case atStart => exact ⟨0, 0, Nat.zero_le _, rfl, rfl, rfl, by omega, by omega⟩
  case round =>
    obtain ⟨k, y, hk, rfl, rfl, hy, hy0, hy6⟩ := hrel
    have HY := Lib.hid hy
    clear hy
    by_cases hlt : k < L.length
    · obtain ⟨g, u, rfl, _, hgs, hc0, hc1, hu, _⟩ := HO.out.cell hlt
      have har := HAR.out k hlt
      have HST := Lib.hid (show mxP 0 L (k + 1) = if y < ((L.getD k (0, [])).2.length : Int) then ((L.getD k (0, [])).2.length : Int) else y by rw [mxP, ← HY.out])
      obtain ⟨ar, hare⟩ : ∃ ar, ar = (L.getD k (0, [])).2 := ⟨_, rfl⟩
      rw [← hare] at hu har HST
      obtain ⟨aU, cU, rfl, _, _⟩ := hu.shape
      have hk0 : (0 : Int) ≤ (k : Int) := by omega
      have hk1 : (k : Int) < (L.length : Int) := by omega
      clear hare hu hc0
      go_wp2
      go_round
      case rel => exact ⟨k + 1, _, by omega, by go_num, rfl, HST.out.symm, by split <;> omega, by split <;> omega⟩
      case measure => simp [intOf]; omega
    · have hk' : k = L.length := by omega
      have HQ := Lib.hid (show y = lonR n f t by rw [HR.out, HY.out, hk'])
      clear hk'
      go_wp2
      go_ret
      exact ⟨ret_int HQ.out, HB.out⟩
end Go.Proofs.YtndooeffjkofdaaDoor
