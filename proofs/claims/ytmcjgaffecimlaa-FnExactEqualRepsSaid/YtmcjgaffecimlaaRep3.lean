/- Representations: comparison, of the reference. -/
import Derived.Test.YtmcjgaffecimlaaRep2
namespace Go.Proofs.Ytmcjgaffecimlaa
open Go.RowKit
set_option linter.unusedVariables false
set_option linter.unusedSimpArgs false

set_option maxRecDepth 100000 in
set_option maxHeartbeats 2000000 in
theorem s_EqualReps (P n P' n' : Int) (vf vt vd vm vf' vt' vd' vm' : Value) (lf lt ld lf' lt' ld' : List Int) (L L' : List Mt) (w : World) (hf : Ints w vf lf) (ht : Ints w vt lt) (hd : Ints w vd ld) (hm : MatS w vm L) (hf' : Ints w vf' lf') (ht' : Ints w vt' lt') (hd' : Ints w vd' ld') (hm' : MatS w vm' L') :
    Calls Try.prog 22 #[.agg #[.int .i64 P, .int .i64 n, vf, vt, vd, vm], .agg #[.int .i64 P', .int .i64 n', vf', vt', vd', vm']] w (BoolAnsB (eqRp P n lf lt ld L P' n' lf' lt' ld' L') w) := by
  obtain ⟨a1, c1, rfl, _, _⟩ := hf.shape
  obtain ⟨a2, c2, rfl, _, _⟩ := ht.shape
  obtain ⟨a3, c3, rfl, _, _⟩ := hd.shape
  obtain ⟨a4, c4, rfl, _, _⟩ := hm.shape
  obtain ⟨b1, d1, rfl, _, _⟩ := hf'.shape
  obtain ⟨b2, d2, rfl, _, _⟩ := ht'.shape
  obtain ⟨b3, d3, rfl, _, _⟩ := hd'.shape
  obtain ⟨b4, d4, rfl, _, _⟩ := hm'.shape
  have hb : Below w.heap.size w ((w.alloc (.cells #[.int .i64 P, .int .i64 n, .slice a1 lf.length c1, .slice a2 lt.length c2, .slice a3 ld.length c3, .slice a4 L.length c4] 53)).alloc (.cells #[.int .i64 P', .int .i64 n', .slice b1 lf'.length d1, .slice b2 lt'.length d2, .slice b3 ld'.length d3, .slice b4 L'.length d4] 53)) := ((Below.refl _ w).alloc (Nat.le_refl _) _).alloc (by simp) _
  have P0 := Lib.hid ((Blk.new w #[.int .i64 P, .int .i64 n, .slice a1 lf.length c1, .slice a2 lt.length c2, .slice a3 ld.length c3, .slice a4 L.length c4] 53).below ((Below.refl _ (w.alloc (.cells #[.int .i64 P, .int .i64 n, .slice a1 lf.length c1, .slice a2 lt.length c2, .slice a3 ld.length c3, .slice a4 L.length c4] 53))).alloc (Nat.le_refl _) (.cells #[.int .i64 P', .int .i64 n', .slice b1 lf'.length d1, .slice b2 lt'.length d2, .slice b3 ld'.length d3, .slice b4 L'.length d4] 53)))
  have hP1 := Blk.new (w.alloc (.cells #[.int .i64 P, .int .i64 n, .slice a1 lf.length c1, .slice a2 lt.length c2, .slice a3 ld.length c3, .slice a4 L.length c4] 53)) #[.int .i64 P', .int .i64 n', .slice b1 lf'.length d1, .slice b2 lt'.length d2, .slice b3 ld'.length d3, .slice b4 L'.length d4] 53
  rw [World.size_alloc] at hP1
  have P1 := Lib.hid hP1
  have HF := Lib.hid (And.intro (hf.below hb) (And.intro (ht.below hb) (And.intro (hd.below hb) (hm.below hb))))
  have HF' := Lib.hid (And.intro (hf'.below hb) (And.intro (ht'.below hb) (And.intro (hd'.below hb) (hm'.below hb))))
  have HB := Lib.hid hb
  clear hf ht hd hm hf' ht' hd' hm' hb hP1
  by_cases e1 : P = P'
  rotate_left
  · have HE := Lib.hid (show eqRp P n lf lt ld L P' n' lf' lt' ld' L' = false by simp [eqRp, e1])
    have hb2 : (P != P') = true := by rw [bne_iff_ne]; exact e1
    clear e1
    go_enter Try.func22, Try.ntmps22
    go_wp2
    go_ret
    exact ⟨ret_bool HE.out.symm, HB.out⟩
  subst e1
  have hcon := s_EqualQuivers n n' _ _ _ _ lf lt lf' lt' _ HF.out.1 HF.out.2.1 HF'.out.1 HF'.out.2.1
  by_cases e2 : eqQ n lf lt n' lf' lt' = true
  rotate_left
  · have e2 : eqQ n lf lt n' lf' lt' = false := by simpa using e2
    have HE := Lib.hid (show eqRp P n lf lt ld L P n' lf' lt' ld' L' = false by
      unfold eqQ at e2
      rw [decide_eq_false_iff_not] at e2
      unfold eqRp; rw [decide_eq_false_iff_not]; exact fun h => e2 h.2.1)
    rw [e2] at hcon
    clear e2
    go_enter Try.func22, Try.ntmps22
    go_wp2_with fail
    refine hcon.mono ?_; rintro e w1 ⟨rfl, b1⟩
    have HB1 := Lib.hid (below_call HB.out b1 HB.out.size)
    clear b1 hcon
    go_wp2
    go_ret
    exact ⟨ret_bool HE.out.symm, HB1.out⟩
  rw [e2] at hcon
  have HE2 := Lib.hid (show n = n' ∧ lf = lf' ∧ lt = lt' by unfold eqQ at e2; simpa using e2)
  clear e2
  by_cases e3 : ld = ld'
  rotate_left
  · have HE := Lib.hid (show eqRp P n lf lt ld L P n' lf' lt' ld' L' = false by
      unfold eqRp; rw [decide_eq_false_iff_not]; exact fun h => e3 h.2.2.1)
    have e3d : decide (ld = ld') = false := by simpa using e3
    clear e3
    go_enter Try.func22, Try.ntmps22
    go_wp2_with fail
    refine hcon.mono ?_; rintro e w1 ⟨rfl, b1⟩
    have HB1 := Lib.hid (below_call HB.out b1 HB.out.size)
    obtain ⟨p0, p1, p2, p3, p4, p5⟩ := blk6 (P0.out.below b1)
    obtain ⟨q0, q1, q2, q3, q4, q5⟩ := blk6 (P1.out.below b1)
    have hc2 := s_l6Same _ _ ld ld' w1 (HF.out.2.2.1.below b1) (HF'.out.2.2.1.below b1)
    rw [e3d] at hc2
    clear b1 hcon e3d
    go_wp2_with fail
    refine hc2.mono ?_; rintro e w2 ⟨rfl, b2⟩
    have HB2 := Lib.hid (HB1.out.trans (b2.mono HB1.out.size))
    clear b2 hc2 p0 p1 p2 p3 p4 p5 q0 q1 q2 q3 q4 q5
    go_wp2
    go_ret
    exact ⟨ret_bool HE.out.symm, HB2.out⟩
  have HE3 := Lib.hid e3
  have e3d : decide (ld = ld') = true := by simpa using e3
  clear e3
  go_enter Try.func22, Try.ntmps22
  go_wp2_with fail
  refine hcon.mono ?_; rintro e w1 ⟨rfl, b1⟩
  have HB1 := Lib.hid (below_call HB.out b1 HB.out.size)
  have P2 := Lib.hid (P0.out.below b1)
  have P3 := Lib.hid (P1.out.below b1)
  obtain ⟨p0, p1, p2, p3, p4, p5⟩ := blk6 P2.out
  obtain ⟨q0, q1, q2, q3, q4, q5⟩ := blk6 P3.out
  have hc2 := s_l6Same _ _ ld ld' w1 (HF.out.2.2.1.below b1) (HF'.out.2.2.1.below b1)
  have HM := Lib.hid (And.intro (HF.out.2.2.2.below b1) (HF'.out.2.2.2.below b1))
  rw [e3d] at hc2
  clear b1 hcon e3d
  go_wp2_with fail
  refine hc2.mono ?_; rintro e w2 ⟨rfl, b2⟩
  have HB2 := Lib.hid (HB1.out.trans (b2.mono HB1.out.size))
  have P4 := Lib.hid (P2.out.below b2)
  have P5 := Lib.hid (P3.out.below b2)
  have HM2 := Lib.hid (And.intro (HM.out.1.below b2) (HM.out.2.below b2))
  clear p0 p1 p2 p3 p4 p5 q0 q1 q2 q3 q4 q5 b2 hc2
  obtain ⟨p0, p1, p2, p3, p4, p5⟩ := blk6 P4.out
  obtain ⟨q0, q1, q2, q3, q4, q5⟩ := blk6 P5.out
  by_cases hn : L.length = L'.length
  rotate_left
  · have HE := Lib.hid (show eqRp P n lf lt ld L P n' lf' lt' ld' L' = false by
      unfold eqRp; rw [decide_eq_false_iff_not]; exact fun h => hn (by rw [h.2.2.2]))
    have hnb : ((L.length : Int) != (L'.length : Int)) = true := by simp only [bne_iff_ne]; omega
    clear hn
    go_wp2
    go_ret
    exact ⟨ret_bool HE.out.symm, HB2.out⟩
  have HN := Lib.hid hn
  have hnb : ((L.length : Int) != (L'.length : Int)) = false := by simp only [bne_eq_false_iff_eq]; omega
  have hnl : L.length ≤ L'.length := by omega
  clear hn
  go_wp2
  clear p0 p1 p2 p3 p4 p5 q0 q1 q2 q3 q4 q5
  go_loopw [5] (fun i wr => ∃ k : Nat, k ≤ L.length ∧ i = .int .i64 k ∧ Hid (∀ j, j < k → mtG L j = mtG L' j) ∧ Hid (Below w2.heap.size w2 wr)) (fun i _ => L.length - (intOf i).toNat)
  case atStart => exact ⟨0, Nat.zero_le _, rfl, fun j hj => absurd hj (by omega), Below.refl _ _⟩
  case round =>
    obtain ⟨k, hk, rfl, HEQ, HBW⟩ := hrel
    have P6 := Lib.hid (P4.out.below HBW.out)
    have P7 := Lib.hid (P5.out.below HBW.out)
    obtain ⟨p0, p1, p2, p3, p4, p5⟩ := blk6 P6.out
    obtain ⟨q0, q1, q2, q3, q4, q5⟩ := blk6 P7.out
    have HBB := Lib.hid (HB2.out.trans (HBW.out.mono HB2.out.size))
    by_cases hlt : k < L.length
    · obtain ⟨g, off, x, rfl, hgs, ha0, ha1, ha2, hx⟩ := (HM2.out.1.below HBW.out).cell hlt
      obtain ⟨g', off', y, rfl, hgs', hb0, hb1, hb2, hy⟩ := (HM2.out.2.below HBW.out).cell (show k < L'.length by omega)
      have hk0 : (0 : Int) ≤ (k : Int) := by omega
      have hk1 : (k : Int) < (L.length : Int) := by omega
      have hk2 : (k : Int) < (L'.length : Int) := by omega
      obtain ⟨ma, hma⟩ : ∃ m, m = mtG L k := ⟨_, rfl⟩
      obtain ⟨mb, hmb⟩ : ∃ m, m = mtG L' k := ⟨_, rfl⟩
      rw [← hma] at ha0 ha1 hx; rw [← hmb] at hb0 hb1 hy
      have HX := Lib.hid (And.intro hx hy)
      have HMA := Lib.hid hma; have HMB := Lib.hid hmb
      have HSx := Lib.hid (fun (w' : World) (hb : Below wr.heap.size wr w') => (show (w'.cell? ⟨g, off + k * 3, none⟩ = some (.int .i64 ma.1) ∧ w'.cell? ⟨g, off + k * 3 + 1, none⟩ = some (.int .i64 ma.2.1) ∧ w'.cell? ⟨g, off + k * 3 + 2, none⟩ = some x ∧ w'.cell? ⟨g', off' + k * 3, none⟩ = some (.int .i64 mb.1) ∧ w'.cell? ⟨g', off' + k * 3 + 1, none⟩ = some (.int .i64 mb.2.1) ∧ w'.cell? ⟨g', off' + k * 3 + 2, none⟩ = some y) ∧ w'.cell? ⟨w.heap.size, 5, none⟩ = some (.slice (some ⟨g, off, none⟩) L.length c4) ∧ w'.cell? ⟨w.heap.size + 1, 5, none⟩ = some (.slice (some ⟨g', off', none⟩) L'.length d4) from
        ⟨⟨(hb.cell (p := ⟨g, off + k * 3, none⟩) hgs).trans ha0, (hb.cell (p := ⟨g, off + k * 3 + 1, none⟩) hgs).trans ha1, (hb.cell (p := ⟨g, off + k * 3 + 2, none⟩) hgs).trans ha2, (hb.cell (p := ⟨g', off' + k * 3, none⟩) hgs').trans hb0, (hb.cell (p := ⟨g', off' + k * 3 + 1, none⟩) hgs').trans hb1, (hb.cell (p := ⟨g', off' + k * 3 + 2, none⟩) hgs').trans hb2⟩, (P6.out.below hb).cell 5, (P7.out.below hb).cell 5⟩))
      have hcon := Lib.hid (fun wq (hq : Below wr.heap.size wr wq) => s_EqualMatrices ma.1 ma.2.1 mb.1 mb.2.1 x y ma.2.2 mb.2.2 wq (HX.out.1.below hq) (HX.out.2.below hq))
      rw [eqM_mt] at hcon
      clear hx hy hma hmb
      by_cases hq : ma = mb
      · have hqd : decide (ma = mb) = true := by simpa using hq
        have HQ := Lib.hid (show mtG L k = mtG L' k by rw [← HMA.out, ← HMB.out, hq]); clear hq
        rw [hqd] at hcon
        go_wp2
        go_region_held3 (fun w' => (w'.cell? ⟨g, off + k * 3, none⟩ = some (.int .i64 ma.1) ∧ w'.cell? ⟨g, off + k * 3 + 1, none⟩ = some (.int .i64 ma.2.1) ∧ w'.cell? ⟨g, off + k * 3 + 2, none⟩ = some x ∧ w'.cell? ⟨g', off' + k * 3, none⟩ = some (.int .i64 mb.1) ∧ w'.cell? ⟨g', off' + k * 3 + 1, none⟩ = some (.int .i64 mb.2.1) ∧ w'.cell? ⟨g', off' + k * 3 + 2, none⟩ = some y) ∧ w'.cell? ⟨w.heap.size, 5, none⟩ = some (.slice (some ⟨g, off, none⟩) L.length c4) ∧ w'.cell? ⟨w.heap.size + 1, 5, none⟩ = some (.slice (some ⟨g', off', none⟩) L'.length d4))
          (first
            | exact HSx.out _ (Below.refl _ _).drew
            | exact HSx.out _ (below_of_drew b1))
          (first
            | (go_at_call 51; (with_reducible refine (hcon.out _ (Below.refl _ _).drew).mono ?_); rintro e w3 ⟨rfl, b1⟩))
        have HB3 := Lib.hid (HBW.out.trans ((below_of_drew b1).mono HBW.out.size))
        clear b1 ha0 ha1 ha2 hb0 hb1 hb2 hcon p0 p1 p2 p3 p4 p5 q0 q1 q2 q3 q4 q5
        go_wp2
        go_roundw
        case rel => exact ⟨k + 1, by omega, by go_num, fun j hj => by
          by_cases h : j = k
          · rw [h]; exact HQ.out
          · exact HEQ.out j (by omega), HB3⟩
        case measure => simp [intOf]; omega
      · have hqd : decide (ma = mb) = false := by simpa using hq
        have HE := Lib.hid (show eqRp P n lf lt ld L P n' lf' lt' ld' L' = false by
          unfold eqRp; rw [decide_eq_false_iff_not]; exact fun h => hq (by rw [HMA.out, HMB.out, h.2.2.2])); clear hq
        rw [hqd] at hcon
        go_wp2
        go_region_held3 (fun w' => (w'.cell? ⟨g, off + k * 3, none⟩ = some (.int .i64 ma.1) ∧ w'.cell? ⟨g, off + k * 3 + 1, none⟩ = some (.int .i64 ma.2.1) ∧ w'.cell? ⟨g, off + k * 3 + 2, none⟩ = some x ∧ w'.cell? ⟨g', off' + k * 3, none⟩ = some (.int .i64 mb.1) ∧ w'.cell? ⟨g', off' + k * 3 + 1, none⟩ = some (.int .i64 mb.2.1) ∧ w'.cell? ⟨g', off' + k * 3 + 2, none⟩ = some y) ∧ w'.cell? ⟨w.heap.size, 5, none⟩ = some (.slice (some ⟨g, off, none⟩) L.length c4) ∧ w'.cell? ⟨w.heap.size + 1, 5, none⟩ = some (.slice (some ⟨g', off', none⟩) L'.length d4))
          (first
            | exact HSx.out _ (Below.refl _ _).drew
            | exact HSx.out _ (below_of_drew b1))
          (first
            | (go_at_call 51; (with_reducible refine (hcon.out _ (Below.refl _ _).drew).mono ?_); rintro e w3 ⟨rfl, b1⟩))
        have HB3 := Lib.hid (HBB.out.trans ((below_of_drew b1).mono HBB.out.size))
        clear b1 ha0 ha1 ha2 hb0 hb1 hb2 hcon p0 p1 p2 p3 p4 p5 q0 q1 q2 q3 q4 q5
        go_wp2
        go_ret
        exact ⟨ret_bool HE.out.symm, HB3.out⟩
    · have HE := Lib.hid (show eqRp P n lf lt ld L P n' lf' lt' ld' L' = true by
        have hL : L = L' := mt_eq HN.out (fun j hj => HEQ.out j (by omega))
        obtain ⟨h1, h2, h3⟩ := HE2.out
        simp [eqRp, hL, h1, h2, h3, HE3.out])
      go_wp2
      go_ret
      exact ⟨ret_bool HE.out.symm, HBB.out⟩

end Go.Proofs.Ytmcjgaffecimlaa
