/- Representations: comparison, of the laws and of the program. -/
import Derived.Test.YtmcjgaffecimlaaRep
namespace Go.Proofs.Ytmcjgaffecimlaa
open Go.RowKit
set_option linter.unusedVariables false
set_option linter.unusedSimpArgs false

def eqRp (P n : Int) (lf lt ld : List Int) (L : List Mt) (P' n' : Int) (lf' lt' ld' : List Int) (L' : List Mt) : Bool := decide (P = P' ∧ (n = n' ∧ lf = lf' ∧ lt = lt') ∧ ld = ld' ∧ L = L')
theorem eqRp_refl (P n : Int) (lf lt ld : List Int) (L : List Mt) : eqRp P n lf lt ld L P n lf lt ld L = true := by simp [eqRp]

set_option maxRecDepth 100000 in
set_option maxHeartbeats 2000000 in
theorem l_eqRep (P n P' n' : Int) (vf vt vd vm vf' vt' vd' vm' : Value) (lf lt ld lf' lt' ld' : List Int) (L L' : List Mt) (w : World) (hf : Ints w vf lf) (ht : Ints w vt lt) (hd : Ints w vd ld) (hm : MatS w vm L) (hf' : Ints w vf' lf') (ht' : Ints w vt' lt') (hd' : Ints w vd' ld') (hm' : MatS w vm' L') :
    Calls Try.prog 25 #[.agg #[.int .i64 P, .int .i64 n, vf, vt, vd, vm], .agg #[.int .i64 P', .int .i64 n', vf', vt', vd', vm']] w (BoolAnsB (eqRp P n lf lt ld L P' n' lf' lt' ld' L') w) := by
  obtain ⟨a1, c1, rfl, _, _⟩ := hf.shape
  obtain ⟨a2, c2, rfl, _, _⟩ := ht.shape
  obtain ⟨a3, c3, rfl, _, _⟩ := hd.shape
  obtain ⟨a4, c4, rfl, _, _⟩ := hm.shape
  obtain ⟨b1, d1, rfl, _, _⟩ := hf'.shape
  obtain ⟨b2, d2, rfl, _, _⟩ := ht'.shape
  obtain ⟨b3, d3, rfl, _, _⟩ := hd'.shape
  obtain ⟨b4, d4, rfl, _, _⟩ := hm'.shape
  have hb : Below w.heap.size w ((w.alloc (.cells #[.int .i64 P, .int .i64 n, .slice a1 lf.length c1, .slice a2 lt.length c2, .slice a3 ld.length c3, .slice a4 L.length c4] 53)).alloc (.cells #[.int .i64 P', .int .i64 n', .slice b1 lf'.length d1, .slice b2 lt'.length d2, .slice b3 ld'.length d3, .slice b4 L'.length d4] 53)) := ((Below.refl _ w).alloc (Nat.le_refl _) _).alloc (by simp) _
  have P0 := Lib.hid ((Blk.new w #[.int .i64 P, .int .i64 n, .slice a1 lf.length c1, .slice a2 lt.length c2, .slice a3 ld.length c3, .slice a4 L.length c4] 53).below ((Below.refl _ (w.alloc (.cells #[.int .i64 P, .int .i64 n, .slice a1 lf.length c1, .slice a2 lt.length c2, .slice a3 ld.length c3, .slice a4 L.length c4] 53))).alloc (Nat.le_refl _) (.cells #[.int .i64 P', .int .i64 n', .slice b1 lf'.length d1, .slice b2 lt'.length d2, .slice b3 ld'.length d3, .slice b4 L'.length d4] 53)))
  have hP1 := Blk.new (w.alloc (.cells #[.int .i64 P, .int .i64 n, .slice a1 lf.length c1, .slice a2 lt.length c2, .slice a3 ld.length c3, .slice a4 L.length c4] 53)) #[.int .i64 P', .int .i64 n', .slice b1 lf'.length d1, .slice b2 lt'.length d2, .slice b3 ld'.length d3, .slice b4 L'.length d4] 53
  rw [World.size_alloc] at hP1
  have P1 := Lib.hid hP1
  have HF := Lib.hid (And.intro (hf.below hb) (And.intro (ht.below hb) (And.intro (hd.below hb) (hm.below hb))))
  have HF' := Lib.hid (And.intro (hf'.below hb) (And.intro (ht'.below hb) (And.intro (hd'.below hb) (hm'.below hb))))
  have HB := Lib.hid hb
  clear hf ht hd hm hf' ht' hd' hm' hb hP1
  by_cases e1 : P = P'
  rotate_left
  · have HE := Lib.hid (show eqRp P n lf lt ld L P' n' lf' lt' ld' L' = false by simp [eqRp, e1])
    have hb2 : (P == P') = false := by simpa using e1
    clear e1
    go_enter Try.func25, Try.ntmps25
    go_wp2
    go_ret
    exact ⟨ret_bool HE.out.symm, HB.out⟩
  subst e1
  have hcon := l_eqQuiver n n' _ _ _ _ lf lt lf' lt' _ HF.out.1 HF.out.2.1 HF'.out.1 HF'.out.2.1
  by_cases e2 : eqQ n lf lt n' lf' lt' = true
  rotate_left
  · have e2 : eqQ n lf lt n' lf' lt' = false := by simpa using e2
    have HE := Lib.hid (show eqRp P n lf lt ld L P n' lf' lt' ld' L' = false by
      unfold eqQ at e2
      rw [decide_eq_false_iff_not] at e2
      unfold eqRp; rw [decide_eq_false_iff_not]; exact fun h => e2 h.2.1)
    rw [e2] at hcon
    clear e2
    go_enter Try.func25, Try.ntmps25
    go_wp2_with fail
    refine hcon.mono ?_; rintro e w1 ⟨rfl, b1⟩
    have HB1 := Lib.hid (below_call HB.out b1 HB.out.size)
    clear b1 hcon
    go_wp2
    go_ret
    exact ⟨ret_bool HE.out.symm, HB1.out⟩
  rw [e2] at hcon
  have HE2 := Lib.hid (show n = n' ∧ lf = lf' ∧ lt = lt' by unfold eqQ at e2; simpa using e2)
  clear e2
  by_cases e3 : ld = ld'
  rotate_left
  · have HE := Lib.hid (show eqRp P n lf lt ld L P n' lf' lt' ld' L' = false by
      unfold eqRp; rw [decide_eq_false_iff_not]; exact fun h => e3 h.2.2.1)
    have e3d : decide (ld = ld') = false := by simpa using e3
    clear e3
    go_enter Try.func25, Try.ntmps25
    go_wp2_with fail
    refine hcon.mono ?_; rintro e w1 ⟨rfl, b1⟩
    have HB1 := Lib.hid (below_call HB.out b1 HB.out.size)
    obtain ⟨p0, p1, p2, p3, p4, p5⟩ := blk6 (P0.out.below b1)
    obtain ⟨q0, q1, q2, q3, q4, q5⟩ := blk6 (P1.out.below b1)
    have hc2 := l_eqIntS _ _ ld ld' w1 (HF.out.2.2.1.below b1) (HF'.out.2.2.1.below b1)
    rw [e3d] at hc2
    clear b1 hcon e3d
    go_wp2_with fail
    refine hc2.mono ?_; rintro e w2 ⟨rfl, b2⟩
    have HB2 := Lib.hid (HB1.out.trans (b2.mono HB1.out.size))
    clear b2 hc2 p0 p1 p2 p3 p4 p5 q0 q1 q2 q3 q4 q5
    go_wp2
    go_ret
    exact ⟨ret_bool HE.out.symm, HB2.out⟩
  have HE3 := Lib.hid e3
  have e3d : decide (ld = ld') = true := by simpa using e3
  clear e3
  obtain ⟨z, hz⟩ : ∃ z, z = decide (L = L') := ⟨_, rfl⟩
  have HE := Lib.hid (show eqRp P n lf lt ld L P n' lf' lt' ld' L' = z by
    rw [hz]; unfold eqRp
    obtain ⟨h1, h2, h3⟩ := HE2.out
    by_cases h : L = L' <;> simp [h, h1, h2, h3, HE3.out])
  go_enter Try.func25, Try.ntmps25
  go_wp2_with fail
  refine hcon.mono ?_; rintro e w1 ⟨rfl, b1⟩
  have HB1 := Lib.hid (below_call HB.out b1 HB.out.size)
  have P2 := Lib.hid (P0.out.below b1)
  have P3 := Lib.hid (P1.out.below b1)
  obtain ⟨p0, p1, p2, p3, p4, p5⟩ := blk6 P2.out
  obtain ⟨q0, q1, q2, q3, q4, q5⟩ := blk6 P3.out
  have hc2 := l_eqIntS _ _ ld ld' w1 (HF.out.2.2.1.below b1) (HF'.out.2.2.1.below b1)
  have HM := Lib.hid (And.intro (HF.out.2.2.2.below b1) (HF'.out.2.2.2.below b1))
  rw [e3d] at hc2
  clear b1 hcon e3d
  go_wp2_with fail
  refine hc2.mono ?_; rintro e w2 ⟨rfl, b2⟩
  have HB2 := Lib.hid (HB1.out.trans (b2.mono HB1.out.size))
  have hc3 := l_eqMatrixS _ _ L L' w2 (HM.out.1.below b2) (HM.out.2.below b2)
  rw [← hz] at hc3
  clear p0 p1 p2 p3 p4 p5 q0 q1 q2 q3 q4 q5
  obtain ⟨p0, p1, p2, p3, p4, p5⟩ := blk6 (P2.out.below b2)
  obtain ⟨q0, q1, q2, q3, q4, q5⟩ := blk6 (P3.out.below b2)
  clear b2 hc2 hz
  go_wp2_with fail
  refine hc3.mono ?_; rintro e w3 ⟨rfl, b3⟩
  have HB3 := Lib.hid (HB2.out.trans (b3.mono HB2.out.size))
  clear b3 hc3 p0 p1 p2 p3 p4 p5 q0 q1 q2 q3 q4 q5
  cases z
  · go_wp2
    go_ret
    exact ⟨ret_bool HE.out.symm, HB3.out⟩
  · go_wp2
    go_ret
    exact ⟨ret_bool HE.out.symm, HB3.out⟩

set_option maxRecDepth 100000 in
set_option maxHeartbeats 2000000 in
theorem i_EqualReps (P n P' n' : Int) (vf vt vd vm vf' vt' vd' vm' : Value) (lf lt ld lf' lt' ld' : List Int) (L L' : List Mt) (w : World) (hf : Ints w vf lf) (ht : Ints w vt lt) (hd : Ints w vd ld) (hm : MatS w vm L) (hf' : Ints w vf' lf') (ht' : Ints w vt' lt') (hd' : Ints w vd' ld') (hm' : MatS w vm' L') :
    Calls Try.prog 24 #[.agg #[.int .i64 P, .int .i64 n, vf, vt, vd, vm], .agg #[.int .i64 P', .int .i64 n', vf', vt', vd', vm']] w (BoolAnsB (eqRp P n lf lt ld L P' n' lf' lt' ld' L') w) := by
  obtain ⟨a1, c1, rfl, _, _⟩ := hf.shape
  obtain ⟨a2, c2, rfl, _, _⟩ := ht.shape
  obtain ⟨a3, c3, rfl, _, _⟩ := hd.shape
  obtain ⟨a4, c4, rfl, _, _⟩ := hm.shape
  obtain ⟨b1, d1, rfl, _, _⟩ := hf'.shape
  obtain ⟨b2, d2, rfl, _, _⟩ := ht'.shape
  obtain ⟨b3, d3, rfl, _, _⟩ := hd'.shape
  obtain ⟨b4, d4, rfl, _, _⟩ := hm'.shape
  have hb : Below w.heap.size w ((w.alloc (.cells #[.int .i64 P, .int .i64 n, .slice a1 lf.length c1, .slice a2 lt.length c2, .slice a3 ld.length c3, .slice a4 L.length c4] 53)).alloc (.cells #[.int .i64 P', .int .i64 n', .slice b1 lf'.length d1, .slice b2 lt'.length d2, .slice b3 ld'.length d3, .slice b4 L'.length d4] 53)) := ((Below.refl _ w).alloc (Nat.le_refl _) _).alloc (by simp) _
  have P0 := Lib.hid ((Blk.new w #[.int .i64 P, .int .i64 n, .slice a1 lf.length c1, .slice a2 lt.length c2, .slice a3 ld.length c3, .slice a4 L.length c4] 53).below ((Below.refl _ (w.alloc (.cells #[.int .i64 P, .int .i64 n, .slice a1 lf.length c1, .slice a2 lt.length c2, .slice a3 ld.length c3, .slice a4 L.length c4] 53))).alloc (Nat.le_refl _) (.cells #[.int .i64 P', .int .i64 n', .slice b1 lf'.length d1, .slice b2 lt'.length d2, .slice b3 ld'.length d3, .slice b4 L'.length d4] 53)))
  have hP1 := Blk.new (w.alloc (.cells #[.int .i64 P, .int .i64 n, .slice a1 lf.length c1, .slice a2 lt.length c2, .slice a3 ld.length c3, .slice a4 L.length c4] 53)) #[.int .i64 P', .int .i64 n', .slice b1 lf'.length d1, .slice b2 lt'.length d2, .slice b3 ld'.length d3, .slice b4 L'.length d4] 53
  rw [World.size_alloc] at hP1
  have P1 := Lib.hid hP1
  have HF := Lib.hid (And.intro (hf.below hb) (And.intro (ht.below hb) (And.intro (hd.below hb) (hm.below hb))))
  have HF' := Lib.hid (And.intro (hf'.below hb) (And.intro (ht'.below hb) (And.intro (hd'.below hb) (hm'.below hb))))
  have HB := Lib.hid hb
  clear hf ht hd hm hf' ht' hd' hm' hb hP1
  by_cases e1 : P = P'
  rotate_left
  · have HE := Lib.hid (show eqRp P n lf lt ld L P' n' lf' lt' ld' L' = false by simp [eqRp, e1])
    have hb2 : (P == P') = false := by simpa using e1
    clear e1
    go_enter Try.func24, Try.ntmps24
    go_wp2
    go_ret
    exact ⟨ret_bool HE.out.symm, HB.out⟩
  subst e1
  have hcon := i_EqualQuivers n n' _ _ _ _ lf lt lf' lt' _ HF.out.1 HF.out.2.1 HF'.out.1 HF'.out.2.1
  by_cases e2 : eqQ n lf lt n' lf' lt' = true
  rotate_left
  · have e2 : eqQ n lf lt n' lf' lt' = false := by simpa using e2
    have HE := Lib.hid (show eqRp P n lf lt ld L P n' lf' lt' ld' L' = false by
      unfold eqQ at e2
      rw [decide_eq_false_iff_not] at e2
      unfold eqRp; rw [decide_eq_false_iff_not]; exact fun h => e2 h.2.1)
    rw [e2] at hcon
    clear e2
    go_enter Try.func24, Try.ntmps24
    go_wp2_with fail
    refine hcon.mono ?_; rintro e w1 ⟨rfl, b1⟩
    have HB1 := Lib.hid (below_call HB.out b1 HB.out.size)
    clear b1 hcon
    go_wp2
    go_ret
    exact ⟨ret_bool HE.out.symm, HB1.out⟩
  rw [e2] at hcon
  have HE2 := Lib.hid (show n = n' ∧ lf = lf' ∧ lt = lt' by unfold eqQ at e2; simpa using e2)
  clear e2
  by_cases e3 : ld = ld'
  rotate_left
  · have HE := Lib.hid (show eqRp P n lf lt ld L P n' lf' lt' ld' L' = false by
      unfold eqRp; rw [decide_eq_false_iff_not]; exact fun h => e3 h.2.2.1)
    have e3d : decide (ld = ld') = false := by simpa using e3
    clear e3
    go_enter Try.func24, Try.ntmps24
    go_wp2_with fail
    refine hcon.mono ?_; rintro e w1 ⟨rfl, b1⟩
    have HB1 := Lib.hid (below_call HB.out b1 HB.out.size)
    obtain ⟨p0, p1, p2, p3, p4, p5⟩ := blk6 (P0.out.below b1)
    obtain ⟨q0, q1, q2, q3, q4, q5⟩ := blk6 (P1.out.below b1)
    have hc2 := Equal_ints _ _ ld ld' w1 (HF.out.2.2.1.below b1) (HF'.out.2.2.1.below b1)
    rw [e3d] at hc2
    clear b1 hcon e3d
    go_wp2_with fail
    refine hc2.mono ?_; rintro e w2 ⟨rfl, b2⟩
    have HB2 := Lib.hid (HB1.out.trans (b2.mono HB1.out.size))
    clear b2 hc2 p0 p1 p2 p3 p4 p5 q0 q1 q2 q3 q4 q5
    go_wp2
    go_ret
    exact ⟨ret_bool HE.out.symm, HB2.out⟩
  have HE3 := Lib.hid e3
  have e3d : decide (ld = ld') = true := by simpa using e3
  clear e3
  obtain ⟨z, hz⟩ : ∃ z, z = decide (L = L') := ⟨_, rfl⟩
  have HE := Lib.hid (show eqRp P n lf lt ld L P n' lf' lt' ld' L' = z by
    rw [hz]; unfold eqRp
    obtain ⟨h1, h2, h3⟩ := HE2.out
    by_cases h : L = L' <;> simp [h, h1, h2, h3, HE3.out])
  go_enter Try.func24, Try.ntmps24
  go_wp2_with fail
  refine hcon.mono ?_; rintro e w1 ⟨rfl, b1⟩
  have HB1 := Lib.hid (below_call HB.out b1 HB.out.size)
  have P2 := Lib.hid (P0.out.below b1)
  have P3 := Lib.hid (P1.out.below b1)
  obtain ⟨p0, p1, p2, p3, p4, p5⟩ := blk6 P2.out
  obtain ⟨q0, q1, q2, q3, q4, q5⟩ := blk6 P3.out
  have hc2 := Equal_ints _ _ ld ld' w1 (HF.out.2.2.1.below b1) (HF'.out.2.2.1.below b1)
  have HM := Lib.hid (And.intro (HF.out.2.2.2.below b1) (HF'.out.2.2.2.below b1))
  rw [e3d] at hc2
  clear b1 hcon e3d
  go_wp2_with fail
  refine hc2.mono ?_; rintro e w2 ⟨rfl, b2⟩
  have HB2 := Lib.hid (HB1.out.trans (b2.mono HB1.out.size))
  have hc3 := EqualFunc_mats _ _ L L' w2 (HM.out.1.below b2) (HM.out.2.below b2)
  rw [← hz] at hc3
  clear p0 p1 p2 p3 p4 p5 q0 q1 q2 q3 q4 q5
  obtain ⟨p0, p1, p2, p3, p4, p5⟩ := blk6 (P2.out.below b2)
  obtain ⟨q0, q1, q2, q3, q4, q5⟩ := blk6 (P3.out.below b2)
  clear b2 hc2 hz
  go_wp2_with fail
  refine hc3.mono ?_; rintro e w3 ⟨rfl, b3⟩
  have HB3 := Lib.hid (HB2.out.trans (b3.mono HB2.out.size))
  clear b3 hc3 p0 p1 p2 p3 p4 p5 q0 q1 q2 q3 q4 q5
  cases z
  · go_wp2
    go_ret
    exact ⟨ret_bool HE.out.symm, HB3.out⟩
  · go_wp2
    go_ret
    exact ⟨ret_bool HE.out.symm, HB3.out⟩

end Go.Proofs.Ytmcjgaffecimlaa
