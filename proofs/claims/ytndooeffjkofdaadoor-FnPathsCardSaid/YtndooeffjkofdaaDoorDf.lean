/- FnPaths: DrawJoinPaths. -/
import Derived.Test.YtndooeffjkofdaaDoorDe
import Derived.Test.YtndooeffjkofdaaDoorL7
namespace Go.Proofs.YtndooeffjkofdaaDoor
open Go.RowKit
set_option linter.unusedVariables false
set_option linter.unusedSimpArgs false

/-- a quiver and two paths were drawn -/
def DrQPP (w : World) (e : Ending) (w' : World) : Prop :=
  ∃ (n : Int) (vf vt : Value) (f t : List Int) (s : Int) (va : Value) (la : List Int) (s2 : Int) (vb : Value) (lb : List Int), e = .returned (.tuple #[.agg #[.int .i64 n, vf, vt], .agg #[.int .i64 s, va], .agg #[.int .i64 s2, vb]]) ∧ Ints w' vf f ∧ Ints w' vt t ∧ Ints w' va la ∧ Ints w' vb lb ∧ la.length ≤ 1000 ∧ lb.length ≤ 1000 ∧ Below w.heap.size w w'
theorem DrQPP.find {w0 w : World} {r1 r2 r3 : Nat} {x0 x1 x2 y0 y1 z0 z1 : Value} (hb : Below w0.heap.size w0 w) (h1 : Blk w r1 #[x0, x1, x2] 26) (h2 : Blk w r2 #[y0, y1] 28) (h3 : Blk w r3 #[z0, z1] 28) (hr1 : w0.heap.size ≤ r1) (hr2 : w0.heap.size ≤ r2) (hr3 : w0.heap.size ≤ r3) (hne : r1 ≠ r2) (hne2 : r1 ≠ r3) (hne3 : r2 ≠ r3)
    {n : Int} {vf vt : Value} {f t : List Int} {s : Int} {va : Value} {la : List Int} {s2 : Int} {vb : Value} {lb : List Int} (hf : Ints w vf f) (ht : Ints w vt t) (ha : Ints w va la) (hl : la.length ≤ 1000) (hv : Ints w vb lb) (hl2 : lb.length ≤ 1000) :
    DrQPP w0 (.returned (.tuple #[.agg #[.int .i64 n, vf, vt], .agg #[.int .i64 s, va], .agg #[.int .i64 s2, vb]])) (set2 (set2 (set3 w r1 (.int .i64 n) vf vt) r2 (.int .i64 s) va) r3 (.int .i64 s2) vb).drew ∧
    Blk (set2 (set2 (set3 w r1 (.int .i64 n) vf vt) r2 (.int .i64 s) va) r3 (.int .i64 s2) vb) r1 #[.int .i64 n, vf, vt] 26 ∧ Blk (set2 (set2 (set3 w r1 (.int .i64 n) vf vt) r2 (.int .i64 s) va) r3 (.int .i64 s2) vb) r2 #[.int .i64 s, va] 28 ∧ Blk (set2 (set2 (set3 w r1 (.int .i64 n) vf vt) r2 (.int .i64 s) va) r3 (.int .i64 s2) vb) r3 #[.int .i64 s2, vb] 28 := by
  have k1 := set3_blk h1 (.int .i64 n) vf vt
  have k2 : Blk (set3 w r1 (.int .i64 n) vf vt) r2 #[y0, y1] 28 := (set3_other _ _ _ (fun e => hne e.symm)).trans h2
  have k3 : Blk (set3 w r1 (.int .i64 n) vf vt) r3 #[z0, z1] 28 := (set3_other _ _ _ (fun e => hne2 e.symm)).trans h3
  have m2 := set2_blk k2 (.int .i64 s) va
  have m3 : Blk (set2 (set3 w r1 (.int .i64 n) vf vt) r2 (.int .i64 s) va) r3 #[z0, z1] 28 := (set2_other _ _ (fun e => hne3 e.symm)).trans k3
  have hI : ∀ v l, Ints w v l → Ints (set2 (set2 (set3 w r1 (.int .i64 n) vf vt) r2 (.int .i64 s) va) r3 (.int .i64 s2) vb) v l := fun v l hv => by
    have i1 := set3_ints hv (far_quiv hv h1) (.int .i64 n) vf vt
    have i2 := set2_ints i1 (far_path i1 k2) (.int .i64 s) va
    exact set2_ints i2 (far_path i2 m3) _ _
  exact ⟨⟨n, vf, vt, f, t, s, va, la, s2, vb, lb, rfl, (hI _ _ hf).drew, (hI _ _ ht).drew, (hI _ _ ha).drew, (hI _ _ hv).drew, hl, hl2, (set2_below (set2_below (set3_below hb hr1 _ _ _) hr2 _ _) hr3 _ _).drew⟩, (set2_other _ _ hne2).trans ((set2_other _ _ hne).trans k1), (set2_other _ _ hne3).trans m2, set2_blk m3 _ _⟩
set_option maxRecDepth 100000 in
set_option maxHeartbeats 8000000 in
theorem s_DrawJoinPaths (v : Value) (m : Nat) (w : World) (hv : Byt w v m w.heap.size) (hm : m ≤ 1048576) : Calls Tryd.prog 5 #[v] w (DrQPP w) := by
  have M2 := Lib.hid ((((MB.start w).alloc #[.int .i64 0, .slice none 0 0, .slice none 0 0] 26).alloc #[.int .i64 0, .slice none 0 0] 28).alloc #[.int .i64 0, .slice none 0 0] 28)
  have hs2 : (w.alloc (.cells #[.int .i64 0, .slice none 0 0, .slice none 0 0] 26)).heap.size = w.heap.size + 1 := by simp
  have hs3 : ((w.alloc (.cells #[.int .i64 0, .slice none 0 0, .slice none 0 0] 26)).alloc (.cells #[.int .i64 0, .slice none 0 0] 28)).heap.size = w.heap.size + 1 + 1 := by simp
  rw [hs2, hs3] at M2
  have HV := Lib.hid (hv.keep (w' := ((w.alloc (.cells #[.int .i64 0, .slice none 0 0, .slice none 0 0] 26)).alloc (.cells #[.int .i64 0, .slice none 0 0] 28)).alloc (.cells #[.int .i64 0, .slice none 0 0] 28)) (by simp; omega) (fun k hk _ => M2.out.bel.block k hk))
  clear hv hs2 hs3
  go_enter Tryd.func5, Tryd.ntmps5
  go_wp2_with fail
  generalize (((w.alloc (.cells #[.int .i64 0, .slice none 0 0, .slice none 0 0] 26)).alloc (.cells #[.int .i64 0, .slice none 0 0] 28)).alloc (.cells #[.int .i64 0, .slice none 0 0] 28)) = W at M2 HV ⊢
  have hW : w.heap.size + 1 + 1 < W.heap.size := M2.out.b0.lt
  refine (s_l1New v m _ (HV.out.mono (by omega)) hm).mono ?_; rintro e w1 ⟨c, rfl, hcw, hc1, b1⟩
  have M3 := Lib.hid (M2.out.call b1)
  have HC := Lib.hid hc1
  clear b1 hc1
  go_wp2_with fail
  refine (s_l6Any c _ HC.out).mono ?_; rintro e w2 ⟨n, vf, vt, f, t, rfl, hf, ht, hc2, hg2⟩
  have M4 := Lib.hid (((M3.out.chgC HC.out hg2 (by omega) ⟨by omega, by omega, by omega, trivial⟩).addI hf).addI ht)
  have hs2 : w.heap.size + 1 + 1 < w2.heap.size := M4.out.b0.lt
  have hc2s := hc2.lt
  obtain ⟨a1, c1, rfl, _, _⟩ := hf.shape
  obtain ⟨a2, c2, rfl, _, _⟩ := ht.shape
  have M5 := Lib.hid (M4.out.alloc #[.int .i64 n, .slice a1 f.length c1, .slice a2 t.length c2] 26)
  have HC5 := Lib.hid (hc2.below ((Below.refl _ w2).alloc (Nat.le_refl _) (.cells #[.int .i64 n, .slice a1 f.length c1, .slice a2 t.length c2] 26)))
  obtain ⟨q, hq⟩ : ∃ q, q = w2.heap.size := ⟨_, rfl⟩
  have HQ := Lib.hid hq
  rw [← hq] at M5
  have hqs : q < (w2.alloc (.cells #[.int .i64 n, .slice a1 f.length c1, .slice a2 t.length c2] 26)).heap.size := M5.out.b0.lt
  clear hf ht hc2 hg2
  obtain ⟨u0, u1, u2⟩ := blk3 M5.out.b0
  go_upto_region 3 with fail
  simp only [← HQ.out]
  generalize w2.alloc (.cells #[.int .i64 n, .slice a1 f.length c1, .slice a2 t.length c2] 26) = w3 at M5 HC5 u0 u1 u2 hqs ⊢
  have hq1 : w.heap.size + 1 + 1 < q := by omega
  have hq2 : c < q := by omega
  clear hq
  go_wp2_with fail
  refine (s_l7Path c _ _ _ f t _ HC5.out M5.out.i1 M5.out.i0).mono ?_; rintro e w4 ⟨s, va, la, rfl, ha, hla, hc4, hg4⟩
  have M6 := Lib.hid ((M5.out.chgC HC5.out hg4 (by omega) ⟨by omega, by omega, by omega, by omega, trivial⟩).addI ha)
  have hs4 : q < w4.heap.size := M6.out.b0.lt
  obtain ⟨a3, c3, rfl, _, _⟩ := ha.shape
  have M7 := Lib.hid (M6.out.alloc #[.int .i64 s, .slice a3 la.length c3] 28)
  have HC7 := Lib.hid (hc4.below ((Below.refl _ w4).alloc (Nat.le_refl _) (.cells #[.int .i64 s, .slice a3 la.length c3] 28)))
  obtain ⟨p, hp⟩ : ∃ p, p = w4.heap.size := ⟨_, rfl⟩
  have HP := Lib.hid hp
  rw [← hp] at M7
  have hps : p < (w4.alloc (.cells #[.int .i64 s, .slice a3 la.length c3] 28)).heap.size := M7.out.b0.lt
  clear ha hc4 hg4 u0 u1 u2
  obtain ⟨u0, u1, u2⟩ := blk3 M7.out.b1
  go_upto_region 4 with fail
  simp only [← HP.out]
  generalize w4.alloc (.cells #[.int .i64 s, .slice a3 la.length c3] 28) = w5 at M7 HC7 u0 u1 u2 hps ⊢
  have hp1 : q < p := by omega
  clear hp
  go_wp2_with fail
  refine (s_l7Path c _ _ _ f t _ HC7.out M7.out.i2 M7.out.i1).mono ?_; rintro e w6 ⟨s2, vb, lb, rfl, hb, hlb, hc6, hg6⟩
  have M8 := Lib.hid ((M7.out.chgC HC7.out hg6 (by omega) ⟨by omega, by omega, by omega, by omega, by omega, trivial⟩).addI hb)
  have hs6 : p < w6.heap.size := M8.out.b0.lt
  obtain ⟨a4, c4, rfl, _, _⟩ := hb.shape
  have M9 := Lib.hid (M8.out.alloc #[.int .i64 s2, .slice a4 lb.length c4] 28)
  have HC9 := Lib.hid (hc6.below ((Below.refl _ w6).alloc (Nat.le_refl _) (.cells #[.int .i64 s2, .slice a4 lb.length c4] 28)))
  obtain ⟨r, hr⟩ : ∃ r, r = w6.heap.size := ⟨_, rfl⟩
  have HR := Lib.hid hr
  rw [← hr] at M9
  clear hb hc6 hg6 u0 u1 u2
  obtain ⟨u0, u1, u2⟩ := blk3 M9.out.b2
  obtain ⟨v0, v1⟩ := blk2 M9.out.b1
  go_upto_region 5 with fail
  simp only [← HR.out]
  generalize w6.alloc (.cells #[.int .i64 s2, .slice a4 lb.length c4] 28) = w7 at M9 HC9 u0 u1 u2 v0 v1 ⊢
  have hr1 : p < r := by omega
  clear hr
  go_wp2_with fail
  refine (s_EndOf _ _ _ _ _ f t la _ M9.out.i3 M9.out.i2 M9.out.i1).mono ?_; rintro e w8 ⟨rfl, b8⟩
  obtain ⟨en, hen⟩ : ∃ en, en = endP n f t s la := ⟨_, rfl⟩
  rw [← hen]
  clear hen
  have M10 := Lib.hid (M9.out.call b8)
  have HC10 := Lib.hid (HC9.out.below b8)
  clear b8 u0 u1 u2 v0 v1
  by_cases hen : 0 ≤ en
  rotate_left
  · have hd : decide ((0 : Int) ≤ en) = false := by simp; omega
    obtain ⟨u0, u1, u2⟩ := blk3 M10.out.b2
    obtain ⟨v0, v1⟩ := blk2 M10.out.b1
    obtain ⟨z0, z1⟩ := blk2 M10.out.b0
    obtain ⟨e0, e1⟩ := frz2 M10.out.b3
    obtain ⟨g0, g1⟩ := frz2 M10.out.b4
    obtain ⟨f0, f1, f2⟩ := frz3 M10.out.b5
    obtain ⟨k0, k1⟩ := blk2 M10.out.b3
    obtain ⟨l0, l1⟩ := blk2 M10.out.b4
    obtain ⟨m0, m1, m2⟩ := blk3 M10.out.b5
    go_upto_region 9 with fail
    go_region_law fail
    all_goals
      have HX := Lib.hid (DrQPP.find M10.out.bel M10.out.b5 M10.out.b4 M10.out.b3 (Nat.le_refl _) (by omega) (by omega) (by omega) (by omega) (by omega) (n := n) M10.out.i3 M10.out.i2 M10.out.i1 (s := s) hla M10.out.i0 (s2 := s2) hlb)
      unfold set2 set3 at HX
      go_wp2
      refine bodyPost_ret (v := .tuple #[.agg #[.int .i64 n, .slice a1 f.length c1, .slice a2 t.length c2], .agg #[.int .i64 s, .slice a3 la.length c3], .agg #[.int .i64 s2, .slice a4 lb.length c4]]) (by simp [results, Tryd.results5, go_sem, HX.out.2.1.cell 0, HX.out.2.1.cell 1, HX.out.2.1.cell 2, HX.out.2.2.1.cell 0, HX.out.2.2.1.cell 1, HX.out.2.2.2.cell 0, HX.out.2.2.2.cell 1]) rfl ?_
      exact HX.out.1
  have hd : decide ((0 : Int) ≤ en) = true := by simp; omega
  obtain ⟨u0, u1, u2⟩ := blk3 M10.out.b2
  obtain ⟨v0, v1⟩ := blk2 M10.out.b1
  go_wp2_with fail
  refine (s_IsAcyclic n _ _ f t _ M10.out.i3 M10.out.i2).mono ?_; rintro e w9 ⟨rfl, b9⟩
  have M11 := Lib.hid (M10.out.call b9)
  have HC11 := Lib.hid (HC10.out.below b9)
  clear b9 u0 u1 u2 v0 v1
  cases hok : ordOK n f t
  · clear hok
    obtain ⟨u0, u1, u2⟩ := blk3 M11.out.b2
    obtain ⟨v0, v1⟩ := blk2 M11.out.b1
    obtain ⟨z0, z1⟩ := blk2 M11.out.b0
    obtain ⟨e0, e1⟩ := frz2 M11.out.b3
    obtain ⟨g0, g1⟩ := frz2 M11.out.b4
    obtain ⟨f0, f1, f2⟩ := frz3 M11.out.b5
    obtain ⟨k0, k1⟩ := blk2 M11.out.b3
    obtain ⟨l0, l1⟩ := blk2 M11.out.b4
    obtain ⟨m0, m1, m2⟩ := blk3 M11.out.b5
    go_upto_region 9 with fail
    go_region_law fail
    all_goals
      have HX := Lib.hid (DrQPP.find M11.out.bel M11.out.b5 M11.out.b4 M11.out.b3 (Nat.le_refl _) (by omega) (by omega) (by omega) (by omega) (by omega) (n := n) M11.out.i3 M11.out.i2 M11.out.i1 (s := s) hla M11.out.i0 (s2 := s2) hlb)
      unfold set2 set3 at HX
      go_wp2
      refine bodyPost_ret (v := .tuple #[.agg #[.int .i64 n, .slice a1 f.length c1, .slice a2 t.length c2], .agg #[.int .i64 s, .slice a3 la.length c3], .agg #[.int .i64 s2, .slice a4 lb.length c4]]) (by simp [results, Tryd.results5, go_sem, HX.out.2.1.cell 0, HX.out.2.1.cell 1, HX.out.2.1.cell 2, HX.out.2.2.1.cell 0, HX.out.2.2.1.cell 1, HX.out.2.2.2.cell 0, HX.out.2.2.2.cell 1]) rfl ?_
      exact HX.out.1
  go_wp2_with fail
  refine (s_l1Once c _ _ HC11.out).mono ?_; rintro e w10 ⟨bb, rfl, hc10, hg10⟩
  have M12 := Lib.hid (M11.out.chgC HC11.out hg10 (by omega) ⟨by omega, by omega, by omega, by omega, by omega, by omega, trivial⟩)
  have HC12 := Lib.hid hc10
  clear hc10 hg10
  cases bb with
  | true =>
    clear hok
    obtain ⟨u0, u1, u2⟩ := blk3 M12.out.b2
    obtain ⟨v0, v1⟩ := blk2 M12.out.b1
    obtain ⟨z0, z1⟩ := blk2 M12.out.b0
    obtain ⟨e0, e1⟩ := frz2 M12.out.b3
    obtain ⟨g0, g1⟩ := frz2 M12.out.b4
    obtain ⟨f0, f1, f2⟩ := frz3 M12.out.b5
    obtain ⟨k0, k1⟩ := blk2 M12.out.b3
    obtain ⟨l0, l1⟩ := blk2 M12.out.b4
    obtain ⟨m0, m1, m2⟩ := blk3 M12.out.b5
    go_upto_region 9 with fail
    go_region_law fail
    all_goals
      have HX := Lib.hid (DrQPP.find M12.out.bel M12.out.b5 M12.out.b4 M12.out.b3 (Nat.le_refl _) (by omega) (by omega) (by omega) (by omega) (by omega) (n := n) M12.out.i3 M12.out.i2 M12.out.i1 (s := s) hla M12.out.i0 (s2 := s2) hlb)
      unfold set2 set3 at HX
      go_wp2
      refine bodyPost_ret (v := .tuple #[.agg #[.int .i64 n, .slice a1 f.length c1, .slice a2 t.length c2], .agg #[.int .i64 s, .slice a3 la.length c3], .agg #[.int .i64 s2, .slice a4 lb.length c4]]) (by simp [results, Tryd.results5, go_sem, HX.out.2.1.cell 0, HX.out.2.1.cell 1, HX.out.2.1.cell 2, HX.out.2.2.1.cell 0, HX.out.2.2.1.cell 1, HX.out.2.2.2.cell 0, HX.out.2.2.2.cell 1]) rfl ?_
      exact HX.out.1
  | false =>
    have hq2' := hok
    unfold ordOK at hq2'
    simp only [Bool.and_eq_true] at hq2'
    obtain ⟨hisq, hgo⟩ := hq2'
    obtain ⟨n1, n5⟩ := isQ_n' hisq
    obtain ⟨N, rfl⟩ := Int.eq_ofNat_of_zero_le (show 0 ≤ n by omega)
    have hgo : ordGo f t N = true := hgo
    obtain ⟨_, htN, hlen, h6, _, _⟩ := isQ_all hisq
    have hcon := s_l7From (n := N) (N := N) hgo hlen h6 htN 6 en _ _ w10 (by have := rk_le f t N en N; omega) (Nat.le_refl _) M12.out.i3 M12.out.i2
    have hsm := pP_small (t := t) h6 en
    have hpos := pP_pos f t 6 en
    have HAR := Lib.hid (show ∀ p ∈ pP f t 6 en, p.2.length ≤ 6 from fun p hp => by
      unfold pP at hp
      rw [List.mem_map] at hp
      obtain ⟨x, hx, rfl⟩ := hp
      exact pF_arr 6 _ x hx)
    clear hok hisq hgo htN hlen h6
    obtain ⟨L, hL⟩ : ∃ L, L = pP f t 6 en := ⟨_, rfl⟩
    rw [← hL] at hcon hsm hpos HAR
    clear hL
    obtain ⟨u0, u1, u2⟩ := blk3 M12.out.b2
    go_wp2_with fail
    refine hcon.mono ?_; rintro e w11 ⟨vl, rfl, hvl, b11⟩
    have M13 := Lib.hid (M12.out.call b11)
    have HC13 := Lib.hid (HC12.out.below b11)
    have hcl := HC12.out.lt
    obtain ⟨al, cl, rfl, _, _⟩ := hvl.shape
    have HVL := Lib.hid hvl
    clear hvl b11 u0 u1 u2 hcon
    go_wp2_with fail
    refine (s_l1Below c _ _ HC13.out).mono ?_; rintro e w12 ⟨i, hi, rfl, hc12, hg12⟩
    obtain ⟨i0, i1⟩ : 0 ≤ i ∧ i < (L.length : Int) := by rcases hi with h | h <;> omega
    obtain ⟨k, rfl⟩ := Int.eq_ofNat_of_zero_le i0
    have hkl : k < L.length := by omega
    have hv2 := HVL.out.chgC HC13.out hg12 hcl
    have M14 := Lib.hid (M13.out.chgC HC13.out hg12 (by omega) ⟨by omega, by omega, by omega, by omega, by omega, by omega, trivial⟩)
    obtain ⟨g, u, rfl, _, hgs, hcc0, hcc1, hu, _⟩ := hv2.cell hkl
    have hal := HAR.out (L.getD k (0, [])) (by simp [List.getD, hkl])
    generalize (L.getD k (0, [])).1 = s3 at hcc0
    generalize (L.getD k (0, [])).2 = lb2 at hu hal
    obtain ⟨a5, c5, rfl, _, _⟩ := hu.shape
    have M15 := Lib.hid ((show MB w [(.slice a3 la.length c3, la), (.slice a2 t.length c2, t), (.slice a1 f.length c1, f)] _ w12 from ⟨M14.out.bel, M14.out.ins.2, M14.out.bls⟩).addI hu)
    have M16 := Lib.hid (M15.out.set2 (by omega) ⟨fun q hq => far_path M15.out.i0 M15.out.b0 q hq, fun q hq => far_path M15.out.i1 M15.out.b0 q hq, fun q hq => far_path M15.out.i2 M15.out.b0 q hq, fun q hq => far_path M15.out.i3 M15.out.b0 q hq, trivial⟩ ⟨by omega, by omega, by omega, by omega, by omega, trivial⟩ (.int .i64 s3) (.slice a5 lb2.length c5))
    obtain ⟨z0, z1⟩ := blk2 M14.out.b0
    obtain ⟨e0, e1⟩ := frz2 M14.out.b0
    have hlb2 : lb2.length ≤ 1000 := by omega
    clear hi hc12 hg12 hv2 hu hal
    go_upto_region 9 with fail
    generalize (w12.setCell ⟨r, 0, none⟩ (.int .i64 s3)).setCell ⟨r, 1, none⟩ (.slice a5 lb2.length c5) = w13 at M16 ⊢
    clear z0 z1 e0 e1 hcc0 hcc1
    obtain ⟨u0, u1, u2⟩ := blk3 M16.out.b2
    obtain ⟨v0, v1⟩ := blk2 M16.out.b1
    obtain ⟨z0, z1⟩ := blk2 M16.out.b0
    obtain ⟨e0, e1⟩ := frz2 M16.out.b3
    obtain ⟨g0, g1⟩ := frz2 M16.out.b4
    obtain ⟨f0, f1, f2⟩ := frz3 M16.out.b5
    obtain ⟨k0, k1⟩ := blk2 M16.out.b3
    obtain ⟨l0, l1⟩ := blk2 M16.out.b4
    obtain ⟨m0, m1, m2⟩ := blk3 M16.out.b5
    go_region_law fail
    all_goals
      have HX := Lib.hid (DrQPP.find M16.out.bel M16.out.b5 M16.out.b4 M16.out.b3 (Nat.le_refl _) (by omega) (by omega) (by omega) (by omega) (by omega) (n := (N : Int)) M16.out.i3 M16.out.i2 M16.out.i1 (s := s) hla M16.out.i0 (s2 := s3) hlb2)
      unfold set2 set3 at HX
      go_wp2
      refine bodyPost_ret (v := .tuple #[.agg #[.int .i64 (N : Int), .slice a1 f.length c1, .slice a2 t.length c2], .agg #[.int .i64 s, .slice a3 la.length c3], .agg #[.int .i64 s3, .slice a5 lb2.length c5]]) (by simp [results, Tryd.results5, go_sem, HX.out.2.1.cell 0, HX.out.2.1.cell 1, HX.out.2.1.cell 2, HX.out.2.2.1.cell 0, HX.out.2.2.1.cell 1, HX.out.2.2.2.cell 0, HX.out.2.2.2.cell 1]) rfl ?_
      exact HX.out.1
end Go.Proofs.YtndooeffjkofdaaDoor
