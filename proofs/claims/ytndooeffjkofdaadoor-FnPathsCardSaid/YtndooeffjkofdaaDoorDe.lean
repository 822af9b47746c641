/- FnPaths: the Draw functions: IsPath, AllPaths, PathsBetween. -/
import Derived.Test.YtndooeffjkofdaaDoorDd
namespace Go.Proofs.YtndooeffjkofdaaDoor
open Go.RowKit
set_option linter.unusedVariables false
set_option linter.unusedSimpArgs false

theorem DrQP.find {w0 w : World} {r1 r2 : Nat} {x0 x1 x2 z0 z1 : Value} (hb : Below w0.heap.size w0 w) (h1 : Blk w r1 #[x0, x1, x2] 26) (h2 : Blk w r2 #[z0, z1] 28) (hr1 : w0.heap.size ≤ r1) (hr2 : w0.heap.size ≤ r2) (hne : r1 ≠ r2)
    {n : Int} {vf vt : Value} {f t : List Int} {s : Int} {va : Value} {la : List Int} (hf : Ints w vf f) (ht : Ints w vt t) (ha : Ints w va la) (hl : la.length ≤ 1000) :
    DrQP w0 (.returned (.tuple #[.agg #[.int .i64 n, vf, vt], .agg #[.int .i64 s, va]])) (set2 (set3 w r1 (.int .i64 n) vf vt) r2 (.int .i64 s) va).drew ∧
    Blk (set2 (set3 w r1 (.int .i64 n) vf vt) r2 (.int .i64 s) va) r1 #[.int .i64 n, vf, vt] 26 ∧ Blk (set2 (set3 w r1 (.int .i64 n) vf vt) r2 (.int .i64 s) va) r2 #[.int .i64 s, va] 28 := by
  obtain ⟨⟨n', vf', vt', f', t', s', va', la', e, k1, k2, k3, k4, k5⟩, h3, h4⟩ := DrQP.fin (n := n) (s := s) hb h1 h2 hr1 hr2 hne hf ht ha hl
  exact ⟨⟨n', vf', vt', f', t', s', va', la', e, k1.drew, k2.drew, k3.drew, k4, k5.drew⟩, h3, h4⟩
set_option maxRecDepth 100000 in
set_option maxHeartbeats 4000000 in
theorem s_DrawIsPath (v : Value) (m : Nat) (w : World) (hv : Byt w v m w.heap.size) (hm : m ≤ 1048576) : Calls Tryd.prog 18 #[v] w (DrQP w) := by
  have M2 := Lib.hid (((MB.start w).alloc #[.int .i64 0, .slice none 0 0, .slice none 0 0] 26).alloc #[.int .i64 0, .slice none 0 0] 28)
  have hs2 : (w.alloc (.cells #[.int .i64 0, .slice none 0 0, .slice none 0 0] 26)).heap.size = w.heap.size + 1 := by simp
  rw [hs2] at M2
  have HV := Lib.hid (hv.keep (w' := (w.alloc (.cells #[.int .i64 0, .slice none 0 0, .slice none 0 0] 26)).alloc (.cells #[.int .i64 0, .slice none 0 0] 28)) (by simp; omega) (fun k hk _ => M2.out.bel.block k hk))
  clear hv hs2
  go_enter Tryd.func18, Tryd.ntmps18
  go_wp2_with fail
  generalize ((w.alloc (.cells #[.int .i64 0, .slice none 0 0, .slice none 0 0] 26)).alloc (.cells #[.int .i64 0, .slice none 0 0] 28)) = W at M2 HV ⊢
  have hW : w.heap.size + 1 < W.heap.size := M2.out.b0.lt
  refine (s_l7Both v m _ (HV.out.mono (by omega)) hm).mono ?_; rintro e w1 ⟨n, vf, vt, f, t, s, va, la, rfl, hf, ht, ha, hla, b1⟩
  have M3 := Lib.hid ((((M2.out.call b1).addI hf).addI ht).addI ha)
  have hs3 : w.heap.size + 1 < w1.heap.size := M3.out.b0.lt
  obtain ⟨a1, c1, rfl, _, _⟩ := hf.shape
  obtain ⟨a2, c2, rfl, _, _⟩ := ht.shape
  obtain ⟨a3, c3, rfl, _, _⟩ := ha.shape
  have M4 := Lib.hid ((M3.out.alloc #[.int .i64 n, .slice a1 f.length c1, .slice a2 t.length c2] 26).alloc #[.int .i64 s, .slice a3 la.length c3] 28)
  have hs4 : (w1.alloc (.cells #[.int .i64 n, .slice a1 f.length c1, .slice a2 t.length c2] 26)).heap.size = w1.heap.size + 1 := by simp
  rw [hs4] at M4
  clear hf ht ha b1 hs4
  go_wp2_with fail
  generalize ((w1.alloc (.cells #[.int .i64 n, .slice a1 f.length c1, .slice a2 t.length c2] 26)).alloc (.cells #[.int .i64 s, .slice a3 la.length c3] 28)) = w4 at M4 ⊢
  obtain ⟨z0, z1⟩ := blk2 M4.out.b0
  obtain ⟨y0, y1, y2⟩ := blk3 M4.out.b1
  obtain ⟨x0, x1⟩ := blk2 M4.out.b2
  obtain ⟨u0, u1, u2⟩ := blk3 M4.out.b3
  obtain ⟨g0, g1⟩ := frz2 M4.out.b2
  obtain ⟨f0, f1, f2⟩ := frz3 M4.out.b3
  have hne1 : ¬ w.heap.size = w1.heap.size := by omega
  have hne2 : ¬ w.heap.size + 1 = w1.heap.size := by omega
  have hne3 : ¬ w.heap.size = w1.heap.size + 1 := by omega
  have hne4 : ¬ w.heap.size = w1.heap.size := by omega
  go_region_law fail
  all_goals
    have HX := Lib.hid (DrQP.find M4.out.bel M4.out.b3 M4.out.b2 (Nat.le_refl _) (by omega) (by omega) (n := n) M4.out.i2 M4.out.i1 M4.out.i0 (s := s) hla)
    unfold set2 set3 at HX
    go_wp2
    refine bodyPost_ret (v := .tuple #[.agg #[.int .i64 n, .slice a1 f.length c1, .slice a2 t.length c2], .agg #[.int .i64 s, .slice a3 la.length c3]]) (by simp [results, Tryd.results18, go_sem, HX.out.2.1.cell 0, HX.out.2.1.cell 1, HX.out.2.1.cell 2, HX.out.2.2.cell 0, HX.out.2.2.cell 1]) rfl ?_
    exact HX.out.1
/-- a quiver was drawn -/
def DrQ (w : World) (e : Ending) (w' : World) : Prop :=
  ∃ (n : Int) (vf vt : Value) (f t : List Int), e = .returned (.agg #[.int .i64 n, vf, vt]) ∧ Ints w' vf f ∧ Ints w' vt t ∧ Below w.heap.size w w'
/-- a quiver and two numbers were drawn -/
def DrQII (w : World) (e : Ending) (w' : World) : Prop :=
  ∃ (n : Int) (vf vt : Value) (f t : List Int) (x y : Int), e = .returned (.tuple #[.agg #[.int .i64 n, vf, vt], .int .i64 x, .int .i64 y]) ∧ Ints w' vf f ∧ Ints w' vt t ∧ Below w.heap.size w w'
theorem quiv_fin {w0 w : World} {r1 : Nat} {x0 x1 x2 : Value} (hb : Below w0.heap.size w0 w) (h1 : Blk w r1 #[x0, x1, x2] 26) (hr1 : w0.heap.size ≤ r1)
    {n : Int} {vf vt : Value} {f t : List Int} (hf : Ints w vf f) (ht : Ints w vt t) :
    Ints (set3 w r1 (.int .i64 n) vf vt) vf f ∧ Ints (set3 w r1 (.int .i64 n) vf vt) vt t ∧ Below w0.heap.size w0 (set3 w r1 (.int .i64 n) vf vt) ∧ Blk (set3 w r1 (.int .i64 n) vf vt) r1 #[.int .i64 n, vf, vt] 26 :=
  ⟨set3_ints hf (far_quiv hf h1) _ _ _, set3_ints ht (far_quiv ht h1) _ _ _, set3_below hb hr1 _ _ _, set3_blk h1 _ _ _⟩
set_option maxRecDepth 100000 in
set_option maxHeartbeats 4000000 in
theorem s_DrawAllPaths (v : Value) (m : Nat) (w : World) (hv : Byt w v m w.heap.size) (hm : m ≤ 1048576) : Calls Tryd.prog 11 #[v] w (DrQ w) := by
  have M2 := Lib.hid ((MB.start w).alloc #[.int .i64 0, .slice none 0 0, .slice none 0 0] 26)
  have HV := Lib.hid (hv.keep (w' := (w.alloc (.cells #[.int .i64 0, .slice none 0 0, .slice none 0 0] 26))) (by simp) (fun k hk _ => M2.out.bel.block k hk))
  clear hv
  go_enter Tryd.func11, Tryd.ntmps11
  go_wp2_with fail
  generalize (w.alloc (.cells #[.int .i64 0, .slice none 0 0, .slice none 0 0] 26)) = W at M2 HV ⊢
  have hW : w.heap.size < W.heap.size := M2.out.b0.lt
  refine (s_l1New v m _ (HV.out.mono (by omega)) hm).mono ?_; rintro e w1 ⟨c, rfl, hcw, hc1, b1⟩
  have M3 := Lib.hid (M2.out.call b1)
  have HC := Lib.hid hc1
  clear b1 hc1
  go_wp2_with fail
  refine (s_l6Any c _ HC.out).mono ?_; rintro e w2 ⟨n, vf, vt, f, t, rfl, hf, ht, hc2, hg2⟩
  have M4 := Lib.hid (((M3.out.chgC HC.out hg2 (by omega) ⟨by omega, trivial⟩).addI hf).addI ht)
  obtain ⟨a1, c1, rfl, _, _⟩ := hf.shape
  obtain ⟨a2, c2, rfl, _, _⟩ := ht.shape
  clear hf ht hc2 hg2
  obtain ⟨u0, u1, u2⟩ := blk3 M4.out.b0
  obtain ⟨f0, f1, f2⟩ := frz3 M4.out.b0
  have HX := Lib.hid (quiv_fin M4.out.bel M4.out.b0 (Nat.le_refl _) (n := n) M4.out.i1 M4.out.i0)
  unfold set3 at HX
  go_wp2
  refine bodyPost_ret (v := .agg #[.int .i64 n, .slice a1 f.length c1, .slice a2 t.length c2]) (by simp [results, Tryd.results11, go_sem, HX.out.2.2.2.cell 0, HX.out.2.2.2.cell 1, HX.out.2.2.2.cell 2]) rfl ?_
  exact ⟨n, _, _, f, t, rfl, HX.out.1, HX.out.2.1, HX.out.2.2.1⟩
set_option maxRecDepth 100000 in
set_option maxHeartbeats 4000000 in
theorem s_l7Three (v : Value) (m : Nat) (w : World) (hv : Byt w v m w.heap.size) (hm : m ≤ 1048576) : Calls Tryd.prog 43 #[v] w (DrQII w) := by
  have M2 := Lib.hid ((MB.start w).alloc #[.int .i64 0, .slice none 0 0, .slice none 0 0] 26)
  have HV := Lib.hid (hv.keep (w' := (w.alloc (.cells #[.int .i64 0, .slice none 0 0, .slice none 0 0] 26))) (by simp) (fun k hk _ => M2.out.bel.block k hk))
  clear hv
  go_enter Tryd.func43, Tryd.ntmps43
  go_wp2_with fail
  generalize (w.alloc (.cells #[.int .i64 0, .slice none 0 0, .slice none 0 0] 26)) = W at M2 HV ⊢
  have hW : w.heap.size < W.heap.size := M2.out.b0.lt
  refine (s_l1New v m _ (HV.out.mono (by omega)) hm).mono ?_; rintro e w1 ⟨c, rfl, hcw, hc1, b1⟩
  have M3 := Lib.hid (M2.out.call b1)
  have HC := Lib.hid hc1
  clear b1 hc1
  go_wp2_with fail
  refine (s_l6Any c _ HC.out).mono ?_; rintro e w2 ⟨n, vf, vt, f, t, rfl, hf, ht, hc2, hg2⟩
  have M4 := Lib.hid (((M3.out.chgC HC.out hg2 (by omega) ⟨by omega, trivial⟩).addI hf).addI ht)
  have hs2 : w.heap.size < w2.heap.size := M4.out.b0.lt
  have hc2s := hc2.lt
  obtain ⟨a1, c1, rfl, _, _⟩ := hf.shape
  obtain ⟨a2, c2, rfl, _, _⟩ := ht.shape
  have M5 := Lib.hid (M4.out.alloc #[.int .i64 n, .slice a1 f.length c1, .slice a2 t.length c2] 26)
  have HC5 := Lib.hid (hc2.below ((Below.refl _ w2).alloc (Nat.le_refl _) (.cells #[.int .i64 n, .slice a1 f.length c1, .slice a2 t.length c2] 26)))
  clear hf ht hc2 hg2
  obtain ⟨u0, u1, u2⟩ := blk3 M5.out.b0
  go_wp2_with fail
  refine (s_l1Below c _ _ HC5.out).mono ?_; rintro e w3 ⟨x, hx, rfl, hc3, hg3⟩
  have M6 := Lib.hid (M5.out.chgC HC5.out hg3 (by omega) ⟨by omega, by omega, trivial⟩)
  have HC6 := Lib.hid hc3
  have hx2 : 0 ≤ x ∧ x < 5 := by rcases hx with h | h <;> omega
  clear hx hc3 hg3
  go_wp2_with fail
  refine (s_l1Below c _ _ HC6.out).mono ?_; rintro e w4 ⟨y, hy, rfl, hc4, hg4⟩
  have M7 := Lib.hid (M6.out.chgC HC6.out hg4 (by omega) ⟨by omega, by omega, trivial⟩)
  have HC7 := Lib.hid hc4
  have hy2 : y = 0 ∨ y = 1 := by rcases hy with h | h <;> omega
  clear hy hc4 hg4
  go_wp2_with fail
  refine (s_l1Below c _ _ HC7.out).mono ?_; rintro e w5 ⟨z, hz, rfl, hc5, hg5⟩
  have M8 := Lib.hid (M7.out.chgC HC7.out hg5 (by omega) ⟨by omega, by omega, trivial⟩)
  have HC8 := Lib.hid hc5
  have hz2 : z = 0 ∨ z = 1 := by rcases hz with h | h <;> omega
  have hyz : 0 ≤ y * z ∧ y * z ≤ 1 := by rcases hy2 with rfl | rfl <;> rcases hz2 with rfl | rfl <;> simp
  clear hz hc5 hg5 u0 u1 u2
  obtain ⟨p, hp⟩ : ∃ p, p = y * z := ⟨_, rfl⟩
  rw [← hp] at hyz
  have M9 : Hid (MB w _ _ w5.drew) := Lib.hid M8.out.drew
  have HC9 : Hid (Cur w5.drew c) := Lib.hid HC8.out
  obtain ⟨u0, u1, u2⟩ := blk3 M9.out.b0
  have hw1 : IntKind.i64.wrap (y * z) = p := by rw [← hp]; exact IntWalk.i64_in _ (by omega)
  go_wp2_with fail
  go_region_law (first
    | (go_simp; go_at_call 33; (with_reducible refine (s_l1Below c _ _ HC9.out).mono ?_); rintro e w6 ⟨r, hr, rfl, hc6, hg6⟩; have m7 := M9.out.chgC HC9.out hg6 (by omega) ⟨by omega, by omega, trivial⟩; obtain ⟨z0, z1, z2⟩ := blk3 m7.b0; obtain ⟨x0, x1, x2⟩ := blk3 m7.b1; obtain ⟨f0, f1, f2⟩ := frz3 m7.b1; have hne1 : ¬ w.heap.size = w2.heap.size := (by omega)))
  all_goals
    have HX := Lib.hid (quiv_fin m7.bel m7.b1 (Nat.le_refl _) (n := n) m7.i1 m7.i0)
    unfold set3 at HX
    go_wp2
    refine bodyPost_ret (v := .tuple #[.agg #[.int .i64 n, .slice a1 f.length c1, .slice a2 t.length c2], .int .i64 _, .int .i64 _]) (by simp [results, Tryd.results43, go_sem, HX.out.2.2.2.cell 0, HX.out.2.2.2.cell 1, HX.out.2.2.2.cell 2]; exact ⟨rfl, rfl⟩) rfl ?_
    exact ⟨n, _, _, f, t, _, _, rfl, HX.out.1, HX.out.2.1, HX.out.2.2.1⟩
set_option maxRecDepth 100000 in
set_option maxHeartbeats 4000000 in
theorem s_DrawPathsBetween (v : Value) (m : Nat) (w : World) (hv : Byt w v m w.heap.size) (hm : m ≤ 1048576) : Calls Tryd.prog 19 #[v] w (DrQII w) := by
  have M2 := Lib.hid ((MB.start w).alloc #[.int .i64 0, .slice none 0 0, .slice none 0 0] 26)
  have HV := Lib.hid (hv.keep (w' := (w.alloc (.cells #[.int .i64 0, .slice none 0 0, .slice none 0 0] 26))) (by simp) (fun k hk _ => M2.out.bel.block k hk))
  clear hv
  go_enter Tryd.func19, Tryd.ntmps19
  go_wp2_with fail
  generalize (w.alloc (.cells #[.int .i64 0, .slice none 0 0, .slice none 0 0] 26)) = W at M2 HV ⊢
  have hW : w.heap.size < W.heap.size := M2.out.b0.lt
  refine (s_l7Three v m _ (HV.out.mono (by omega)) hm).mono ?_; rintro e w1 ⟨n, vf, vt, f, t, x, y, rfl, hf, ht, b1⟩
  have M3 := Lib.hid (((M2.out.call b1).addI hf).addI ht)
  have hs3 : w.heap.size < w1.heap.size := M3.out.b0.lt
  obtain ⟨a1, c1, rfl, _, _⟩ := hf.shape
  obtain ⟨a2, c2, rfl, _, _⟩ := ht.shape
  have M4 := Lib.hid (M3.out.alloc #[.int .i64 n, .slice a1 f.length c1, .slice a2 t.length c2] 26)
  clear hf ht b1
  go_upto_region 2 with fail
  generalize (w1.alloc (.cells #[.int .i64 n, .slice a1 f.length c1, .slice a2 t.length c2] 26)) = w4 at M4 ⊢
  obtain ⟨y0, y1, y2⟩ := blk3 M4.out.b0
  obtain ⟨u0, u1, u2⟩ := blk3 M4.out.b1
  obtain ⟨f0, f1, f2⟩ := frz3 M4.out.b1
  have hne1 : ¬ w.heap.size = w1.heap.size := by omega
  have HX := Lib.hid (quiv_fin M4.out.bel M4.out.b1 (Nat.le_refl _) (n := n) M4.out.i1 M4.out.i0)
  unfold set3 at HX
  go_wp2
  refine bodyPost_ret (v := .tuple #[.agg #[.int .i64 n, .slice a1 f.length c1, .slice a2 t.length c2], .int .i64 x, .int .i64 y]) (by simp [results, Tryd.results19, go_sem, HX.out.2.2.2.cell 0, HX.out.2.2.2.cell 1, HX.out.2.2.2.cell 2]) rfl ?_
  exact ⟨n, _, _, f, t, _, _, rfl, HX.out.1, HX.out.2.1, HX.out.2.2.1⟩
end Go.Proofs.YtndooeffjkofdaaDoor
