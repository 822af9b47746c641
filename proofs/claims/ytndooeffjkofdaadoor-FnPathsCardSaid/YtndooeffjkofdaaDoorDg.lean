/- FnPaths: DrawEqualPaths. -/
import Derived.Test.YtndooeffjkofdaaDoorDe
namespace Go.Proofs.YtndooeffjkofdaaDoor
open Go.RowKit
set_option linter.unusedVariables false
set_option linter.unusedSimpArgs false

/-- two paths were drawn -/
def DrPP (w : World) (e : Ending) (w' : World) : Prop :=
  ∃ (s : Int) (va : Value) (la : List Int) (s2 : Int) (vb : Value) (lb : List Int), e = .returned (.tuple #[.agg #[.int .i64 s, va], .agg #[.int .i64 s2, vb]]) ∧ Ints w' va la ∧ Ints w' vb lb ∧ Below w.heap.size w w'
theorem DrPP.fin {w0 w : World} {r2 r3 : Nat} {y0 y1 z0 z1 : Value} (hb : Below w0.heap.size w0 w) (h2 : Blk w r2 #[y0, y1] 28) (h3 : Blk w r3 #[z0, z1] 28) (hr2 : w0.heap.size ≤ r2) (hr3 : w0.heap.size ≤ r3) (hne3 : r2 ≠ r3)
    {s : Int} {va : Value} {la : List Int} {s2 : Int} {vb : Value} {lb : List Int} (ha : Ints w va la) (hv : Ints w vb lb) :
    DrPP w0 (.returned (.tuple #[.agg #[.int .i64 s, va], .agg #[.int .i64 s2, vb]])) (set2 (set2 w r2 (.int .i64 s) va) r3 (.int .i64 s2) vb) ∧
    Blk (set2 (set2 w r2 (.int .i64 s) va) r3 (.int .i64 s2) vb) r2 #[.int .i64 s, va] 28 ∧ Blk (set2 (set2 w r2 (.int .i64 s) va) r3 (.int .i64 s2) vb) r3 #[.int .i64 s2, vb] 28 := by
  have m2 := set2_blk h2 (.int .i64 s) va
  have m3 : Blk (set2 w r2 (.int .i64 s) va) r3 #[z0, z1] 28 := (set2_other _ _ (fun e => hne3 e.symm)).trans h3
  have hI : ∀ v l, Ints w v l → Ints (set2 (set2 w r2 (.int .i64 s) va) r3 (.int .i64 s2) vb) v l := fun v l hv => by
    have i2 := set2_ints hv (far_path hv h2) (.int .i64 s) va
    exact set2_ints i2 (far_path i2 m3) _ _
  exact ⟨⟨s, va, la, s2, vb, lb, rfl, hI _ _ ha, hI _ _ hv, set2_below (set2_below hb hr2 _ _) hr3 _ _⟩, (set2_other _ _ hne3).trans m2, set2_blk m3 _ _⟩
theorem DrPP.find {w0 w : World} {r2 r3 : Nat} {y0 y1 z0 z1 : Value} (hb : Below w0.heap.size w0 w) (h2 : Blk w r2 #[y0, y1] 28) (h3 : Blk w r3 #[z0, z1] 28) (hr2 : w0.heap.size ≤ r2) (hr3 : w0.heap.size ≤ r3) (hne3 : r2 ≠ r3)
    {s : Int} {va : Value} {la : List Int} {s2 : Int} {vb : Value} {lb : List Int} (ha : Ints w va la) (hv : Ints w vb lb) :
    DrPP w0 (.returned (.tuple #[.agg #[.int .i64 s, va], .agg #[.int .i64 s2, vb]])) (set2 (set2 w r2 (.int .i64 s) va) r3 (.int .i64 s2) vb).drew ∧
    Blk (set2 (set2 w r2 (.int .i64 s) va) r3 (.int .i64 s2) vb) r2 #[.int .i64 s, va] 28 ∧ Blk (set2 (set2 w r2 (.int .i64 s) va) r3 (.int .i64 s2) vb) r3 #[.int .i64 s2, vb] 28 := by
  obtain ⟨⟨s', va', la', s2', vb', lb', e, k1, k2, k3⟩, h4, h5⟩ := DrPP.fin (s := s) (s2 := s2) hb h2 h3 hr2 hr3 hne3 ha hv
  exact ⟨⟨s', va', la', s2', vb', lb', e, k1.drew, k2.drew, k3.drew⟩, h4, h5⟩
set_option maxRecDepth 100000 in
set_option maxHeartbeats 8000000 in
theorem s_DrawEqualPaths (v : Value) (m : Nat) (w : World) (hv : Byt w v m w.heap.size) (hm : m ≤ 1048576) : Calls Tryd.prog 22 #[v] w (DrPP w) := by
  have M2 := Lib.hid (((MB.start w).alloc #[.int .i64 0, .slice none 0 0] 28).alloc #[.int .i64 0, .slice none 0 0] 28)
  have hs2 : (w.alloc (.cells #[.int .i64 0, .slice none 0 0] 28)).heap.size = w.heap.size + 1 := by simp
  rw [hs2] at M2
  have HV := Lib.hid (hv.keep (w' := (w.alloc (.cells #[.int .i64 0, .slice none 0 0] 28)).alloc (.cells #[.int .i64 0, .slice none 0 0] 28)) (by simp; omega) (fun k hk _ => M2.out.bel.block k hk))
  clear hv hs2
  go_enter Tryd.func22, Tryd.ntmps22
  go_wp2_with fail
  generalize ((w.alloc (.cells #[.int .i64 0, .slice none 0 0] 28)).alloc (.cells #[.int .i64 0, .slice none 0 0] 28)) = W at M2 HV ⊢
  have hW : w.heap.size + 1 < W.heap.size := M2.out.b0.lt
  refine (s_l1New v m _ (HV.out.mono (by omega)) hm).mono ?_; rintro e w1 ⟨c, rfl, hcw, hc1, b1⟩
  have M3 := Lib.hid (M2.out.call b1)
  have HC := Lib.hid hc1
  clear b1 hc1
  go_wp2_with fail
  refine (s_l6Any c _ HC.out).mono ?_; rintro e w2 ⟨n, vf, vt, f, t, rfl, hf, ht, hc2, hg2⟩
  have M4 := Lib.hid (((M3.out.chgC HC.out hg2 (by omega) ⟨by omega, by omega, trivial⟩).addI hf).addI ht)
  have hs2 : w.heap.size + 1 < w2.heap.size := M4.out.b0.lt
  have hc2s := hc2.lt
  obtain ⟨a1, c1, rfl, _, _⟩ := hf.shape
  obtain ⟨a2, c2, rfl, _, _⟩ := ht.shape
  have M5 := Lib.hid (M4.out.alloc #[.int .i64 n, .slice a1 f.length c1, .slice a2 t.length c2] 26)
  have HC5 := Lib.hid (hc2.below ((Below.refl _ w2).alloc (Nat.le_refl _) (.cells #[.int .i64 n, .slice a1 f.length c1, .slice a2 t.length c2] 26)))
  obtain ⟨q, hq⟩ : ∃ q, q = w2.heap.size := ⟨_, rfl⟩
  have HQ := Lib.hid hq
  rw [← hq] at M5
  have hqs : q < (w2.alloc (.cells #[.int .i64 n, .slice a1 f.length c1, .slice a2 t.length c2] 26)).heap.size := M5.out.b0.lt
  clear hf ht hc2 hg2
  obtain ⟨u0, u1, u2⟩ := blk3 M5.out.b0
  go_upto_region 3 with fail
  simp only [← HQ.out]
  generalize w2.alloc (.cells #[.int .i64 n, .slice a1 f.length c1, .slice a2 t.length c2] 26) = w3 at M5 HC5 u0 u1 u2 hqs ⊢
  have hq1 : w.heap.size + 1 < q := by omega
  have hq2 : c < q := by omega
  clear hq
  go_wp2_with fail
  refine (s_l7Path c _ _ _ f t _ HC5.out M5.out.i1 M5.out.i0).mono ?_; rintro e w4 ⟨s, va, la, rfl, ha, hla, hc4, hg4⟩
  have M6 := Lib.hid ((M5.out.chgC HC5.out hg4 (by omega) ⟨by omega, by omega, by omega, trivial⟩).addI ha)
  have hs4 : q < w4.heap.size := M6.out.b0.lt
  obtain ⟨a3, c3, rfl, _, _⟩ := ha.shape
  have M7 := Lib.hid (M6.out.alloc #[.int .i64 s, .slice a3 la.length c3] 28)
  have HC7 := Lib.hid (hc4.below ((Below.refl _ w4).alloc (Nat.le_refl _) (.cells #[.int .i64 s, .slice a3 la.length c3] 28)))
  obtain ⟨p, hp⟩ : ∃ p, p = w4.heap.size := ⟨_, rfl⟩
  have HP := Lib.hid hp
  rw [← hp] at M7
  have hps : p < (w4.alloc (.cells #[.int .i64 s, .slice a3 la.length c3] 28)).heap.size := M7.out.b0.lt
  clear ha hc4 hg4 u0 u1 u2
  go_upto_region 4 with fail
  simp only [← HP.out]
  generalize w4.alloc (.cells #[.int .i64 s, .slice a3 la.length c3] 28) = w5 at M7 HC7 hps ⊢
  have hp1 : q < p := by omega
  clear hp
  go_wp2_with fail
  refine (s_l1Once c _ _ HC7.out).mono ?_; rintro e w6 ⟨bb, rfl, hc6, hg6⟩
  have M8 := Lib.hid (M7.out.chgC HC7.out hg6 (by omega) ⟨by omega, by omega, by omega, by omega, trivial⟩)
  have HC8 := Lib.hid hc6
  have hs6 : p < w6.heap.size := M8.out.b0.lt
  clear hc6 hg6
  obtain ⟨v0, v1⟩ := blk2 M8.out.b0
  cases bb with
  | false =>
    obtain ⟨u0, u1, u2⟩ := blk3 M8.out.b1
    go_wp2_with fail
    have M9 : Hid (MB w _ _ w6.drew) := Lib.hid M8.out.drew
    have HC9 : Hid (Cur w6.drew c) := Lib.hid HC8.out
    go_region_law (first
      | (go_simp; go_at_call 29; (with_reducible refine (s_l7Path c _ _ _ f t _ HC9.out M9.out.i2 M9.out.i1).mono ?_); rintro e w7 ⟨s2, vb, lb, rfl, hb, hlb, hc7, hg7⟩; have m7 := (M9.out.chgC HC9.out hg7 (by omega) ⟨by omega, by omega, by omega, by omega, trivial⟩).addI hb; obtain ⟨a4, c4, rfl, _, _⟩ := hb.shape; obtain ⟨z0, z1⟩ := blk2 m7.b0; obtain ⟨y0, y1⟩ := blk2 m7.b2; obtain ⟨x0, x1⟩ := blk2 m7.b3; obtain ⟨g0, g1⟩ := frz2 m7.b2; obtain ⟨f0, f1⟩ := frz2 m7.b3; have hne1 : ¬ w.heap.size = p := (by omega); have hne2 : ¬ w.heap.size + 1 = p := (by omega)))
    all_goals
      have HX := Lib.hid (DrPP.fin m7.bel m7.b3 m7.b2 (Nat.le_refl _) (by omega) (by omega) m7.i1 m7.i0 (s := s) (s2 := s2))
      unfold set2 at HX
      go_wp2
      refine bodyPost_ret (v := .tuple #[.agg #[.int .i64 s, .slice a3 la.length c3], .agg #[.int .i64 s2, .slice a4 lb.length c4]]) (by simp [results, Tryd.results22, go_sem, HX.out.2.1.cell 0, HX.out.2.1.cell 1, HX.out.2.2.cell 0, HX.out.2.2.cell 1]) rfl ?_
      exact HX.out.1
  | true =>
    have ba : Below w6.heap.size w6 (w6.alloc (.cells #[] 3)).drew := ((Below.refl _ w6).alloc (Nat.le_refl _) _).drew
    have M9 := Lib.hid (M8.out.call ba)
    have HBA := Lib.hid ba
    have HOW : Hid (Own (w6.alloc (.cells #[] 3)).drew w6.heap.size 3 .i64 (.slice (some ⟨w6.heap.size, 0, none⟩) 0 0) []) := Lib.hid ((Own.made w6 3 .i64 (Nat.le_refl _)).drewN 1)
    clear ba
    obtain ⟨v2, v3⟩ := blk2 M9.out.b0
    go_wp2_with fail
    go_region_law (first
      | (refine step_app_any3 (w6.alloc (.cells #[] 3)).drew (by rfl) (.tmp 19) (.tmp 21) (by rfl) w6.heap.size _ _ [] la (by rfl) (by rfl) HOW.out M9.out.i0 (by show w6.heap.size ≤ (w6.alloc (.cells #[] 3)).heap.size; simp) (by simp; omega) ?_; intro vb w7 ho7 hg7 hloc7; have b7 : Below w6.heap.size w6 w7 := Below.grown HBA.out hg7 (by show w6.heap.size ≤ (w6.alloc (.cells #[] 3)).heap.size; simp) (fun k hk => by simp [Value.ownBlock] at hk; omega); have hb : Ints w7 vb la := (Ints.of_own ho7).1; have m7 := (M8.out.call b7).addI hb; obtain ⟨a4, c4, rfl, _, _⟩ := hb.shape; obtain ⟨z0, z1⟩ := blk2 m7.b0; obtain ⟨y0, y1⟩ := blk2 m7.b2; obtain ⟨x0, x1⟩ := blk2 m7.b3; obtain ⟨g0, g1⟩ := frz2 m7.b2; obtain ⟨f0, f1⟩ := frz2 m7.b3; have hne1 : ¬ w.heap.size = p := (by omega); have hne2 : ¬ w.heap.size + 1 = p := (by omega)))
    all_goals
      have HX := Lib.hid (DrPP.fin m7.bel m7.b3 m7.b2 (Nat.le_refl _) (by omega) (by omega) m7.i1 m7.i0 (s := s) (s2 := s))
      unfold set2 at HX
      go_wp2
      refine bodyPost_ret (v := .tuple #[.agg #[.int .i64 s, .slice a3 la.length c3], .agg #[.int .i64 s, .slice a4 la.length c4]]) (by simp [results, Tryd.results22, go_sem, HX.out.2.1.cell 0, HX.out.2.1.cell 1, HX.out.2.2.cell 0, HX.out.2.2.cell 1]) rfl ?_
      exact HX.out.1
end Go.Proofs.YtndooeffjkofdaaDoor
