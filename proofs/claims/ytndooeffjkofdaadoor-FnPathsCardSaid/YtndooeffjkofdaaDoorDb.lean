/- FnPaths: l6Any: a quiver is drawn, sometimes spoilt. -/
import Derived.Test.YtndooeffjkofdaaDoorDa
namespace Go.Proofs.YtndooeffjkofdaaDoor
open Go.RowKit
set_option linter.unusedVariables false
set_option linter.unusedSimpArgs false

/-- a quiver was drawn -/
def DrawnR (c : Nat) (w : World) (e : Ending) (w' : World) : Prop :=
  ∃ (n : Int) (vf vt : Value) (lf lt : List Int), e = .returned (.agg #[.int .i64 n, vf, vt]) ∧ Ints w' vf lf ∧ Ints w' vt lt ∧ Cur w' c ∧ CChg c w w'
theorem GQ.finish {c b : Nat} {n : Int} {vf vt : Value} {lf lt : List Int} {w wr : World} (h : GQ c w.heap.size w.heap.size b n vf vt vf vt lf lt w wr) (_ _ : True) :
    DrawnR c w (.returned (.agg #[.int .i64 n, vf, vt])) (set3 wr w.heap.size (.int .i64 n) vf vt) ∧ Blk (set3 wr w.heap.size (.int .i64 n) vf vt) w.heap.size #[.int .i64 n, vf, vt] 26 := by
  have h9 := h.2.2.2.2.2.2.2.2
  have hcl := h9.2.2.2.2.2
  refine ⟨⟨n, vf, vt, lf, lt, rfl, (Ints.of_own (set3_own h.2.2.1 (fun q hq => (h9.1 q hq).2) _ _ _)).1, (Ints.of_own (set3_own h.2.2.2.1 (fun q hq => (h9.2.1 q hq).2) _ _ _)).1,
    ((h.2.2.2.2.2.1.setFar (p := ⟨w.heap.size, 0, none⟩) hcl (.int .i64 n)).setFar (p := ⟨w.heap.size, 1, none⟩) hcl vf).setFar (p := ⟨w.heap.size, 2, none⟩) hcl vt,
    TChg.cchg (((h.2.2.2.2.2.2.1.setCell (p := ⟨w.heap.size, 0, none⟩) (Nat.le_refl _) (.int .i64 n)).setCell (p := ⟨w.heap.size, 1, none⟩) (Nat.le_refl _) vf).setCell (p := ⟨w.heap.size, 2, none⟩) (Nat.le_refl _) vt) (Nat.le_refl _)⟩, h.2.1.blk_set _ _ _⟩
/-- the struct is another one -/
theorem GQ.other {c B t b : Nat} {n m : Int} {cf ct vf vt uf ut : Value} {lf lt kf kt : List Int} {w0 u w : World} (h : GQ c B t b n cf ct vf vt lf lt w0 u) (hb : Below u.heap.size u w) (h1 : Own w u.heap.size 3 .i64 uf kf) (h2 : Own w u.heap.size 3 .i64 ut kt) (hd : ∀ k, uf.ownBlock = some k → ut.ownBlock ≠ some k) :
    GQ c B t b m uf ut uf ut kf kt w0 (set3 w b (.int .i64 m) uf ut) := by
  obtain ⟨k1, ⟨x, y, z, k2⟩, k3, k4, k5, k6, k7, k8, k9, k10, k11, k12, k13, k14⟩ := h
  have hbl := k1.lt
  have htl := k2.lt
  have hn1 : ∀ q, uf.ownBlock = some q → q ≠ b ∧ q ≠ t := fun q hq => by have := (World.ownsRow.lt h1 q hq).1; omega
  have hn2 : ∀ q, ut.ownBlock = some q → q ≠ b ∧ q ≠ t := fun q hq => by have := (World.ownsRow.lt h2 q hq).1; omega
  have hsz : (set3 w b (.int .i64 m) uf ut).heap.size = w.heap.size := by simp [set3]
  refine ⟨set3_blk (k1.below hb) _ _ _, ⟨x, y, z, (set3_other _ _ _ k13).trans (k2.below hb)⟩, (set3_own h1 (fun q hq => (hn1 q hq).1) _ _ _).mono k8, (set3_own h2 (fun q hq => (hn2 q hq).1) _ _ _).mono k8, hd,
    ((((k6.below hb).setFar (p := ⟨b, 0, none⟩) (by show c < b; omega) _).setFar (p := ⟨b, 1, none⟩) (by show c < b; omega) _).setFar (p := ⟨b, 2, none⟩) (by show c < b; omega) _),
    ((((k7.trans (TChg.of_b (hb.mono k8))).setCell (p := ⟨b, 0, none⟩) k11 _).setCell (p := ⟨b, 1, none⟩) k11 _).setCell (p := ⟨b, 2, none⟩) k11 _), by rw [hsz]; exact Nat.le_trans k8 hb.size, hn1, hn2, k11, k12, k13, k14⟩
set_option maxRecDepth 100000 in
set_option maxHeartbeats 8000000 in
theorem s_l6Any (c : Nat) (w : World) (hcur : Cur w c) : Calls Tryd.prog 28 #[.pointer (some ⟨c, 0, none⟩)] w (DrawnR c w) := by
  have hcl := hcur.lt
  have hb0 : Below w.heap.size w (w.alloc (.cells #[.int .i64 0, .slice none 0 0, .slice none 0 0] 26)) := (Below.refl _ w).alloc (Nat.le_refl _) _
  have HR0 := Lib.hid (Blk.new w #[.int .i64 0, .slice none 0 0, .slice none 0 0] 26)
  have H0 := Lib.hid (And.intro (hcur.below hb0) (TChg.of_b (c := c) hb0))
  clear hcur hb0
  go_enter Tryd.func28, Tryd.ntmps28
  go_wp2_with fail
  refine (s_l6Acyclic c _ H0.out.1).mono ?_; rintro e w1 ⟨n, vf, vt, lf, lt, rfl, h1, h2, hd, hl1, hl2, hc1, hg1⟩
  have hs1 : w.heap.size + 1 ≤ w1.heap.size := by have := hg1.size; simpa using this
  rw [World.size_alloc] at h1 h2
  have Q0 : Hid (GQ c w.heap.size w.heap.size w1.heap.size n vf vt vf vt lf lt w (w1.alloc (.cells #[.int .i64 n, vf, vt] 26))) := by
    have ba : Below w1.heap.size w1 (w1.alloc (.cells #[.int .i64 n, vf, vt] 26)) := (Below.refl _ w1).alloc (Nat.le_refl _) _
    refine ⟨Blk.new w1 _ _, ⟨_, _, _, (show Blk w1 w.heap.size #[.int .i64 0, .slice none 0 0, .slice none 0 0] 26 from (hg1.block _ (by simp) (by omega)).trans HR0.out).below ba⟩, (h1.mono (by omega)).alloc _, (h2.mono (by omega)).alloc _, hd, hc1.below ba, (H0.out.2.trans (TChg.of_c hg1)).trans (TChg.of_b (ba.mono (by omega))), by simp; omega, fun q hq => ?_, fun q hq => ?_, by omega, Nat.le_refl _, by omega, hcl⟩
    · have := World.ownsRow.lt h1 q hq; omega
    · have := World.ownsRow.lt h2 q hq; omega
  obtain ⟨af, cf, rfl, _, _⟩ := (Ints.of_own h1).1.shape
  obtain ⟨at', ct, rfl, _, _⟩ := (Ints.of_own h2).1.shape
  obtain ⟨b, hb⟩ : ∃ b, b = w1.heap.size := ⟨_, rfl⟩
  rw [← hb] at Q0
  clear h1 h2 hd hc1 hg1
  go_wp2_with fail
  simp only [← hb]
  generalize w1.alloc (.cells #[.int .i64 n, .slice af lf.length cf, .slice at' lt.length ct] 26) = w2 at Q0 ⊢
  clear hb
  refine (s_l1Below c _ _ Q0.out.2.2.2.2.2.1).mono ?_; rintro e w3 ⟨m, hm, rfl, hc3, hg3⟩
  have Q3 := Lib.hid (Q0.out.chg hc3 hg3)
  clear hc3 hg3 hm
  obtain ⟨u0, u1, u2⟩ := blk3 Q3.out.1
  by_cases e0 : m = 0
  · subst e0
    have hal : Below w3.heap.size w3 (w3.alloc (.cells #[.string ⟨#[108, 111, 111, 112]⟩, .string ⟨#[99, 105, 114, 99, 108, 101]⟩] 9)) := (Below.refl _ w3).alloc (Nat.le_refl _) _
    go_wp2_with fail
    refine (pick_two c _ _ w3 Q3.out.2.2.2.2.2.1).mono ?_; rintro e w4 ⟨s, rfl, hc4, hg4⟩
    have Q4 := Lib.hid (Q3.out.chg hc4 hg4)
    clear hc4 hg4 hal u0 u1 u2
    go_wp2_with fail
    refine (s_NamedQuiverO s _).mono ?_; rintro e w5 ⟨n5, vf5, vt5, lf5, lt5, ok5, rfl, k1, k2, kd, kl1, kl2, b5⟩
    obtain ⟨af5, cf5, rfl, _, _⟩ := (Ints.of_own k1).1.shape
    obtain ⟨at5, ct5, rfl, _, _⟩ := (Ints.of_own k2).1.shape
    have Q5 := Lib.hid (Q4.out.other (m := n5) b5 k1 k2 kd)
    have hb5 := Q4.out.1.below b5
    obtain ⟨u0, u1, u2⟩ := blk3 hb5
    have f0 := hb5.frozen 0; have f1 := hb5.frozen 1; have f2 := hb5.frozen 2
    have Q5' := Q5.out
    obtain ⟨y0, y1, y2, q0, q1, q2, t0, t1, t2⟩ := Q5'.2.1.open_
    have HX := Lib.hid (Q5'.finish trivial trivial)
    unfold set3 at HX
    unfold set3 at q0 q1 q2 t0 t1 t2
    clear k1 k2 kd b5 hb5 Q5'
    go_wp2
    refine bodyPost_ret (v := .agg #[.int .i64 n5, .slice af5 lf5.length cf5, .slice at5 lt5.length ct5]) (by simp [results, Tryd.results28, go_sem, HX.out.2.cell 0, HX.out.2.cell 1, HX.out.2.cell 2]) rfl ?_
    exact HX.out.1
  by_cases e1 : m = 1
  · subst e1
    have hcon := pick_lit c [0, 6, -1, 2] (by decide) (by decide) w3 Q3.out.2.2.2.2.2.1
    go_wp2_with fail
    refine hcon.mono ?_; rintro e w4 ⟨n4, _, rfl, hc4, hg4⟩
    have Q4 := Lib.hid (Q3.out.chg hc4 hg4)
    have Q5 := Lib.hid (Q4.out.store0 n4)
    clear hc4 hg4 hcon u0 u1 u2
    obtain ⟨u0, u1, u2⟩ := blk3 Q4.out.1
    have f0 := Q4.out.1.frozen 0
    obtain ⟨y0, y1, y2, q0, q1, q2, t0, t1, t2⟩ := Q5.out.2.1.open_
    have HX := Lib.hid (Q5.out.finish trivial trivial)
    unfold set3 at HX
    go_wp2
    refine bodyPost_ret (v := .agg #[.int .i64 n4, .slice af lf.length cf, (.slice at' lt.length ct)]) (by simp [results, Tryd.results28, go_sem, HX.out.2.cell 0, HX.out.2.cell 1, HX.out.2.cell 2]) rfl ?_
    exact HX.out.1
  by_cases e2 : m = 2
  · subst e2
    have HC := Lib.hid Q3.out.drew.2.2.2.2.2.1
    have hf1 := Q3.out.1.frozen 1
    have ex0 : ((2 : Int) == 0) = false := by decide
    have ex1 : ((2 : Int) == 1) = false := by decide
    go_wp2
    go_region_law (first
      | (refine step_app_any3 (w4.alloc (.cells #[.int .i64 (d - 1)] 3)) (by rfl) (.tmp 26) (.tmp 30) (by rfl) w.heap.size _ _ lf [d - 1] (by rfl) (by rfl) (q4.alloc (.cells #[.int .i64 (d - 1)] 3)).2.2.1 (Ints.of_own (own_1 w4 (d - 1))).1 (by have := q4.2.2.2.2.2.2.2.1; simp; omega) (by simp; omega) ?_; intro v2 w5 ho5 hg5 hloc5; have q5 := (q4.alloc (.cells #[.int .i64 (d - 1)] 3)).grow hg5 ho5 hloc5; obtain ⟨a2', c2', rfl, _, _⟩ := (Ints.of_own ho5).1.shape; rw [List.length_append] at q5 ⊢; obtain ⟨z0, z1, z2⟩ := blk3 q5.1; have fz := q5.1.frozen 1)
      | (go_simp; go_at_call 33; (with_reducible refine (s_l1Below c _ _ HC.out).mono ?_); rintro e w4 ⟨d, hd, rfl, hc4, hg4⟩; have q4 := Q3.out.drew.chg hc4 hg4; have hl4 := (blk3 q4.1).2.1; have hl5 := (blk3 (q4.alloc (.cells #[.int .i64 (d - 1)] 3)).1).2.1; have hd2 : 0 ≤ d ∧ d < 10 := (by rcases hd with h | h <;> omega); have hw4 : IntKind.i64.wrap (d - 1) = d - 1 := IntWalk.i64_in _ (by omega)))
    all_goals
      have Q5 : Hid (GQ c w.heap.size w.heap.size b n (.slice a2' (lf.length + 1) c2') (.slice at' lt.length ct) (.slice a2' (lf.length + 1) c2') (.slice at' lt.length ct) (lf ++ [d - 1]) lt w (w5.setCell ⟨b, 1, none⟩ (.slice a2' (lf.length + 1) c2'))) := Lib.hid q5.store1
      generalize w5.setCell ⟨b, 1, none⟩ (.slice a2' (lf.length + 1) c2') = w6 at Q5 ⊢
      clear z0 z1 z2
      obtain ⟨z0, z1, z2⟩ := blk3 Q5.out.1
      obtain ⟨y0, y1, y2, q0, q1, q2, t0, t1, t2⟩ := Q5.out.2.1.open_
      have HX := Lib.hid (Q5.out.finish trivial trivial)
      unfold set3 at HX
      clear q5 ho5 hg5 hloc5 q4 hc4 hg4 hl4 hl5 u0 u1 u2 hf1 hw4
      go_wp2
      refine bodyPost_ret (v := .agg #[.int .i64 n, (.slice a2' (lf.length + 1) c2'), (.slice at' lt.length ct)]) (by simp [results, Tryd.results28, go_sem, HX.out.2.cell 0, HX.out.2.cell 1, HX.out.2.cell 2]) rfl ?_
      exact HX.out.1
  have ex0 : (m == 0) = false := by simpa using e0
  have ex1 : (m == 1) = false := by simpa using e1
  have ex2 : (m == 2) = false := by simpa using e2
  obtain ⟨y0, y1, y2, q0, q1, q2, t0, t1, t2⟩ := Q3.out.2.1.open_
  have HX := Lib.hid (Q3.out.finish trivial trivial)
  unfold set3 at HX
  go_wp2
  refine bodyPost_ret (v := .agg #[.int .i64 n, (.slice af lf.length cf), (.slice at' lt.length ct)]) (by simp [results, Tryd.results28, go_sem, HX.out.2.cell 0, HX.out.2.cell 1, HX.out.2.cell 2]) rfl ?_
  exact HX.out.1
end Go.Proofs.YtndooeffjkofdaaDoor
