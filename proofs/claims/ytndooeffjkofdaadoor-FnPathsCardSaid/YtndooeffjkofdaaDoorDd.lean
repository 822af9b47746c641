/- FnPaths: the five Draw functions. -/
import Derived.Test.YtndooeffjkofdaaDoorDp
namespace Go.Proofs.YtndooeffjkofdaaDoor
open Go.RowKit
set_option linter.unusedVariables false
set_option linter.unusedSimpArgs false

theorem new_chgC {w w1 w2 : World} {c : Nat} (hc : w.heap.size ≤ c) (b : Below w.heap.size w w1) (g : CChg c w1 w2) : Below w.heap.size w w2 := b.trans (g.below b.size hc)
theorem allI.chgC {c : Nat} {w w' : World} (hc : Cur w c) (hg : CChg c w w') : ∀ {l : List (Value × List Int)}, allI w l → allI w' l
  | [], _ => trivial
  | _ :: _, h => ⟨h.1.chgC hc hg, allI.chgC hc hg h.2⟩
theorem MB.chgC {c : Nat} {w0 w w' : World} {ins bls} (h : MB w0 ins bls w) (hc : Cur w c) (hg : CChg c w w') (hw : w0.heap.size ≤ c) (hb : offB (fun k => k = c) bls) : MB w0 ins bls w' :=
  ⟨new_chgC hw h.bel hg, h.ins.chgC hc hg, h.bls.chg hg hb⟩
theorem far_quiv {w : World} {u : Value} {l : List Int} {g : Nat} {cs : Array Value} (h : Ints w u l) (hg : Blk w g cs 26) : ∀ k, blk u = some k → k ≠ g := by
  intro k hk e
  obtain ⟨a, cap, rfl, _, _, rfl | ⟨g2, off, cur2, rfl, hg2, _, _⟩⟩ := h
  · cases a <;> simp [blk] at hk
  · have hgk : g2 = k := by
      cases l with
      | nil => simp [blk] at hk
      | cons y l => simpa [blk] using hk
    rw [hgk, e, show w.heap[g]? = _ from hg] at hg2
    simp at hg2
/-- a quiver and a path were drawn -/
def DrQP (w : World) (e : Ending) (w' : World) : Prop :=
  ∃ (n : Int) (vf vt : Value) (f t : List Int) (s : Int) (va : Value) (la : List Int), e = .returned (.tuple #[.agg #[.int .i64 n, vf, vt], .agg #[.int .i64 s, va]]) ∧ Ints w' vf f ∧ Ints w' vt t ∧ Ints w' va la ∧ la.length ≤ 1000 ∧ Below w.heap.size w w'
/-- stored in the results' blocks -/
theorem DrQP.fin {w0 w : World} {r1 r2 : Nat} {x0 x1 x2 z0 z1 : Value} (hb : Below w0.heap.size w0 w) (h1 : Blk w r1 #[x0, x1, x2] 26) (h2 : Blk w r2 #[z0, z1] 28) (hr1 : w0.heap.size ≤ r1) (hr2 : w0.heap.size ≤ r2) (hne : r1 ≠ r2)
    {n : Int} {vf vt : Value} {f t : List Int} {s : Int} {va : Value} {la : List Int} (hf : Ints w vf f) (ht : Ints w vt t) (ha : Ints w va la) (hl : la.length ≤ 1000) :
    DrQP w0 (.returned (.tuple #[.agg #[.int .i64 n, vf, vt], .agg #[.int .i64 s, va]])) (set2 (set3 w r1 (.int .i64 n) vf vt) r2 (.int .i64 s) va) ∧
    Blk (set2 (set3 w r1 (.int .i64 n) vf vt) r2 (.int .i64 s) va) r1 #[.int .i64 n, vf, vt] 26 ∧ Blk (set2 (set3 w r1 (.int .i64 n) vf vt) r2 (.int .i64 s) va) r2 #[.int .i64 s, va] 28 := by
  have k1 := set3_blk h1 (.int .i64 n) vf vt
  have k2 : Blk (set3 w r1 (.int .i64 n) vf vt) r2 #[z0, z1] 28 := (set3_other _ _ _ (fun e => hne e.symm)).trans h2
  have k3 := set2_blk k2 (.int .i64 s) va
  have hI : ∀ v l, Ints w v l → Ints (set2 (set3 w r1 (.int .i64 n) vf vt) r2 (.int .i64 s) va) v l := fun v l hv => by
    have h3 := set3_ints hv (far_quiv hv h1) (.int .i64 n) vf vt
    exact set2_ints h3 (far_path h3 k2) _ _
  exact ⟨⟨n, vf, vt, f, t, s, va, la, rfl, hI _ _ hf, hI _ _ ht, hI _ _ ha, hl, set2_below (set3_below hb hr1 _ _ _) hr2 _ _⟩, (set2_other _ _ hne).trans k1, k3⟩
set_option maxRecDepth 100000 in
set_option maxHeartbeats 4000000 in
theorem s_l7Both (v : Value) (m : Nat) (w : World) (hv : Byt w v m w.heap.size) (hm : m ≤ 1048576) : Calls Tryd.prog 42 #[v] w (DrQP w) := by
  have M2 := Lib.hid (((MB.start w).alloc #[.int .i64 0, .slice none 0 0, .slice none 0 0] 26).alloc #[.int .i64 0, .slice none 0 0] 28)
  have hs2 : (w.alloc (.cells #[.int .i64 0, .slice none 0 0, .slice none 0 0] 26)).heap.size = w.heap.size + 1 := by simp
  rw [hs2] at M2
  have HV := Lib.hid (hv.keep (w' := (w.alloc (.cells #[.int .i64 0, .slice none 0 0, .slice none 0 0] 26)).alloc (.cells #[.int .i64 0, .slice none 0 0] 28)) (by simp; omega) (fun k hk _ => M2.out.bel.block k hk))
  clear hv hs2
  go_enter Tryd.func42, Tryd.ntmps42
  go_wp2_with fail
  generalize ((w.alloc (.cells #[.int .i64 0, .slice none 0 0, .slice none 0 0] 26)).alloc (.cells #[.int .i64 0, .slice none 0 0] 28)) = W at M2 HV ⊢
  have hW : w.heap.size + 1 < W.heap.size := M2.out.b0.lt
  refine (s_l1New v m _ (HV.out.mono (by omega)) hm).mono ?_; rintro e w1 ⟨c, rfl, hcw, hc1, b1⟩
  have M3 := Lib.hid (M2.out.call b1)
  have HC := Lib.hid hc1
  clear b1 hc1
  go_wp2_with fail
  refine (s_l6Any c _ HC.out).mono ?_; rintro e w2 ⟨n, vf, vt, f, t, rfl, hf, ht, hc2, hg2⟩
  have M4 := Lib.hid (((M3.out.chgC HC.out hg2 (by omega) ⟨by omega, by omega, trivial⟩).addI hf).addI ht)
  have hs2 : w.heap.size + 1 < w2.heap.size := M4.out.b0.lt
  have hc2s := hc2.lt
  obtain ⟨a1, c1, rfl, _, _⟩ := hf.shape
  obtain ⟨a2, c2, rfl, _, _⟩ := ht.shape
  have M5 := Lib.hid (M4.out.alloc #[.int .i64 n, .slice a1 f.length c1, .slice a2 t.length c2] 26)
  have HC5 := Lib.hid (hc2.below ((Below.refl _ w2).alloc (Nat.le_refl _) (.cells #[.int .i64 n, .slice a1 f.length c1, .slice a2 t.length c2] 26)))
  clear hf ht hc2 hg2
  obtain ⟨u0, u1, u2⟩ := blk3 M5.out.b0
  go_wp2_with fail
  have M6 : Hid (MB w _ _ (w2.alloc (.cells #[.int .i64 n, .slice a1 f.length c1, .slice a2 t.length c2] 26)).drew) := Lib.hid M5.out.drew
  have HC6 : Hid (Cur (w2.alloc (.cells #[.int .i64 n, .slice a1 f.length c1, .slice a2 t.length c2] 26)).drew c) := Lib.hid HC5.out
  go_region_law (first
    | (go_simp; go_at_call 29; (with_reducible refine (s_l7Path c _ _ _ f t _ HC6.out M6.out.i1 M6.out.i0).mono ?_); rintro e w3 ⟨s, va, la, rfl, ha, hla, hc3, hg3⟩; have m7 := (M6.out.chgC HC6.out hg3 (by omega) ⟨by omega, by omega, by omega, trivial⟩).addI ha; obtain ⟨a3, c3, rfl, _, _⟩ := ha.shape; obtain ⟨z0, z1, z2⟩ := blk3 m7.b0; obtain ⟨y0, y1⟩ := blk2 m7.b1; obtain ⟨x0, x1, x2⟩ := blk3 m7.b2; obtain ⟨g0, g1⟩ := frz2 m7.b1; obtain ⟨f0, f1, f2⟩ := frz3 m7.b2; have hne1 : ¬ w.heap.size = w2.heap.size := (by omega); have hne2 : ¬ w.heap.size + 1 = w2.heap.size := (by omega)))
  all_goals
    have HX := Lib.hid (DrQP.fin m7.bel m7.b2 m7.b1 (Nat.le_refl _) (by omega) (by omega) (n := n) m7.i2 m7.i1 m7.i0 (s := s) hla)
    unfold set2 set3 at HX
    go_wp2
    refine bodyPost_ret (v := .tuple #[.agg #[.int .i64 n, .slice a1 f.length c1, .slice a2 t.length c2], .agg #[.int .i64 s, .slice a3 la.length c3]]) (by simp [results, Tryd.results42, go_sem, HX.out.2.1.cell 0, HX.out.2.1.cell 1, HX.out.2.1.cell 2, HX.out.2.2.cell 0, HX.out.2.2.cell 1]) rfl ?_
    exact HX.out.1
end Go.Proofs.YtndooeffjkofdaaDoor
