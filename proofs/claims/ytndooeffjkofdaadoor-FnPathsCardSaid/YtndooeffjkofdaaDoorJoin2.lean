/- JoinPaths, of the program and of the reference: the paths are joined. -/
import Derived.Test.YtndooeffjkofdaaDoorJoin
import Derived.Test.YtndooeffjkofdaaDoorAppO
namespace Go.Proofs.YtndooeffjkofdaaDoor
open Go.RowKit
set_option linter.unusedVariables false
set_option linter.unusedSimpArgs false

theorem Res2.open_ {w : World} {b : Nat} {T : TypeId} (h : Res2 w b T) : ∃ x y, w.cell? ⟨b, 0, none⟩ = some x ∧ w.cell? ⟨b, 1, none⟩ = some y ∧ w.frozen? ⟨b, 0, none⟩ = false ∧ w.frozen? ⟨b, 1, none⟩ = false := by
  obtain ⟨x, y, h⟩ := h; exact ⟨x, y, h.cell 0, h.cell 1, h.frozen 0, h.frozen 1⟩
theorem join_in {w0 W w : World} {b : Nat} {v : Value} {l : List Int} {ins bls} (s : Int) (r : Res2 W b 28) (m : MB w0 ins bls W) (hb : Below W.heap.size W w) (hv : Ints w v l) (hf : FreshV W.heap.size v) (hw : w0.heap.size + 3 < W.heap.size) (e : b = w0.heap.size + 3 := by rfl) :
    Blk ((w.setCell ⟨b, 0, none⟩ (.int .i64 s)).setCell ⟨b, 1, none⟩ v) b #[.int .i64 s, v] 28 ∧
    PathOK s l true w0 (.returned (.tuple #[.agg #[.int .i64 s, v], .bool true])) ((w.setCell ⟨b, 0, none⟩ (.int .i64 s)).setCell ⟨b, 1, none⟩ v) :=
  ⟨(r.below hb).blk_set _ _, v, rfl, set2_ints hv (fun q hq h => by have := hf q hq; omega) _ _, hf.mono m.bel.size, set2_below (m.bel.trans (hb.mono m.bel.size)) (by omega) _ _⟩

set_option maxRecDepth 100000 in
set_option maxHeartbeats 8000000 in
theorem i_Join_no3 (n : Int) (vf vt : Value) (s : Int) (va : Value) (s' : Int) (vb : Value) (lf lt la lb : List Int) (w : World) (hf : Ints w vf lf) (ht : Ints w vt lt) (ha : Ints w va la) (hb : Ints w vb lb) (g0 : isP n lf lt s la = true) (g1 : isP n lf lt s' lb = true) (g2 : decide (endP n lf lt s la = s') = true) (g3 : decide (la.length + lb.length ≤ 20) = false) :
    Calls Tryd.prog 6 #[.agg #[.int .i64 n, vf, vt], .agg #[.int .i64 s, va], .agg #[.int .i64 s', vb]] w (PathOK 0 [] false w) := by
  have h20 := isP_20 g0; have h21 := isP_20 g1
  have hltf := Lib.hid hf.lt; have hltt := Lib.hid ht.lt; have hlta := Lib.hid ha.lt; have hltb := Lib.hid hb.lt
  obtain ⟨a1, c1, rfl, _, _⟩ := hf.shape
  obtain ⟨a2, c2, rfl, _, _⟩ := ht.shape
  obtain ⟨a3, c3, rfl, _, _⟩ := ha.shape
  obtain ⟨a4, c4, rfl, _, _⟩ := hb.shape
  have M := ((((((((MB.start w).addI hf).addI ht).addI ha).addI hb).alloc #[.int .i64 n, .slice a1 lf.length c1, .slice a2 lt.length c2] 26).alloc #[.int .i64 s, .slice a3 la.length c3] 28).alloc #[.int .i64 s', .slice a4 lb.length c4] 28).alloc #[.int .i64 0, .slice none 0 0] 28
  simp only [World.size_alloc] at M
  have M := Lib.hid M
  have G0 := Lib.hid g0
  have ge : (endP n lf lt s la != s') = false := by simpa using g2
  rw [endP_ok g0] at ge
  obtain ⟨E, hE⟩ : ∃ E, curP lt s la la.length = E := ⟨_, rfl⟩
  rw [hE] at ge
  have gs : decide ((20 : Int) < (la.length : Int) + (lb.length : Int)) = true := by simp at g3 ⊢; omega
  have gl : la.length + lb.length ≤ 40 := by omega
  have gw : IntKind.i64.wrap ((la.length : Int) + (lb.length : Int)) = (la.length : Int) + (lb.length : Int) := IntWalk.i64_in _ (by omega)
  clear hf ht ha hb g2 g3
  go_enter Tryd.func6, Tryd.ntmps6
  go_upto_region 1 with fail
  refine wp_region_noPanic ?_
  refine wp_region_held_drew (S := (fun w' => ((w'.cell? ⟨w.heap.size, 0, none⟩ = some (.int .i64 n) ∧ w'.cell? ⟨w.heap.size, 1, none⟩ = some (.slice a1 lf.length c1) ∧ w'.cell? ⟨w.heap.size, 2, none⟩ = some (.slice a2 lt.length c2)) ∧ (w'.cell? ⟨w.heap.size + 1, 0, none⟩ = some (.int .i64 s) ∧ w'.cell? ⟨w.heap.size + 1, 1, none⟩ = some (.slice a3 la.length c3)) ∧ (w'.cell? ⟨w.heap.size + 2, 0, none⟩ = some (.int .i64 s') ∧ w'.cell? ⟨w.heap.size + 2, 1, none⟩ = some (.slice a4 lb.length c4))) ∧ MB w [(.slice a4 lb.length c4, lb), (.slice a3 la.length c3, la), (.slice a2 lt.length c2, lt), (.slice a1 lf.length c1, lf)] [(w.heap.size + 3, #[.int .i64 0, .slice none 0 0], 28), (w.heap.size + 2, #[.int .i64 s', .slice a4 lb.length c4], 28), (w.heap.size + 1, #[.int .i64 s, .slice a3 la.length c3], 28), (w.heap.size, #[.int .i64 n, .slice a1 lf.length c1, .slice a2 lt.length c2], 26)] w')) (by kernel_rfl) (jhold M.out.drew) (fun hHeld => ?_)
  refine wpAnyH_take (i := 0) (v := ?_) rfl (by kernel_rfl) (by kernel_rfl) (by kernel_rfl) (fun _ _ _ h => h) (Or.inl ⟨by rfl, ?_⟩) hHeld ?_
  rotate_left
  focus ((intro w hSw; (try dsimp only at hSw); go_simp); (try with_reducible rfl))
  (try simp only [List.getElem_toArray, List.getElem_cons_succ, List.getElem_cons_zero, Act.put, List.setIfInBounds_toArray, List.set_cons_zero, List.set_cons_succ])
  refine wpAnyH_take (i := 1) (v := ?_) rfl (by kernel_rfl) (by kernel_rfl) (by kernel_rfl) (fun _ _ _ h => h) (Or.inl ⟨by rfl, ?_⟩) hHeld ?_
  rotate_left
  focus ((intro w hSw; (try dsimp only at hSw); go_simp); (try with_reducible rfl))
  (try simp only [List.getElem_toArray, List.getElem_cons_succ, List.getElem_cons_zero, Act.put, List.setIfInBounds_toArray, List.set_cons_zero, List.set_cons_succ])
  refine wpAnyH_ready (rs := [2]) (by kernel_rfl) (by simp) ?_
  refine AllReadyH.cons rfl (fun K hK => ?_) AllReadyH.nil
  go_simp
  (refine (i_IsPath _ _ _ _ _ lf lt la _ (MB.i3 hHeld.2) (MB.i2 hHeld.2) (MB.i1 hHeld.2)).mono ?_; rintro e w1 ⟨rfl, b1⟩)
  (try (go_wp2_with fail))
  refine hK.out _ _ (jhold (MB.call hHeld.2 ‹Below _ _ _›)) (fun hNew => ?_)
  clear hK K hHeld
  have hHeld := hNew
  clear hNew
  (try simp only [List.getElem_toArray, List.getElem_cons_succ, List.getElem_cons_zero, Act.put, List.setIfInBounds_toArray, List.set_cons_zero, List.set_cons_succ])
  refine wpAnyH_take (i := 3) (v := ?_) rfl (by kernel_rfl) (by kernel_rfl) (by kernel_rfl) (fun _ _ _ h => h) (Or.inl ⟨by rfl, ?_⟩) hHeld ?_
  rotate_left
  focus ((intro w hSw; (try dsimp only at hSw); go_simp); (try with_reducible rfl))
  (try simp only [List.getElem_toArray, List.getElem_cons_succ, List.getElem_cons_zero, Act.put, List.setIfInBounds_toArray, List.set_cons_zero, List.set_cons_succ])
  refine wpAnyH_take (i := 4) (v := ?_) rfl (by kernel_rfl) (by kernel_rfl) (by kernel_rfl) (fun _ _ _ h => h) (Or.inl ⟨by rfl, ?_⟩) hHeld ?_
  rotate_left
  focus ((intro w hSw; (try dsimp only at hSw); go_simp); (try with_reducible rfl))
  (try simp only [List.getElem_toArray, List.getElem_cons_succ, List.getElem_cons_zero, Act.put, List.setIfInBounds_toArray, List.set_cons_zero, List.set_cons_succ])
  refine wpAnyH_take (i := 5) (v := ?_) rfl (by kernel_rfl) (by kernel_rfl) (by kernel_rfl) (fun _ _ _ h => h) (Or.inl ⟨by rfl, ?_⟩) hHeld ?_
  rotate_left
  focus ((intro w hSw; (try dsimp only at hSw); go_simp); (try with_reducible rfl))
  (try simp only [List.getElem_toArray, List.getElem_cons_succ, List.getElem_cons_zero, Act.put, List.setIfInBounds_toArray, List.set_cons_zero, List.set_cons_succ])
  refine wpAnyH_take (i := 6) (v := ?_) rfl (by kernel_rfl) (by kernel_rfl) (by kernel_rfl) (fun _ _ _ h => h) (Or.inl ⟨by rfl, ?_⟩) hHeld ?_
  rotate_left
  focus ((intro w hSw; (try dsimp only at hSw); go_simp); (try with_reducible rfl))
  (try simp only [List.getElem_toArray, List.getElem_cons_succ, List.getElem_cons_zero, Act.put, List.setIfInBounds_toArray, List.set_cons_zero, List.set_cons_succ])
  refine wpAnyH_ready (rs := [7]) (by kernel_rfl) (by simp) ?_
  refine AllReadyH.cons rfl (fun K hK => ?_) AllReadyH.nil
  go_simp
  (refine (i_IsPath _ _ _ _ _ lf lt lb _ (MB.i3 hHeld.2) (MB.i2 hHeld.2) (MB.i0 hHeld.2)).mono ?_; rintro e w2 ⟨rfl, b2⟩)
  (try (go_wp2_with fail))
  refine hK.out _ _ (jhold (MB.call hHeld.2 ‹Below _ _ _›)) (fun hNew => ?_)
  clear hK K hHeld
  have hHeld := hNew
  clear hNew
  (try simp only [List.getElem_toArray, List.getElem_cons_succ, List.getElem_cons_zero, Act.put, List.setIfInBounds_toArray, List.set_cons_zero, List.set_cons_succ])
  refine wpAnyH_take (i := 8) (v := ?_) rfl (by kernel_rfl) (by kernel_rfl) (by kernel_rfl) (fun _ _ _ h => h) (Or.inl ⟨by rfl, ?_⟩) hHeld ?_
  rotate_left
  focus ((intro w hSw; (try dsimp only at hSw); go_simp); (try with_reducible rfl))
  (try simp only [List.getElem_toArray, List.getElem_cons_succ, List.getElem_cons_zero, Act.put, List.setIfInBounds_toArray, List.set_cons_zero, List.set_cons_succ])
  refine wpAnyH_take (i := 9) (v := ?_) rfl (by kernel_rfl) (by kernel_rfl) (by kernel_rfl) (fun _ _ _ h => h) (Or.inl ⟨by rfl, ?_⟩) hHeld ?_
  rotate_left
  focus ((intro w hSw; (try dsimp only at hSw); go_simp); (try with_reducible rfl))
  (try simp only [List.getElem_toArray, List.getElem_cons_succ, List.getElem_cons_zero, Act.put, List.setIfInBounds_toArray, List.set_cons_zero, List.set_cons_succ])
  refine wpAnyH_take (i := 10) (v := ?_) rfl (by kernel_rfl) (by kernel_rfl) (by kernel_rfl) (fun _ _ _ h => h) (Or.inl ⟨by rfl, ?_⟩) hHeld ?_
  rotate_left
  focus ((intro w hSw; (try dsimp only at hSw); go_simp); (try with_reducible rfl))
  (try simp only [List.getElem_toArray, List.getElem_cons_succ, List.getElem_cons_zero, Act.put, List.setIfInBounds_toArray, List.set_cons_zero, List.set_cons_succ])
  refine wpAnyH_take (i := 11) (v := ?_) rfl (by kernel_rfl) (by kernel_rfl) (by kernel_rfl) (fun _ _ _ h => h) (Or.inl ⟨by rfl, ?_⟩) hHeld ?_
  rotate_left
  focus ((intro w hSw; (try dsimp only at hSw); go_simp); (try with_reducible rfl))
  (try simp only [List.getElem_toArray, List.getElem_cons_succ, List.getElem_cons_zero, Act.put, List.setIfInBounds_toArray, List.set_cons_zero, List.set_cons_succ])
  refine wpAnyH_take (i := 12) (v := ?_) rfl (by kernel_rfl) (by kernel_rfl) (by kernel_rfl) (fun _ _ _ h => h) (Or.inl ⟨by rfl, ?_⟩) hHeld ?_
  rotate_left
  focus ((intro w hSw; (try dsimp only at hSw); go_simp); (try with_reducible rfl))
  (try simp only [List.getElem_toArray, List.getElem_cons_succ, List.getElem_cons_zero, Act.put, List.setIfInBounds_toArray, List.set_cons_zero, List.set_cons_succ])
  refine wpAnyH_take (i := 14) (v := ?_) rfl (by kernel_rfl) (by kernel_rfl) (by kernel_rfl) (fun _ _ _ h => h) (Or.inl ⟨by rfl, ?_⟩) hHeld ?_
  rotate_left
  focus ((intro w hSw; (try dsimp only at hSw); go_simp); (try with_reducible rfl))
  (try simp only [List.getElem_toArray, List.getElem_cons_succ, List.getElem_cons_zero, Act.put, List.setIfInBounds_toArray, List.set_cons_zero, List.set_cons_succ])
  refine wpAnyH_take (i := 15) (v := ?_) rfl (by kernel_rfl) (by kernel_rfl) (by kernel_rfl) (fun _ _ _ h => h) (Or.inl ⟨by rfl, ?_⟩) hHeld ?_
  rotate_left
  focus ((intro w hSw; (try dsimp only at hSw); go_simp); (try with_reducible rfl))
  (try simp only [List.getElem_toArray, List.getElem_cons_succ, List.getElem_cons_zero, Act.put, List.setIfInBounds_toArray, List.set_cons_zero, List.set_cons_succ])
  refine wpAnyH_ready (rs := [13]) (by kernel_rfl) (by simp) ?_
  refine AllReadyH.cons rfl (fun K hK => ?_) AllReadyH.nil
  go_simp
  (refine (i_end _ _ _ _ _ lf lt la _ (MB.i3 hHeld.2) (MB.i2 hHeld.2) (MB.i1 hHeld.2) G0.out).mono ?_; rintro e w3 ⟨rfl, b3⟩; rw [hE])
  (try (go_wp2_with fail))
  refine hK.out _ _ (jhold (MB.call hHeld.2 ‹Below _ _ _›)) (fun hNew => ?_)
  clear hK K hHeld
  have hHeld := hNew
  clear hNew
  (try simp only [List.getElem_toArray, List.getElem_cons_succ, List.getElem_cons_zero, Act.put, List.setIfInBounds_toArray, List.set_cons_zero, List.set_cons_succ])
  refine wpAnyH_take (i := 16) (v := ?_) rfl (by kernel_rfl) (by kernel_rfl) (by kernel_rfl) (fun _ _ _ h => h) (Or.inl ⟨by rfl, ?_⟩) hHeld ?_
  rotate_left
  focus ((intro w hSw; (try dsimp only at hSw); go_simp); (try with_reducible rfl))
  (try simp only [List.getElem_toArray, List.getElem_cons_succ, List.getElem_cons_zero, Act.put, List.setIfInBounds_toArray, List.set_cons_zero, List.set_cons_succ])
  refine wpAnyH_take (i := 17) (v := ?_) rfl (by kernel_rfl) (by kernel_rfl) (by kernel_rfl) (fun _ _ _ h => h) (Or.inl ⟨by rfl, ?_⟩) hHeld ?_
  rotate_left
  focus ((intro w hSw; (try dsimp only at hSw); go_simp); (try with_reducible rfl))
  (try simp only [List.getElem_toArray, List.getElem_cons_succ, List.getElem_cons_zero, Act.put, List.setIfInBounds_toArray, List.set_cons_zero, List.set_cons_succ])
  refine wpAnyH_take (i := 18) (v := ?_) rfl (by kernel_rfl) (by kernel_rfl) (by kernel_rfl) (fun _ _ _ h => h) (Or.inl ⟨by rfl, ?_⟩) hHeld ?_
  rotate_left
  focus ((intro w hSw; (try dsimp only at hSw); go_simp); (try with_reducible rfl))
  (try simp only [List.getElem_toArray, List.getElem_cons_succ, List.getElem_cons_zero, Act.put, List.setIfInBounds_toArray, List.set_cons_zero, List.set_cons_succ])
  refine wpAnyH_take (i := 19) (v := ?_) rfl (by kernel_rfl) (by kernel_rfl) (by kernel_rfl) (fun _ _ _ h => h) (Or.inl ⟨by rfl, ?_⟩) hHeld ?_
  rotate_left
  focus ((intro w hSw; (try dsimp only at hSw); go_simp); (try with_reducible rfl))
  (try simp only [List.getElem_toArray, List.getElem_cons_succ, List.getElem_cons_zero, Act.put, List.setIfInBounds_toArray, List.set_cons_zero, List.set_cons_succ])
  refine wpAnyH_take (i := 20) (v := ?_) rfl (by kernel_rfl) (by kernel_rfl) (by kernel_rfl) (fun _ _ _ h => h) (Or.inl ⟨by rfl, ?_⟩) hHeld ?_
  rotate_left
  focus ((intro w hSw; (try dsimp only at hSw); go_simp); (try with_reducible rfl))
  (try simp only [List.getElem_toArray, List.getElem_cons_succ, List.getElem_cons_zero, Act.put, List.setIfInBounds_toArray, List.set_cons_zero, List.set_cons_succ])
  refine wpAnyH_take (i := 21) (v := ?_) rfl (by kernel_rfl) (by kernel_rfl) (by kernel_rfl) (fun _ _ _ h => h) (Or.inl ⟨by rfl, ?_⟩) hHeld ?_
  rotate_left
  focus ((intro w hSw; (try dsimp only at hSw); go_simp); (try with_reducible rfl))
  (try simp only [List.getElem_toArray, List.getElem_cons_succ, List.getElem_cons_zero, Act.put, List.setIfInBounds_toArray, List.set_cons_zero, List.set_cons_succ])
  refine wpAnyH_take (i := 22) (v := ?_) rfl (by kernel_rfl) (by kernel_rfl) (by kernel_rfl) (fun _ _ _ h => h) (Or.inl ⟨by rfl, ?_⟩) hHeld ?_
  rotate_left
  focus ((intro w hSw; (try dsimp only at hSw); go_simp); (try with_reducible rfl))
  (try simp only [List.getElem_toArray, List.getElem_cons_succ, List.getElem_cons_zero, Act.put, List.setIfInBounds_toArray, List.set_cons_zero, List.set_cons_succ])
  refine wpAnyH_take (i := 23) (v := ?_) rfl (by kernel_rfl) (by kernel_rfl) (by kernel_rfl) (fun _ _ _ h => h) (Or.inl ⟨by rfl, ?_⟩) hHeld ?_
  rotate_left
  focus ((intro w hSw; (try dsimp only at hSw); go_simp); (try with_reducible rfl))
  (try simp only [List.getElem_toArray, List.getElem_cons_succ, List.getElem_cons_zero, Act.put, List.setIfInBounds_toArray, List.set_cons_zero, List.set_cons_succ])
  refine wpAnyH_take (i := 24) (v := ?_) rfl (by kernel_rfl) (by kernel_rfl) (by kernel_rfl) (fun _ _ _ h => h) (Or.inl ⟨by rfl, ?_⟩) hHeld ?_
  rotate_left
  focus ((intro w hSw; (try dsimp only at hSw); go_simp); (try with_reducible rfl))
  (try simp only [List.getElem_toArray, List.getElem_cons_succ, List.getElem_cons_zero, Act.put, List.setIfInBounds_toArray, List.set_cons_zero, List.set_cons_succ])
  refine wpAnyH_take (i := 25) (v := ?_) rfl (by kernel_rfl) (by kernel_rfl) (by kernel_rfl) (fun _ _ _ h => h) (Or.inl ⟨by rfl, ?_⟩) hHeld ?_
  rotate_left
  focus ((intro w hSw; (try dsimp only at hSw); go_simp); (try with_reducible rfl))
  (try simp only [List.getElem_toArray, List.getElem_cons_succ, List.getElem_cons_zero, Act.put, List.setIfInBounds_toArray, List.set_cons_zero, List.set_cons_succ])
  refine wpAnyH_take (i := 26) (v := ?_) rfl (by kernel_rfl) (by kernel_rfl) (by kernel_rfl) (fun _ _ _ h => h) (Or.inl ⟨by rfl, ?_⟩) hHeld ?_
  rotate_left
  focus ((intro w hSw; (try dsimp only at hSw); go_simp); (try with_reducible rfl))
  (try simp only [List.getElem_toArray, List.getElem_cons_succ, List.getElem_cons_zero, Act.put, List.setIfInBounds_toArray, List.set_cons_zero, List.set_cons_succ])
  refine wpAnyH_take (i := 27) (v := ?_) rfl (by kernel_rfl) (by kernel_rfl) (by kernel_rfl) (fun _ _ _ h => h) (Or.inl ⟨by rfl, ?_⟩) hHeld ?_
  rotate_left
  focus ((intro w hSw; (try dsimp only at hSw); go_simp); (try with_reducible rfl))
  (try simp only [List.getElem_toArray, List.getElem_cons_succ, List.getElem_cons_zero, Act.put, List.setIfInBounds_toArray, List.set_cons_zero, List.set_cons_succ])
  refine wpAnyH_done (by kernel_rfl) ?_ _
  refine NoPanic.normal ?_
  have M9 := Lib.hid hHeld.2
  clear hHeld gw
  obtain ⟨q0, q1⟩ := blk2 M9.out.b0
  obtain ⟨f0, f1⟩ := frz2 M9.out.b0
  have hB := set2_blk M9.out.b0 (.int .i64 0) (.slice none 0 0)
  have hb2 := set2_below M9.out.bel (b := w.heap.size + 3) (by omega) (.int .i64 0) (.slice none 0 0)
  unfold set2 at hB hb2
  have HB := Lib.hid hB; have HB2 := Lib.hid hb2
  clear hB hb2
  go_wp2
  exact bodyPost_ret (v := .tuple #[.agg #[.int .i64 0, .slice none 0 0], .bool false]) (by simp [results, Tryd.results6, go_sem, HB.out.cell 0, HB.out.cell 1]) rfl ⟨_, rfl, Ints.nil _, FreshV.nil _, HB2.out⟩

set_option maxRecDepth 100000 in
set_option maxHeartbeats 8000000 in
theorem i_Join_yes (n : Int) (vf vt : Value) (s : Int) (va : Value) (s' : Int) (vb : Value) (lf lt la lb : List Int) (w : World) (hf : Ints w vf lf) (ht : Ints w vt lt) (ha : Ints w va la) (hb : Ints w vb lb) (g0 : isP n lf lt s la = true) (g1 : isP n lf lt s' lb = true) (g2 : decide (endP n lf lt s la = s') = true) (g3 : decide (la.length + lb.length ≤ 20) = true) :
    Calls Tryd.prog 6 #[.agg #[.int .i64 n, vf, vt], .agg #[.int .i64 s, va], .agg #[.int .i64 s', vb]] w (PathOK s (la ++ lb) true w) := by
  have h20 := isP_20 g0; have h21 := isP_20 g1
  have hltf := Lib.hid hf.lt; have hltt := Lib.hid ht.lt; have hlta := Lib.hid ha.lt; have hltb := Lib.hid hb.lt
  obtain ⟨a1, c1, rfl, _, _⟩ := hf.shape
  obtain ⟨a2, c2, rfl, _, _⟩ := ht.shape
  obtain ⟨a3, c3, rfl, _, _⟩ := ha.shape
  obtain ⟨a4, c4, rfl, _, _⟩ := hb.shape
  have M := ((((((((MB.start w).addI hf).addI ht).addI ha).addI hb).alloc #[.int .i64 n, .slice a1 lf.length c1, .slice a2 lt.length c2] 26).alloc #[.int .i64 s, .slice a3 la.length c3] 28).alloc #[.int .i64 s', .slice a4 lb.length c4] 28).alloc #[.int .i64 0, .slice none 0 0] 28
  simp only [World.size_alloc] at M
  have M := Lib.hid M
  have G0 := Lib.hid g0
  have ge : (endP n lf lt s la != s') = false := by simpa using g2
  rw [endP_ok g0] at ge
  obtain ⟨E, hE⟩ : ∃ E, curP lt s la la.length = E := ⟨_, rfl⟩
  rw [hE] at ge
  have gs : decide ((20 : Int) < (la.length : Int) + (lb.length : Int)) = false := by simp at g3 ⊢; omega
  have gl : la.length + lb.length ≤ 40 := by omega
  have hT := Lib.hid (show la.length + lb.length ≤ 20 by simpa using g3)
  have gw : IntKind.i64.wrap ((la.length : Int) + (lb.length : Int)) = (la.length : Int) + (lb.length : Int) := IntWalk.i64_in _ (by omega)
  clear hf ht ha hb g2 g3
  go_enter Tryd.func6, Tryd.ntmps6
  go_upto_region 1 with fail
  refine wp_region_noPanic ?_
  refine wp_region_held_drew (S := (fun w' => ((w'.cell? ⟨w.heap.size, 0, none⟩ = some (.int .i64 n) ∧ w'.cell? ⟨w.heap.size, 1, none⟩ = some (.slice a1 lf.length c1) ∧ w'.cell? ⟨w.heap.size, 2, none⟩ = some (.slice a2 lt.length c2)) ∧ (w'.cell? ⟨w.heap.size + 1, 0, none⟩ = some (.int .i64 s) ∧ w'.cell? ⟨w.heap.size + 1, 1, none⟩ = some (.slice a3 la.length c3)) ∧ (w'.cell? ⟨w.heap.size + 2, 0, none⟩ = some (.int .i64 s') ∧ w'.cell? ⟨w.heap.size + 2, 1, none⟩ = some (.slice a4 lb.length c4))) ∧ MB w [(.slice a4 lb.length c4, lb), (.slice a3 la.length c3, la), (.slice a2 lt.length c2, lt), (.slice a1 lf.length c1, lf)] [(w.heap.size + 3, #[.int .i64 0, .slice none 0 0], 28), (w.heap.size + 2, #[.int .i64 s', .slice a4 lb.length c4], 28), (w.heap.size + 1, #[.int .i64 s, .slice a3 la.length c3], 28), (w.heap.size, #[.int .i64 n, .slice a1 lf.length c1, .slice a2 lt.length c2], 26)] w')) (by kernel_rfl) (jhold M.out.drew) (fun hHeld => ?_)
  refine wpAnyH_take (i := 0) (v := ?_) rfl (by kernel_rfl) (by kernel_rfl) (by kernel_rfl) (fun _ _ _ h => h) (Or.inl ⟨by rfl, ?_⟩) hHeld ?_
  rotate_left
  focus ((intro w hSw; (try dsimp only at hSw); go_simp); (try with_reducible rfl))
  (try simp only [List.getElem_toArray, List.getElem_cons_succ, List.getElem_cons_zero, Act.put, List.setIfInBounds_toArray, List.set_cons_zero, List.set_cons_succ])
  refine wpAnyH_take (i := 1) (v := ?_) rfl (by kernel_rfl) (by kernel_rfl) (by kernel_rfl) (fun _ _ _ h => h) (Or.inl ⟨by rfl, ?_⟩) hHeld ?_
  rotate_left
  focus ((intro w hSw; (try dsimp only at hSw); go_simp); (try with_reducible rfl))
  (try simp only [List.getElem_toArray, List.getElem_cons_succ, List.getElem_cons_zero, Act.put, List.setIfInBounds_toArray, List.set_cons_zero, List.set_cons_succ])
  refine wpAnyH_ready (rs := [2]) (by kernel_rfl) (by simp) ?_
  refine AllReadyH.cons rfl (fun K hK => ?_) AllReadyH.nil
  go_simp
  (refine (i_IsPath _ _ _ _ _ lf lt la _ (MB.i3 hHeld.2) (MB.i2 hHeld.2) (MB.i1 hHeld.2)).mono ?_; rintro e w1 ⟨rfl, b1⟩)
  (try (go_wp2_with fail))
  refine hK.out _ _ (jhold (MB.call hHeld.2 ‹Below _ _ _›)) (fun hNew => ?_)
  clear hK K hHeld
  have hHeld := hNew
  clear hNew
  (try simp only [List.getElem_toArray, List.getElem_cons_succ, List.getElem_cons_zero, Act.put, List.setIfInBounds_toArray, List.set_cons_zero, List.set_cons_succ])
  refine wpAnyH_take (i := 3) (v := ?_) rfl (by kernel_rfl) (by kernel_rfl) (by kernel_rfl) (fun _ _ _ h => h) (Or.inl ⟨by rfl, ?_⟩) hHeld ?_
  rotate_left
  focus ((intro w hSw; (try dsimp only at hSw); go_simp); (try with_reducible rfl))
  (try simp only [List.getElem_toArray, List.getElem_cons_succ, List.getElem_cons_zero, Act.put, List.setIfInBounds_toArray, List.set_cons_zero, List.set_cons_succ])
  refine wpAnyH_take (i := 4) (v := ?_) rfl (by kernel_rfl) (by kernel_rfl) (by kernel_rfl) (fun _ _ _ h => h) (Or.inl ⟨by rfl, ?_⟩) hHeld ?_
  rotate_left
  focus ((intro w hSw; (try dsimp only at hSw); go_simp); (try with_reducible rfl))
  (try simp only [List.getElem_toArray, List.getElem_cons_succ, List.getElem_cons_zero, Act.put, List.setIfInBounds_toArray, List.set_cons_zero, List.set_cons_succ])
  refine wpAnyH_take (i := 5) (v := ?_) rfl (by kernel_rfl) (by kernel_rfl) (by kernel_rfl) (fun _ _ _ h => h) (Or.inl ⟨by rfl, ?_⟩) hHeld ?_
  rotate_left
  focus ((intro w hSw; (try dsimp only at hSw); go_simp); (try with_reducible rfl))
  (try simp only [List.getElem_toArray, List.getElem_cons_succ, List.getElem_cons_zero, Act.put, List.setIfInBounds_toArray, List.set_cons_zero, List.set_cons_succ])
  refine wpAnyH_take (i := 6) (v := ?_) rfl (by kernel_rfl) (by kernel_rfl) (by kernel_rfl) (fun _ _ _ h => h) (Or.inl ⟨by rfl, ?_⟩) hHeld ?_
  rotate_left
  focus ((intro w hSw; (try dsimp only at hSw); go_simp); (try with_reducible rfl))
  (try simp only [List.getElem_toArray, List.getElem_cons_succ, List.getElem_cons_zero, Act.put, List.setIfInBounds_toArray, List.set_cons_zero, List.set_cons_succ])
  refine wpAnyH_ready (rs := [7]) (by kernel_rfl) (by simp) ?_
  refine AllReadyH.cons rfl (fun K hK => ?_) AllReadyH.nil
  go_simp
  (refine (i_IsPath _ _ _ _ _ lf lt lb _ (MB.i3 hHeld.2) (MB.i2 hHeld.2) (MB.i0 hHeld.2)).mono ?_; rintro e w2 ⟨rfl, b2⟩)
  (try (go_wp2_with fail))
  refine hK.out _ _ (jhold (MB.call hHeld.2 ‹Below _ _ _›)) (fun hNew => ?_)
  clear hK K hHeld
  have hHeld := hNew
  clear hNew
  (try simp only [List.getElem_toArray, List.getElem_cons_succ, List.getElem_cons_zero, Act.put, List.setIfInBounds_toArray, List.set_cons_zero, List.set_cons_succ])
  refine wpAnyH_take (i := 8) (v := ?_) rfl (by kernel_rfl) (by kernel_rfl) (by kernel_rfl) (fun _ _ _ h => h) (Or.inl ⟨by rfl, ?_⟩) hHeld ?_
  rotate_left
  focus ((intro w hSw; (try dsimp only at hSw); go_simp); (try with_reducible rfl))
  (try simp only [List.getElem_toArray, List.getElem_cons_succ, List.getElem_cons_zero, Act.put, List.setIfInBounds_toArray, List.set_cons_zero, List.set_cons_succ])
  refine wpAnyH_take (i := 9) (v := ?_) rfl (by kernel_rfl) (by kernel_rfl) (by kernel_rfl) (fun _ _ _ h => h) (Or.inl ⟨by rfl, ?_⟩) hHeld ?_
  rotate_left
  focus ((intro w hSw; (try dsimp only at hSw); go_simp); (try with_reducible rfl))
  (try simp only [List.getElem_toArray, List.getElem_cons_succ, List.getElem_cons_zero, Act.put, List.setIfInBounds_toArray, List.set_cons_zero, List.set_cons_succ])
  refine wpAnyH_take (i := 10) (v := ?_) rfl (by kernel_rfl) (by kernel_rfl) (by kernel_rfl) (fun _ _ _ h => h) (Or.inl ⟨by rfl, ?_⟩) hHeld ?_
  rotate_left
  focus ((intro w hSw; (try dsimp only at hSw); go_simp); (try with_reducible rfl))
  (try simp only [List.getElem_toArray, List.getElem_cons_succ, List.getElem_cons_zero, Act.put, List.setIfInBounds_toArray, List.set_cons_zero, List.set_cons_succ])
  refine wpAnyH_take (i := 11) (v := ?_) rfl (by kernel_rfl) (by kernel_rfl) (by kernel_rfl) (fun _ _ _ h => h) (Or.inl ⟨by rfl, ?_⟩) hHeld ?_
  rotate_left
  focus ((intro w hSw; (try dsimp only at hSw); go_simp); (try with_reducible rfl))
  (try simp only [List.getElem_toArray, List.getElem_cons_succ, List.getElem_cons_zero, Act.put, List.setIfInBounds_toArray, List.set_cons_zero, List.set_cons_succ])
  refine wpAnyH_take (i := 12) (v := ?_) rfl (by kernel_rfl) (by kernel_rfl) (by kernel_rfl) (fun _ _ _ h => h) (Or.inl ⟨by rfl, ?_⟩) hHeld ?_
  rotate_left
  focus ((intro w hSw; (try dsimp only at hSw); go_simp); (try with_reducible rfl))
  (try simp only [List.getElem_toArray, List.getElem_cons_succ, List.getElem_cons_zero, Act.put, List.setIfInBounds_toArray, List.set_cons_zero, List.set_cons_succ])
  refine wpAnyH_take (i := 14) (v := ?_) rfl (by kernel_rfl) (by kernel_rfl) (by kernel_rfl) (fun _ _ _ h => h) (Or.inl ⟨by rfl, ?_⟩) hHeld ?_
  rotate_left
  focus ((intro w hSw; (try dsimp only at hSw); go_simp); (try with_reducible rfl))
  (try simp only [List.getElem_toArray, List.getElem_cons_succ, List.getElem_cons_zero, Act.put, List.setIfInBounds_toArray, List.set_cons_zero, List.set_cons_succ])
  refine wpAnyH_take (i := 15) (v := ?_) rfl (by kernel_rfl) (by kernel_rfl) (by kernel_rfl) (fun _ _ _ h => h) (Or.inl ⟨by rfl, ?_⟩) hHeld ?_
  rotate_left
  focus ((intro w hSw; (try dsimp only at hSw); go_simp); (try with_reducible rfl))
  (try simp only [List.getElem_toArray, List.getElem_cons_succ, List.getElem_cons_zero, Act.put, List.setIfInBounds_toArray, List.set_cons_zero, List.set_cons_succ])
  refine wpAnyH_ready (rs := [13]) (by kernel_rfl) (by simp) ?_
  refine AllReadyH.cons rfl (fun K hK => ?_) AllReadyH.nil
  go_simp
  (refine (i_end _ _ _ _ _ lf lt la _ (MB.i3 hHeld.2) (MB.i2 hHeld.2) (MB.i1 hHeld.2) G0.out).mono ?_; rintro e w3 ⟨rfl, b3⟩; rw [hE])
  (try (go_wp2_with fail))
  refine hK.out _ _ (jhold (MB.call hHeld.2 ‹Below _ _ _›)) (fun hNew => ?_)
  clear hK K hHeld
  have hHeld := hNew
  clear hNew
  (try simp only [List.getElem_toArray, List.getElem_cons_succ, List.getElem_cons_zero, Act.put, List.setIfInBounds_toArray, List.set_cons_zero, List.set_cons_succ])
  refine wpAnyH_take (i := 16) (v := ?_) rfl (by kernel_rfl) (by kernel_rfl) (by kernel_rfl) (fun _ _ _ h => h) (Or.inl ⟨by rfl, ?_⟩) hHeld ?_
  rotate_left
  focus ((intro w hSw; (try dsimp only at hSw); go_simp); (try with_reducible rfl))
  (try simp only [List.getElem_toArray, List.getElem_cons_succ, List.getElem_cons_zero, Act.put, List.setIfInBounds_toArray, List.set_cons_zero, List.set_cons_succ])
  refine wpAnyH_take (i := 17) (v := ?_) rfl (by kernel_rfl) (by kernel_rfl) (by kernel_rfl) (fun _ _ _ h => h) (Or.inl ⟨by rfl, ?_⟩) hHeld ?_
  rotate_left
  focus ((intro w hSw; (try dsimp only at hSw); go_simp); (try with_reducible rfl))
  (try simp only [List.getElem_toArray, List.getElem_cons_succ, List.getElem_cons_zero, Act.put, List.setIfInBounds_toArray, List.set_cons_zero, List.set_cons_succ])
  refine wpAnyH_take (i := 18) (v := ?_) rfl (by kernel_rfl) (by kernel_rfl) (by kernel_rfl) (fun _ _ _ h => h) (Or.inl ⟨by rfl, ?_⟩) hHeld ?_
  rotate_left
  focus ((intro w hSw; (try dsimp only at hSw); go_simp); (try with_reducible rfl))
  (try simp only [List.getElem_toArray, List.getElem_cons_succ, List.getElem_cons_zero, Act.put, List.setIfInBounds_toArray, List.set_cons_zero, List.set_cons_succ])
  refine wpAnyH_take (i := 19) (v := ?_) rfl (by kernel_rfl) (by kernel_rfl) (by kernel_rfl) (fun _ _ _ h => h) (Or.inl ⟨by rfl, ?_⟩) hHeld ?_
  rotate_left
  focus ((intro w hSw; (try dsimp only at hSw); go_simp); (try with_reducible rfl))
  (try simp only [List.getElem_toArray, List.getElem_cons_succ, List.getElem_cons_zero, Act.put, List.setIfInBounds_toArray, List.set_cons_zero, List.set_cons_succ])
  refine wpAnyH_take (i := 20) (v := ?_) rfl (by kernel_rfl) (by kernel_rfl) (by kernel_rfl) (fun _ _ _ h => h) (Or.inl ⟨by rfl, ?_⟩) hHeld ?_
  rotate_left
  focus ((intro w hSw; (try dsimp only at hSw); go_simp); (try with_reducible rfl))
  (try simp only [List.getElem_toArray, List.getElem_cons_succ, List.getElem_cons_zero, Act.put, List.setIfInBounds_toArray, List.set_cons_zero, List.set_cons_succ])
  refine wpAnyH_take (i := 21) (v := ?_) rfl (by kernel_rfl) (by kernel_rfl) (by kernel_rfl) (fun _ _ _ h => h) (Or.inl ⟨by rfl, ?_⟩) hHeld ?_
  rotate_left
  focus ((intro w hSw; (try dsimp only at hSw); go_simp); (try with_reducible rfl))
  (try simp only [List.getElem_toArray, List.getElem_cons_succ, List.getElem_cons_zero, Act.put, List.setIfInBounds_toArray, List.set_cons_zero, List.set_cons_succ])
  refine wpAnyH_take (i := 22) (v := ?_) rfl (by kernel_rfl) (by kernel_rfl) (by kernel_rfl) (fun _ _ _ h => h) (Or.inl ⟨by rfl, ?_⟩) hHeld ?_
  rotate_left
  focus ((intro w hSw; (try dsimp only at hSw); go_simp); (try with_reducible rfl))
  (try simp only [List.getElem_toArray, List.getElem_cons_succ, List.getElem_cons_zero, Act.put, List.setIfInBounds_toArray, List.set_cons_zero, List.set_cons_succ])
  refine wpAnyH_take (i := 23) (v := ?_) rfl (by kernel_rfl) (by kernel_rfl) (by kernel_rfl) (fun _ _ _ h => h) (Or.inl ⟨by rfl, ?_⟩) hHeld ?_
  rotate_left
  focus ((intro w hSw; (try dsimp only at hSw); go_simp); (try with_reducible rfl))
  (try simp only [List.getElem_toArray, List.getElem_cons_succ, List.getElem_cons_zero, Act.put, List.setIfInBounds_toArray, List.set_cons_zero, List.set_cons_succ])
  refine wpAnyH_take (i := 24) (v := ?_) rfl (by kernel_rfl) (by kernel_rfl) (by kernel_rfl) (fun _ _ _ h => h) (Or.inl ⟨by rfl, ?_⟩) hHeld ?_
  rotate_left
  focus ((intro w hSw; (try dsimp only at hSw); go_simp); (try with_reducible rfl))
  (try simp only [List.getElem_toArray, List.getElem_cons_succ, List.getElem_cons_zero, Act.put, List.setIfInBounds_toArray, List.set_cons_zero, List.set_cons_succ])
  refine wpAnyH_take (i := 25) (v := ?_) rfl (by kernel_rfl) (by kernel_rfl) (by kernel_rfl) (fun _ _ _ h => h) (Or.inl ⟨by rfl, ?_⟩) hHeld ?_
  rotate_left
  focus ((intro w hSw; (try dsimp only at hSw); go_simp); (try with_reducible rfl))
  (try simp only [List.getElem_toArray, List.getElem_cons_succ, List.getElem_cons_zero, Act.put, List.setIfInBounds_toArray, List.set_cons_zero, List.set_cons_succ])
  refine wpAnyH_take (i := 26) (v := ?_) rfl (by kernel_rfl) (by kernel_rfl) (by kernel_rfl) (fun _ _ _ h => h) (Or.inl ⟨by rfl, ?_⟩) hHeld ?_
  rotate_left
  focus ((intro w hSw; (try dsimp only at hSw); go_simp); (try with_reducible rfl))
  (try simp only [List.getElem_toArray, List.getElem_cons_succ, List.getElem_cons_zero, Act.put, List.setIfInBounds_toArray, List.set_cons_zero, List.set_cons_succ])
  refine wpAnyH_take (i := 27) (v := ?_) rfl (by kernel_rfl) (by kernel_rfl) (by kernel_rfl) (fun _ _ _ h => h) (Or.inl ⟨by rfl, ?_⟩) hHeld ?_
  rotate_left
  focus ((intro w hSw; (try dsimp only at hSw); go_simp); (try with_reducible rfl))
  (try simp only [List.getElem_toArray, List.getElem_cons_succ, List.getElem_cons_zero, Act.put, List.setIfInBounds_toArray, List.set_cons_zero, List.set_cons_succ])
  refine wpAnyH_done (by kernel_rfl) ?_ _
  refine NoPanic.normal ?_
  have M9 := Lib.hid hHeld.2
  clear hHeld gw
  obtain ⟨p0, p1⟩ := blk2 M9.out.b2
  obtain ⟨r0, r1⟩ := blk2 M9.out.b1
  have hsz := M9.out.b0.lt
  have HS := Lib.hid (fun (w' : World) (hb : Below (w.heap.size + 1 + 1 + 1) w3 w') => (show (w'.cell? ⟨w.heap.size + 1, 0, none⟩ = some (.int .i64 s) ∧ w'.cell? ⟨w.heap.size + 1, 1, none⟩ = some (.slice a3 la.length c3) ∧ w'.cell? ⟨w.heap.size + 2, 1, none⟩ = some (.slice a4 lb.length c4)) from ⟨(M9.out.b2.belowB hb (by omega)).cell 0, (M9.out.b2.belowB hb (by omega)).cell 1, (M9.out.b1.belowB hb (by omega)).cell 1⟩))
  have HW := Lib.hid (fun (w' : World) (hb : Below w3.heap.size w3 w') (y0 y1 : Value) => HS.out _ (set2_below (hb.mono (Nat.le_of_lt hsz)) (Nat.le_refl _) y0 y1))
  have HF := Lib.hid (fun (w' : World) (hb : Below w3.heap.size w3 w') => HS.out _ (hb.mono (Nat.le_of_lt hsz)))
  have RR : Hid (Res2 w3 (w.heap.size + 1 + 1 + 1) 28) := ⟨_, _, M9.out.b0⟩
  go_upto_region 3 with fail
  go_region_held3 (fun w' => (w'.cell? ⟨w.heap.size + 1, 0, none⟩ = some (.int .i64 s) ∧ w'.cell? ⟨w.heap.size + 1, 1, none⟩ = some (.slice a3 la.length c3) ∧ w'.cell? ⟨w.heap.size + 2, 1, none⟩ = some (.slice a4 lb.length c4)))
    (first
      | with_reducible exact HS.out _ ((Below.refl _ _).drew)
      | with_reducible exact HF.out _ (held_allocd (A := True) ⟨trivial, (Below.refl _ w3).drew⟩ _)
      | with_reducible exact HF.out _ hb9
      | exact HW.out _ hb9 _ _)
    (first
      | (go_at_call 35; have hx0 := (held_allocd (A := True) ⟨trivial, (Below.refl _ w3).drew⟩ (.cells #[.slice a3 la.length c3, .slice a4 lb.length c4] 24 (0, 0))); have hx1 := M9.out.i1.below hx0; have hx3 := M9.out.i0.below hx0; have hx2 : [la, lb].flatten.length ≤ 1048576 := (by have := hT.out; simp; omega); have hx4 := rws_two (by exact heap_alloc_new w3 _) hx1 hx3; refine (Concat_ints 0 _ [la, lb] _ hx4 hx2 (by simp)).mono ?_; rintro e w9 ⟨v9, rfl, hv9, hf9, b9⟩; have hF : [la, lb].flatten = la ++ lb := (by simp); rw [hF] at hv9; clear hF; have hb9 := hx0.trans (b9.mono hx0.size); have hf9' := hf9.mono hx0.size; have hj := Lib.hid (join_in s RR.out M9.out hb9 hv9 hf9' hsz); have hs9 := hv9.shape; rw [List.length_append] at hs9; obtain ⟨a9, c9, rfl, _, _⟩ := hs9; obtain ⟨x0, x1, q0, q1, f0, f1⟩ := (RR.out.below hb9).open_; clear hv9 hf9 hf9' hx1 hx2 hx3 hx4))
  clear HS HF HW
  go_wp2
  exact bodyPost_ret (v := .tuple #[.agg #[.int .i64 s, .slice a9 (la.length + lb.length) c9], .bool true]) (by simp [results, Tryd.results6, go_sem, hj.out.1.cell 0, hj.out.1.cell 1]) rfl (PathOK.of_eq hj.out.2 rfl rfl rfl)

theorem i_JoinPaths (n : Int) (vf vt : Value) (s : Int) (va : Value) (s' : Int) (vb : Value) (lf lt la lb : List Int) (w : World) (hf : Ints w vf lf) (ht : Ints w vt lt) (ha : Ints w va la) (hb : Ints w vb lb) :
    Calls Tryd.prog 6 #[.agg #[.int .i64 n, vf, vt], .agg #[.int .i64 s, va], .agg #[.int .i64 s', vb]] w (PathOK (joiS n lf lt s la s' lb) (joiL n lf lt s la s' lb) (joiOK n lf lt s la s' lb) w) := by
  cases g0 : isP n lf lt s la
  · exact (i_Join_no0 n vf vt s va s' vb lf lt la lb w hf ht ha hb g0).mono fun _ _ h => h.of_eq (by simp [joiS, joiOK, g0]) (by simp [joiL, joiOK, g0]) (by simp [joiOK, g0])
  cases g1 : isP n lf lt s' lb
  · exact (i_Join_no1 n vf vt s va s' vb lf lt la lb w hf ht ha hb g0 g1).mono fun _ _ h => h.of_eq (by simp [joiS, joiOK, g0, g1]) (by simp [joiL, joiOK, g0, g1]) (by simp [joiOK, g0, g1])
  cases g2 : decide (endP n lf lt s la = s')
  · exact (i_Join_no2 n vf vt s va s' vb lf lt la lb w hf ht ha hb g0 g1 g2).mono fun _ _ h => h.of_eq (by simp [joiS, joiOK, g0, g1, g2]) (by simp [joiL, joiOK, g0, g1, g2]) (by simp [joiOK, g0, g1, g2])
  cases g3 : decide (la.length + lb.length ≤ 20)
  · exact (i_Join_no3 n vf vt s va s' vb lf lt la lb w hf ht ha hb g0 g1 g2 g3).mono fun _ _ h => h.of_eq (by simp [joiS, joiOK, g0, g1, g2, g3]) (by simp [joiL, joiOK, g0, g1, g2, g3]) (by simp [joiOK, g0, g1, g2, g3])
  · exact (i_Join_yes n vf vt s va s' vb lf lt la lb w hf ht ha hb g0 g1 g2 g3).mono fun _ _ h => h.of_eq (by simp [joiS, joiOK, g0, g1, g2, g3]) (by simp [joiL, joiOK, g0, g1, g2, g3]) (by simp [joiOK, g0, g1, g2, g3])

set_option maxRecDepth 100000 in
set_option maxHeartbeats 8000000 in
theorem s_Join_no3 (n : Int) (vf vt : Value) (s : Int) (va : Value) (s' : Int) (vb : Value) (lf lt la lb : List Int) (w : World) (hf : Ints w vf lf) (ht : Ints w vt lt) (ha : Ints w va la) (hb : Ints w vb lb) (g0 : isP n lf lt s la = true) (g1 : isP n lf lt s' lb = true) (g2 : decide (endP n lf lt s la = s') = true) (g3 : decide (la.length + lb.length ≤ 20) = false) :
    Calls Tryd.prog 7 #[.agg #[.int .i64 n, vf, vt], .agg #[.int .i64 s, va], .agg #[.int .i64 s', vb]] w (PathOK 0 [] false w) := by
  have h20 := isP_20 g0; have h21 := isP_20 g1
  have hltf := Lib.hid hf.lt; have hltt := Lib.hid ht.lt; have hlta := Lib.hid ha.lt; have hltb := Lib.hid hb.lt
  obtain ⟨a1, c1, rfl, _, _⟩ := hf.shape
  obtain ⟨a2, c2, rfl, _, _⟩ := ht.shape
  obtain ⟨a3, c3, rfl, _, _⟩ := ha.shape
  obtain ⟨a4, c4, rfl, _, _⟩ := hb.shape
  have M := ((((((((MB.start w).addI hf).addI ht).addI ha).addI hb).alloc #[.int .i64 n, .slice a1 lf.length c1, .slice a2 lt.length c2] 26).alloc #[.int .i64 s, .slice a3 la.length c3] 28).alloc #[.int .i64 s', .slice a4 lb.length c4] 28).alloc #[.int .i64 0, .slice none 0 0] 28
  simp only [World.size_alloc] at M
  have M := Lib.hid M
  have G0 := Lib.hid g0
  have ge : (endP n lf lt s la != s') = false := by simpa using g2
  obtain ⟨E, hE⟩ : ∃ E, endP n lf lt s la = E := ⟨_, rfl⟩
  rw [hE] at ge
  have gs : decide ((20 : Int) < (la.length : Int) + (lb.length : Int)) = true := by simp at g3 ⊢; omega
  have gl : la.length + lb.length ≤ 40 := by omega
  have gw : IntKind.i64.wrap ((la.length : Int) + (lb.length : Int)) = (la.length : Int) + (lb.length : Int) := IntWalk.i64_in _ (by omega)
  clear hf ht ha hb g2 g3
  go_enter Tryd.func7, Tryd.ntmps7
  go_upto_region 1 with fail
  refine wp_region_noPanic ?_
  refine wp_region_held_drew (S := (fun w' => ((w'.cell? ⟨w.heap.size, 0, none⟩ = some (.int .i64 n) ∧ w'.cell? ⟨w.heap.size, 1, none⟩ = some (.slice a1 lf.length c1) ∧ w'.cell? ⟨w.heap.size, 2, none⟩ = some (.slice a2 lt.length c2)) ∧ (w'.cell? ⟨w.heap.size + 1, 0, none⟩ = some (.int .i64 s) ∧ w'.cell? ⟨w.heap.size + 1, 1, none⟩ = some (.slice a3 la.length c3)) ∧ (w'.cell? ⟨w.heap.size + 2, 0, none⟩ = some (.int .i64 s') ∧ w'.cell? ⟨w.heap.size + 2, 1, none⟩ = some (.slice a4 lb.length c4))) ∧ MB w [(.slice a4 lb.length c4, lb), (.slice a3 la.length c3, la), (.slice a2 lt.length c2, lt), (.slice a1 lf.length c1, lf)] [(w.heap.size + 3, #[.int .i64 0, .slice none 0 0], 28), (w.heap.size + 2, #[.int .i64 s', .slice a4 lb.length c4], 28), (w.heap.size + 1, #[.int .i64 s, .slice a3 la.length c3], 28), (w.heap.size, #[.int .i64 n, .slice a1 lf.length c1, .slice a2 lt.length c2], 26)] w')) (by kernel_rfl) (jhold M.out.drew) (fun hHeld => ?_)
  refine wpAnyH_take (i := 0) (v := ?_) rfl (by kernel_rfl) (by kernel_rfl) (by kernel_rfl) (fun _ _ _ h => h) (Or.inl ⟨by rfl, ?_⟩) hHeld ?_
  rotate_left
  focus ((intro w hSw; (try dsimp only at hSw); go_simp); (try with_reducible rfl))
  (try simp only [List.getElem_toArray, List.getElem_cons_succ, List.getElem_cons_zero, Act.put, List.setIfInBounds_toArray, List.set_cons_zero, List.set_cons_succ])
  refine wpAnyH_take (i := 1) (v := ?_) rfl (by kernel_rfl) (by kernel_rfl) (by kernel_rfl) (fun _ _ _ h => h) (Or.inl ⟨by rfl, ?_⟩) hHeld ?_
  rotate_left
  focus ((intro w hSw; (try dsimp only at hSw); go_simp); (try with_reducible rfl))
  (try simp only [List.getElem_toArray, List.getElem_cons_succ, List.getElem_cons_zero, Act.put, List.setIfInBounds_toArray, List.set_cons_zero, List.set_cons_succ])
  refine wpAnyH_ready (rs := [2]) (by kernel_rfl) (by simp) ?_
  refine AllReadyH.cons rfl (fun K hK => ?_) AllReadyH.nil
  go_simp
  (refine (s_IsPath _ _ _ _ _ lf lt la _ (MB.i3 hHeld.2) (MB.i2 hHeld.2) (MB.i1 hHeld.2)).mono ?_; rintro e w1 ⟨rfl, b1⟩)
  (try (go_wp2_with fail))
  refine hK.out _ _ (jhold (MB.call hHeld.2 ‹Below _ _ _›)) (fun hNew => ?_)
  clear hK K hHeld
  have hHeld := hNew
  clear hNew
  (try simp only [List.getElem_toArray, List.getElem_cons_succ, List.getElem_cons_zero, Act.put, List.setIfInBounds_toArray, List.set_cons_zero, List.set_cons_succ])
  refine wpAnyH_take (i := 3) (v := ?_) rfl (by kernel_rfl) (by kernel_rfl) (by kernel_rfl) (fun _ _ _ h => h) (Or.inl ⟨by rfl, ?_⟩) hHeld ?_
  rotate_left
  focus ((intro w hSw; (try dsimp only at hSw); go_simp); (try with_reducible rfl))
  (try simp only [List.getElem_toArray, List.getElem_cons_succ, List.getElem_cons_zero, Act.put, List.setIfInBounds_toArray, List.set_cons_zero, List.set_cons_succ])
  refine wpAnyH_take (i := 4) (v := ?_) rfl (by kernel_rfl) (by kernel_rfl) (by kernel_rfl) (fun _ _ _ h => h) (Or.inl ⟨by rfl, ?_⟩) hHeld ?_
  rotate_left
  focus ((intro w hSw; (try dsimp only at hSw); go_simp); (try with_reducible rfl))
  (try simp only [List.getElem_toArray, List.getElem_cons_succ, List.getElem_cons_zero, Act.put, List.setIfInBounds_toArray, List.set_cons_zero, List.set_cons_succ])
  refine wpAnyH_take (i := 5) (v := ?_) rfl (by kernel_rfl) (by kernel_rfl) (by kernel_rfl) (fun _ _ _ h => h) (Or.inl ⟨by rfl, ?_⟩) hHeld ?_
  rotate_left
  focus ((intro w hSw; (try dsimp only at hSw); go_simp); (try with_reducible rfl))
  (try simp only [List.getElem_toArray, List.getElem_cons_succ, List.getElem_cons_zero, Act.put, List.setIfInBounds_toArray, List.set_cons_zero, List.set_cons_succ])
  refine wpAnyH_take (i := 6) (v := ?_) rfl (by kernel_rfl) (by kernel_rfl) (by kernel_rfl) (fun _ _ _ h => h) (Or.inl ⟨by rfl, ?_⟩) hHeld ?_
  rotate_left
  focus ((intro w hSw; (try dsimp only at hSw); go_simp); (try with_reducible rfl))
  (try simp only [List.getElem_toArray, List.getElem_cons_succ, List.getElem_cons_zero, Act.put, List.setIfInBounds_toArray, List.set_cons_zero, List.set_cons_succ])
  refine wpAnyH_ready (rs := [7]) (by kernel_rfl) (by simp) ?_
  refine AllReadyH.cons rfl (fun K hK => ?_) AllReadyH.nil
  go_simp
  (refine (s_IsPath _ _ _ _ _ lf lt lb _ (MB.i3 hHeld.2) (MB.i2 hHeld.2) (MB.i0 hHeld.2)).mono ?_; rintro e w2 ⟨rfl, b2⟩)
  (try (go_wp2_with fail))
  refine hK.out _ _ (jhold (MB.call hHeld.2 ‹Below _ _ _›)) (fun hNew => ?_)
  clear hK K hHeld
  have hHeld := hNew
  clear hNew
  (try simp only [List.getElem_toArray, List.getElem_cons_succ, List.getElem_cons_zero, Act.put, List.setIfInBounds_toArray, List.set_cons_zero, List.set_cons_succ])
  refine wpAnyH_take (i := 8) (v := ?_) rfl (by kernel_rfl) (by kernel_rfl) (by kernel_rfl) (fun _ _ _ h => h) (Or.inl ⟨by rfl, ?_⟩) hHeld ?_
  rotate_left
  focus ((intro w hSw; (try dsimp only at hSw); go_simp); (try with_reducible rfl))
  (try simp only [List.getElem_toArray, List.getElem_cons_succ, List.getElem_cons_zero, Act.put, List.setIfInBounds_toArray, List.set_cons_zero, List.set_cons_succ])
  refine wpAnyH_take (i := 9) (v := ?_) rfl (by kernel_rfl) (by kernel_rfl) (by kernel_rfl) (fun _ _ _ h => h) (Or.inl ⟨by rfl, ?_⟩) hHeld ?_
  rotate_left
  focus ((intro w hSw; (try dsimp only at hSw); go_simp); (try with_reducible rfl))
  (try simp only [List.getElem_toArray, List.getElem_cons_succ, List.getElem_cons_zero, Act.put, List.setIfInBounds_toArray, List.set_cons_zero, List.set_cons_succ])
  refine wpAnyH_take (i := 10) (v := ?_) rfl (by kernel_rfl) (by kernel_rfl) (by kernel_rfl) (fun _ _ _ h => h) (Or.inl ⟨by rfl, ?_⟩) hHeld ?_
  rotate_left
  focus ((intro w hSw; (try dsimp only at hSw); go_simp); (try with_reducible rfl))
  (try simp only [List.getElem_toArray, List.getElem_cons_succ, List.getElem_cons_zero, Act.put, List.setIfInBounds_toArray, List.set_cons_zero, List.set_cons_succ])
  refine wpAnyH_take (i := 11) (v := ?_) rfl (by kernel_rfl) (by kernel_rfl) (by kernel_rfl) (fun _ _ _ h => h) (Or.inl ⟨by rfl, ?_⟩) hHeld ?_
  rotate_left
  focus ((intro w hSw; (try dsimp only at hSw); go_simp); (try with_reducible rfl))
  (try simp only [List.getElem_toArray, List.getElem_cons_succ, List.getElem_cons_zero, Act.put, List.setIfInBounds_toArray, List.set_cons_zero, List.set_cons_succ])
  refine wpAnyH_take (i := 12) (v := ?_) rfl (by kernel_rfl) (by kernel_rfl) (by kernel_rfl) (fun _ _ _ h => h) (Or.inl ⟨by rfl, ?_⟩) hHeld ?_
  rotate_left
  focus ((intro w hSw; (try dsimp only at hSw); go_simp); (try with_reducible rfl))
  (try simp only [List.getElem_toArray, List.getElem_cons_succ, List.getElem_cons_zero, Act.put, List.setIfInBounds_toArray, List.set_cons_zero, List.set_cons_succ])
  refine wpAnyH_take (i := 14) (v := ?_) rfl (by kernel_rfl) (by kernel_rfl) (by kernel_rfl) (fun _ _ _ h => h) (Or.inl ⟨by rfl, ?_⟩) hHeld ?_
  rotate_left
  focus ((intro w hSw; (try dsimp only at hSw); go_simp); (try with_reducible rfl))
  (try simp only [List.getElem_toArray, List.getElem_cons_succ, List.getElem_cons_zero, Act.put, List.setIfInBounds_toArray, List.set_cons_zero, List.set_cons_succ])
  refine wpAnyH_take (i := 15) (v := ?_) rfl (by kernel_rfl) (by kernel_rfl) (by kernel_rfl) (fun _ _ _ h => h) (Or.inl ⟨by rfl, ?_⟩) hHeld ?_
  rotate_left
  focus ((intro w hSw; (try dsimp only at hSw); go_simp); (try with_reducible rfl))
  (try simp only [List.getElem_toArray, List.getElem_cons_succ, List.getElem_cons_zero, Act.put, List.setIfInBounds_toArray, List.set_cons_zero, List.set_cons_succ])
  refine wpAnyH_ready (rs := [13]) (by kernel_rfl) (by simp) ?_
  refine AllReadyH.cons rfl (fun K hK => ?_) AllReadyH.nil
  go_simp
  (refine (s_EndOf _ _ _ _ _ lf lt la _ (MB.i3 hHeld.2) (MB.i2 hHeld.2) (MB.i1 hHeld.2)).mono ?_; rintro e w3 ⟨rfl, b3⟩; rw [hE])
  (try (go_wp2_with fail))
  refine hK.out _ _ (jhold (MB.call hHeld.2 ‹Below _ _ _›)) (fun hNew => ?_)
  clear hK K hHeld
  have hHeld := hNew
  clear hNew
  (try simp only [List.getElem_toArray, List.getElem_cons_succ, List.getElem_cons_zero, Act.put, List.setIfInBounds_toArray, List.set_cons_zero, List.set_cons_succ])
  refine wpAnyH_take (i := 16) (v := ?_) rfl (by kernel_rfl) (by kernel_rfl) (by kernel_rfl) (fun _ _ _ h => h) (Or.inl ⟨by rfl, ?_⟩) hHeld ?_
  rotate_left
  focus ((intro w hSw; (try dsimp only at hSw); go_simp); (try with_reducible rfl))
  (try simp only [List.getElem_toArray, List.getElem_cons_succ, List.getElem_cons_zero, Act.put, List.setIfInBounds_toArray, List.set_cons_zero, List.set_cons_succ])
  refine wpAnyH_take (i := 17) (v := ?_) rfl (by kernel_rfl) (by kernel_rfl) (by kernel_rfl) (fun _ _ _ h => h) (Or.inl ⟨by rfl, ?_⟩) hHeld ?_
  rotate_left
  focus ((intro w hSw; (try dsimp only at hSw); go_simp); (try with_reducible rfl))
  (try simp only [List.getElem_toArray, List.getElem_cons_succ, List.getElem_cons_zero, Act.put, List.setIfInBounds_toArray, List.set_cons_zero, List.set_cons_succ])
  refine wpAnyH_take (i := 18) (v := ?_) rfl (by kernel_rfl) (by kernel_rfl) (by kernel_rfl) (fun _ _ _ h => h) (Or.inl ⟨by rfl, ?_⟩) hHeld ?_
  rotate_left
  focus ((intro w hSw; (try dsimp only at hSw); go_simp); (try with_reducible rfl))
  (try simp only [List.getElem_toArray, List.getElem_cons_succ, List.getElem_cons_zero, Act.put, List.setIfInBounds_toArray, List.set_cons_zero, List.set_cons_succ])
  refine wpAnyH_take (i := 19) (v := ?_) rfl (by kernel_rfl) (by kernel_rfl) (by kernel_rfl) (fun _ _ _ h => h) (Or.inl ⟨by rfl, ?_⟩) hHeld ?_
  rotate_left
  focus ((intro w hSw; (try dsimp only at hSw); go_simp); (try with_reducible rfl))
  (try simp only [List.getElem_toArray, List.getElem_cons_succ, List.getElem_cons_zero, Act.put, List.setIfInBounds_toArray, List.set_cons_zero, List.set_cons_succ])
  refine wpAnyH_take (i := 20) (v := ?_) rfl (by kernel_rfl) (by kernel_rfl) (by kernel_rfl) (fun _ _ _ h => h) (Or.inl ⟨by rfl, ?_⟩) hHeld ?_
  rotate_left
  focus ((intro w hSw; (try dsimp only at hSw); go_simp); (try with_reducible rfl))
  (try simp only [List.getElem_toArray, List.getElem_cons_succ, List.getElem_cons_zero, Act.put, List.setIfInBounds_toArray, List.set_cons_zero, List.set_cons_succ])
  refine wpAnyH_take (i := 21) (v := ?_) rfl (by kernel_rfl) (by kernel_rfl) (by kernel_rfl) (fun _ _ _ h => h) (Or.inl ⟨by rfl, ?_⟩) hHeld ?_
  rotate_left
  focus ((intro w hSw; (try dsimp only at hSw); go_simp); (try with_reducible rfl))
  (try simp only [List.getElem_toArray, List.getElem_cons_succ, List.getElem_cons_zero, Act.put, List.setIfInBounds_toArray, List.set_cons_zero, List.set_cons_succ])
  refine wpAnyH_take (i := 22) (v := ?_) rfl (by kernel_rfl) (by kernel_rfl) (by kernel_rfl) (fun _ _ _ h => h) (Or.inl ⟨by rfl, ?_⟩) hHeld ?_
  rotate_left
  focus ((intro w hSw; (try dsimp only at hSw); go_simp); (try with_reducible rfl))
  (try simp only [List.getElem_toArray, List.getElem_cons_succ, List.getElem_cons_zero, Act.put, List.setIfInBounds_toArray, List.set_cons_zero, List.set_cons_succ])
  refine wpAnyH_take (i := 23) (v := ?_) rfl (by kernel_rfl) (by kernel_rfl) (by kernel_rfl) (fun _ _ _ h => h) (Or.inl ⟨by rfl, ?_⟩) hHeld ?_
  rotate_left
  focus ((intro w hSw; (try dsimp only at hSw); go_simp); (try with_reducible rfl))
  (try simp only [List.getElem_toArray, List.getElem_cons_succ, List.getElem_cons_zero, Act.put, List.setIfInBounds_toArray, List.set_cons_zero, List.set_cons_succ])
  refine wpAnyH_take (i := 24) (v := ?_) rfl (by kernel_rfl) (by kernel_rfl) (by kernel_rfl) (fun _ _ _ h => h) (Or.inl ⟨by rfl, ?_⟩) hHeld ?_
  rotate_left
  focus ((intro w hSw; (try dsimp only at hSw); go_simp); (try with_reducible rfl))
  (try simp only [List.getElem_toArray, List.getElem_cons_succ, List.getElem_cons_zero, Act.put, List.setIfInBounds_toArray, List.set_cons_zero, List.set_cons_succ])
  refine wpAnyH_take (i := 25) (v := ?_) rfl (by kernel_rfl) (by kernel_rfl) (by kernel_rfl) (fun _ _ _ h => h) (Or.inl ⟨by rfl, ?_⟩) hHeld ?_
  rotate_left
  focus ((intro w hSw; (try dsimp only at hSw); go_simp); (try with_reducible rfl))
  (try simp only [List.getElem_toArray, List.getElem_cons_succ, List.getElem_cons_zero, Act.put, List.setIfInBounds_toArray, List.set_cons_zero, List.set_cons_succ])
  refine wpAnyH_take (i := 26) (v := ?_) rfl (by kernel_rfl) (by kernel_rfl) (by kernel_rfl) (fun _ _ _ h => h) (Or.inl ⟨by rfl, ?_⟩) hHeld ?_
  rotate_left
  focus ((intro w hSw; (try dsimp only at hSw); go_simp); (try with_reducible rfl))
  (try simp only [List.getElem_toArray, List.getElem_cons_succ, List.getElem_cons_zero, Act.put, List.setIfInBounds_toArray, List.set_cons_zero, List.set_cons_succ])
  refine wpAnyH_take (i := 27) (v := ?_) rfl (by kernel_rfl) (by kernel_rfl) (by kernel_rfl) (fun _ _ _ h => h) (Or.inl ⟨by rfl, ?_⟩) hHeld ?_
  rotate_left
  focus ((intro w hSw; (try dsimp only at hSw); go_simp); (try with_reducible rfl))
  (try simp only [List.getElem_toArray, List.getElem_cons_succ, List.getElem_cons_zero, Act.put, List.setIfInBounds_toArray, List.set_cons_zero, List.set_cons_succ])
  refine wpAnyH_done (by kernel_rfl) ?_ _
  refine NoPanic.normal ?_
  have M9 := Lib.hid hHeld.2
  clear hHeld gw
  obtain ⟨q0, q1⟩ := blk2 M9.out.b0
  obtain ⟨f0, f1⟩ := frz2 M9.out.b0
  have hB := set2_blk M9.out.b0 (.int .i64 0) (.slice none 0 0)
  have hb2 := set2_below M9.out.bel (b := w.heap.size + 3) (by omega) (.int .i64 0) (.slice none 0 0)
  unfold set2 at hB hb2
  have HB := Lib.hid hB; have HB2 := Lib.hid hb2
  clear hB hb2
  go_wp2
  exact bodyPost_ret (v := .tuple #[.agg #[.int .i64 0, .slice none 0 0], .bool false]) (by simp [results, Tryd.results7, go_sem, HB.out.cell 0, HB.out.cell 1]) rfl ⟨_, rfl, Ints.nil _, FreshV.nil _, HB2.out⟩

set_option maxRecDepth 100000 in
set_option maxHeartbeats 8000000 in
theorem s_Join_yes (n : Int) (vf vt : Value) (s : Int) (va : Value) (s' : Int) (vb : Value) (lf lt la lb : List Int) (w : World) (hf : Ints w vf lf) (ht : Ints w vt lt) (ha : Ints w va la) (hb : Ints w vb lb) (g0 : isP n lf lt s la = true) (g1 : isP n lf lt s' lb = true) (g2 : decide (endP n lf lt s la = s') = true) (g3 : decide (la.length + lb.length ≤ 20) = true) :
    Calls Tryd.prog 7 #[.agg #[.int .i64 n, vf, vt], .agg #[.int .i64 s, va], .agg #[.int .i64 s', vb]] w (PathOK s (la ++ lb) true w) := by
  have h20 := isP_20 g0; have h21 := isP_20 g1
  have hltf := Lib.hid hf.lt; have hltt := Lib.hid ht.lt; have hlta := Lib.hid ha.lt; have hltb := Lib.hid hb.lt
  obtain ⟨a1, c1, rfl, _, _⟩ := hf.shape
  obtain ⟨a2, c2, rfl, _, _⟩ := ht.shape
  obtain ⟨a3, c3, rfl, _, _⟩ := ha.shape
  obtain ⟨a4, c4, rfl, _, _⟩ := hb.shape
  have M := ((((((((MB.start w).addI hf).addI ht).addI ha).addI hb).alloc #[.int .i64 n, .slice a1 lf.length c1, .slice a2 lt.length c2] 26).alloc #[.int .i64 s, .slice a3 la.length c3] 28).alloc #[.int .i64 s', .slice a4 lb.length c4] 28).alloc #[.int .i64 0, .slice none 0 0] 28
  simp only [World.size_alloc] at M
  have M := Lib.hid M
  have G0 := Lib.hid g0
  have ge : (endP n lf lt s la != s') = false := by simpa using g2
  obtain ⟨E, hE⟩ : ∃ E, endP n lf lt s la = E := ⟨_, rfl⟩
  rw [hE] at ge
  have gs : decide ((20 : Int) < (la.length : Int) + (lb.length : Int)) = false := by simp at g3 ⊢; omega
  have gl : la.length + lb.length ≤ 40 := by omega
  have hT := Lib.hid (show la.length + lb.length ≤ 20 by simpa using g3)
  have gw : IntKind.i64.wrap ((la.length : Int) + (lb.length : Int)) = (la.length : Int) + (lb.length : Int) := IntWalk.i64_in _ (by omega)
  clear hf ht ha hb g2 g3
  go_enter Tryd.func7, Tryd.ntmps7
  go_upto_region 1 with fail
  refine wp_region_noPanic ?_
  refine wp_region_held_drew (S := (fun w' => ((w'.cell? ⟨w.heap.size, 0, none⟩ = some (.int .i64 n) ∧ w'.cell? ⟨w.heap.size, 1, none⟩ = some (.slice a1 lf.length c1) ∧ w'.cell? ⟨w.heap.size, 2, none⟩ = some (.slice a2 lt.length c2)) ∧ (w'.cell? ⟨w.heap.size + 1, 0, none⟩ = some (.int .i64 s) ∧ w'.cell? ⟨w.heap.size + 1, 1, none⟩ = some (.slice a3 la.length c3)) ∧ (w'.cell? ⟨w.heap.size + 2, 0, none⟩ = some (.int .i64 s') ∧ w'.cell? ⟨w.heap.size + 2, 1, none⟩ = some (.slice a4 lb.length c4))) ∧ MB w [(.slice a4 lb.length c4, lb), (.slice a3 la.length c3, la), (.slice a2 lt.length c2, lt), (.slice a1 lf.length c1, lf)] [(w.heap.size + 3, #[.int .i64 0, .slice none 0 0], 28), (w.heap.size + 2, #[.int .i64 s', .slice a4 lb.length c4], 28), (w.heap.size + 1, #[.int .i64 s, .slice a3 la.length c3], 28), (w.heap.size, #[.int .i64 n, .slice a1 lf.length c1, .slice a2 lt.length c2], 26)] w')) (by kernel_rfl) (jhold M.out.drew) (fun hHeld => ?_)
  refine wpAnyH_take (i := 0) (v := ?_) rfl (by kernel_rfl) (by kernel_rfl) (by kernel_rfl) (fun _ _ _ h => h) (Or.inl ⟨by rfl, ?_⟩) hHeld ?_
  rotate_left
  focus ((intro w hSw; (try dsimp only at hSw); go_simp); (try with_reducible rfl))
  (try simp only [List.getElem_toArray, List.getElem_cons_succ, List.getElem_cons_zero, Act.put, List.setIfInBounds_toArray, List.set_cons_zero, List.set_cons_succ])
  refine wpAnyH_take (i := 1) (v := ?_) rfl (by kernel_rfl) (by kernel_rfl) (by kernel_rfl) (fun _ _ _ h => h) (Or.inl ⟨by rfl, ?_⟩) hHeld ?_
  rotate_left
  focus ((intro w hSw; (try dsimp only at hSw); go_simp); (try with_reducible rfl))
  (try simp only [List.getElem_toArray, List.getElem_cons_succ, List.getElem_cons_zero, Act.put, List.setIfInBounds_toArray, List.set_cons_zero, List.set_cons_succ])
  refine wpAnyH_ready (rs := [2]) (by kernel_rfl) (by simp) ?_
  refine AllReadyH.cons rfl (fun K hK => ?_) AllReadyH.nil
  go_simp
  (refine (s_IsPath _ _ _ _ _ lf lt la _ (MB.i3 hHeld.2) (MB.i2 hHeld.2) (MB.i1 hHeld.2)).mono ?_; rintro e w1 ⟨rfl, b1⟩)
  (try (go_wp2_with fail))
  refine hK.out _ _ (jhold (MB.call hHeld.2 ‹Below _ _ _›)) (fun hNew => ?_)
  clear hK K hHeld
  have hHeld := hNew
  clear hNew
  (try simp only [List.getElem_toArray, List.getElem_cons_succ, List.getElem_cons_zero, Act.put, List.setIfInBounds_toArray, List.set_cons_zero, List.set_cons_succ])
  refine wpAnyH_take (i := 3) (v := ?_) rfl (by kernel_rfl) (by kernel_rfl) (by kernel_rfl) (fun _ _ _ h => h) (Or.inl ⟨by rfl, ?_⟩) hHeld ?_
  rotate_left
  focus ((intro w hSw; (try dsimp only at hSw); go_simp); (try with_reducible rfl))
  (try simp only [List.getElem_toArray, List.getElem_cons_succ, List.getElem_cons_zero, Act.put, List.setIfInBounds_toArray, List.set_cons_zero, List.set_cons_succ])
  refine wpAnyH_take (i := 4) (v := ?_) rfl (by kernel_rfl) (by kernel_rfl) (by kernel_rfl) (fun _ _ _ h => h) (Or.inl ⟨by rfl, ?_⟩) hHeld ?_
  rotate_left
  focus ((intro w hSw; (try dsimp only at hSw); go_simp); (try with_reducible rfl))
  (try simp only [List.getElem_toArray, List.getElem_cons_succ, List.getElem_cons_zero, Act.put, List.setIfInBounds_toArray, List.set_cons_zero, List.set_cons_succ])
  refine wpAnyH_take (i := 5) (v := ?_) rfl (by kernel_rfl) (by kernel_rfl) (by kernel_rfl) (fun _ _ _ h => h) (Or.inl ⟨by rfl, ?_⟩) hHeld ?_
  rotate_left
  focus ((intro w hSw; (try dsimp only at hSw); go_simp); (try with_reducible rfl))
  (try simp only [List.getElem_toArray, List.getElem_cons_succ, List.getElem_cons_zero, Act.put, List.setIfInBounds_toArray, List.set_cons_zero, List.set_cons_succ])
  refine wpAnyH_take (i := 6) (v := ?_) rfl (by kernel_rfl) (by kernel_rfl) (by kernel_rfl) (fun _ _ _ h => h) (Or.inl ⟨by rfl, ?_⟩) hHeld ?_
  rotate_left
  focus ((intro w hSw; (try dsimp only at hSw); go_simp); (try with_reducible rfl))
  (try simp only [List.getElem_toArray, List.getElem_cons_succ, List.getElem_cons_zero, Act.put, List.setIfInBounds_toArray, List.set_cons_zero, List.set_cons_succ])
  refine wpAnyH_ready (rs := [7]) (by kernel_rfl) (by simp) ?_
  refine AllReadyH.cons rfl (fun K hK => ?_) AllReadyH.nil
  go_simp
  (refine (s_IsPath _ _ _ _ _ lf lt lb _ (MB.i3 hHeld.2) (MB.i2 hHeld.2) (MB.i0 hHeld.2)).mono ?_; rintro e w2 ⟨rfl, b2⟩)
  (try (go_wp2_with fail))
  refine hK.out _ _ (jhold (MB.call hHeld.2 ‹Below _ _ _›)) (fun hNew => ?_)
  clear hK K hHeld
  have hHeld := hNew
  clear hNew
  (try simp only [List.getElem_toArray, List.getElem_cons_succ, List.getElem_cons_zero, Act.put, List.setIfInBounds_toArray, List.set_cons_zero, List.set_cons_succ])
  refine wpAnyH_take (i := 8) (v := ?_) rfl (by kernel_rfl) (by kernel_rfl) (by kernel_rfl) (fun _ _ _ h => h) (Or.inl ⟨by rfl, ?_⟩) hHeld ?_
  rotate_left
  focus ((intro w hSw; (try dsimp only at hSw); go_simp); (try with_reducible rfl))
  (try simp only [List.getElem_toArray, List.getElem_cons_succ, List.getElem_cons_zero, Act.put, List.setIfInBounds_toArray, List.set_cons_zero, List.set_cons_succ])
  refine wpAnyH_take (i := 9) (v := ?_) rfl (by kernel_rfl) (by kernel_rfl) (by kernel_rfl) (fun _ _ _ h => h) (Or.inl ⟨by rfl, ?_⟩) hHeld ?_
  rotate_left
  focus ((intro w hSw; (try dsimp only at hSw); go_simp); (try with_reducible rfl))
  (try simp only [List.getElem_toArray, List.getElem_cons_succ, List.getElem_cons_zero, Act.put, List.setIfInBounds_toArray, List.set_cons_zero, List.set_cons_succ])
  refine wpAnyH_take (i := 10) (v := ?_) rfl (by kernel_rfl) (by kernel_rfl) (by kernel_rfl) (fun _ _ _ h => h) (Or.inl ⟨by rfl, ?_⟩) hHeld ?_
  rotate_left
  focus ((intro w hSw; (try dsimp only at hSw); go_simp); (try with_reducible rfl))
  (try simp only [List.getElem_toArray, List.getElem_cons_succ, List.getElem_cons_zero, Act.put, List.setIfInBounds_toArray, List.set_cons_zero, List.set_cons_succ])
  refine wpAnyH_take (i := 11) (v := ?_) rfl (by kernel_rfl) (by kernel_rfl) (by kernel_rfl) (fun _ _ _ h => h) (Or.inl ⟨by rfl, ?_⟩) hHeld ?_
  rotate_left
  focus ((intro w hSw; (try dsimp only at hSw); go_simp); (try with_reducible rfl))
  (try simp only [List.getElem_toArray, List.getElem_cons_succ, List.getElem_cons_zero, Act.put, List.setIfInBounds_toArray, List.set_cons_zero, List.set_cons_succ])
  refine wpAnyH_take (i := 12) (v := ?_) rfl (by kernel_rfl) (by kernel_rfl) (by kernel_rfl) (fun _ _ _ h => h) (Or.inl ⟨by rfl, ?_⟩) hHeld ?_
  rotate_left
  focus ((intro w hSw; (try dsimp only at hSw); go_simp); (try with_reducible rfl))
  (try simp only [List.getElem_toArray, List.getElem_cons_succ, List.getElem_cons_zero, Act.put, List.setIfInBounds_toArray, List.set_cons_zero, List.set_cons_succ])
  refine wpAnyH_take (i := 14) (v := ?_) rfl (by kernel_rfl) (by kernel_rfl) (by kernel_rfl) (fun _ _ _ h => h) (Or.inl ⟨by rfl, ?_⟩) hHeld ?_
  rotate_left
  focus ((intro w hSw; (try dsimp only at hSw); go_simp); (try with_reducible rfl))
  (try simp only [List.getElem_toArray, List.getElem_cons_succ, List.getElem_cons_zero, Act.put, List.setIfInBounds_toArray, List.set_cons_zero, List.set_cons_succ])
  refine wpAnyH_take (i := 15) (v := ?_) rfl (by kernel_rfl) (by kernel_rfl) (by kernel_rfl) (fun _ _ _ h => h) (Or.inl ⟨by rfl, ?_⟩) hHeld ?_
  rotate_left
  focus ((intro w hSw; (try dsimp only at hSw); go_simp); (try with_reducible rfl))
  (try simp only [List.getElem_toArray, List.getElem_cons_succ, List.getElem_cons_zero, Act.put, List.setIfInBounds_toArray, List.set_cons_zero, List.set_cons_succ])
  refine wpAnyH_ready (rs := [13]) (by kernel_rfl) (by simp) ?_
  refine AllReadyH.cons rfl (fun K hK => ?_) AllReadyH.nil
  go_simp
  (refine (s_EndOf _ _ _ _ _ lf lt la _ (MB.i3 hHeld.2) (MB.i2 hHeld.2) (MB.i1 hHeld.2)).mono ?_; rintro e w3 ⟨rfl, b3⟩; rw [hE])
  (try (go_wp2_with fail))
  refine hK.out _ _ (jhold (MB.call hHeld.2 ‹Below _ _ _›)) (fun hNew => ?_)
  clear hK K hHeld
  have hHeld := hNew
  clear hNew
  (try simp only [List.getElem_toArray, List.getElem_cons_succ, List.getElem_cons_zero, Act.put, List.setIfInBounds_toArray, List.set_cons_zero, List.set_cons_succ])
  refine wpAnyH_take (i := 16) (v := ?_) rfl (by kernel_rfl) (by kernel_rfl) (by kernel_rfl) (fun _ _ _ h => h) (Or.inl ⟨by rfl, ?_⟩) hHeld ?_
  rotate_left
  focus ((intro w hSw; (try dsimp only at hSw); go_simp); (try with_reducible rfl))
  (try simp only [List.getElem_toArray, List.getElem_cons_succ, List.getElem_cons_zero, Act.put, List.setIfInBounds_toArray, List.set_cons_zero, List.set_cons_succ])
  refine wpAnyH_take (i := 17) (v := ?_) rfl (by kernel_rfl) (by kernel_rfl) (by kernel_rfl) (fun _ _ _ h => h) (Or.inl ⟨by rfl, ?_⟩) hHeld ?_
  rotate_left
  focus ((intro w hSw; (try dsimp only at hSw); go_simp); (try with_reducible rfl))
  (try simp only [List.getElem_toArray, List.getElem_cons_succ, List.getElem_cons_zero, Act.put, List.setIfInBounds_toArray, List.set_cons_zero, List.set_cons_succ])
  refine wpAnyH_take (i := 18) (v := ?_) rfl (by kernel_rfl) (by kernel_rfl) (by kernel_rfl) (fun _ _ _ h => h) (Or.inl ⟨by rfl, ?_⟩) hHeld ?_
  rotate_left
  focus ((intro w hSw; (try dsimp only at hSw); go_simp); (try with_reducible rfl))
  (try simp only [List.getElem_toArray, List.getElem_cons_succ, List.getElem_cons_zero, Act.put, List.setIfInBounds_toArray, List.set_cons_zero, List.set_cons_succ])
  refine wpAnyH_take (i := 19) (v := ?_) rfl (by kernel_rfl) (by kernel_rfl) (by kernel_rfl) (fun _ _ _ h => h) (Or.inl ⟨by rfl, ?_⟩) hHeld ?_
  rotate_left
  focus ((intro w hSw; (try dsimp only at hSw); go_simp); (try with_reducible rfl))
  (try simp only [List.getElem_toArray, List.getElem_cons_succ, List.getElem_cons_zero, Act.put, List.setIfInBounds_toArray, List.set_cons_zero, List.set_cons_succ])
  refine wpAnyH_take (i := 20) (v := ?_) rfl (by kernel_rfl) (by kernel_rfl) (by kernel_rfl) (fun _ _ _ h => h) (Or.inl ⟨by rfl, ?_⟩) hHeld ?_
  rotate_left
  focus ((intro w hSw; (try dsimp only at hSw); go_simp); (try with_reducible rfl))
  (try simp only [List.getElem_toArray, List.getElem_cons_succ, List.getElem_cons_zero, Act.put, List.setIfInBounds_toArray, List.set_cons_zero, List.set_cons_succ])
  refine wpAnyH_take (i := 21) (v := ?_) rfl (by kernel_rfl) (by kernel_rfl) (by kernel_rfl) (fun _ _ _ h => h) (Or.inl ⟨by rfl, ?_⟩) hHeld ?_
  rotate_left
  focus ((intro w hSw; (try dsimp only at hSw); go_simp); (try with_reducible rfl))
  (try simp only [List.getElem_toArray, List.getElem_cons_succ, List.getElem_cons_zero, Act.put, List.setIfInBounds_toArray, List.set_cons_zero, List.set_cons_succ])
  refine wpAnyH_take (i := 22) (v := ?_) rfl (by kernel_rfl) (by kernel_rfl) (by kernel_rfl) (fun _ _ _ h => h) (Or.inl ⟨by rfl, ?_⟩) hHeld ?_
  rotate_left
  focus ((intro w hSw; (try dsimp only at hSw); go_simp); (try with_reducible rfl))
  (try simp only [List.getElem_toArray, List.getElem_cons_succ, List.getElem_cons_zero, Act.put, List.setIfInBounds_toArray, List.set_cons_zero, List.set_cons_succ])
  refine wpAnyH_take (i := 23) (v := ?_) rfl (by kernel_rfl) (by kernel_rfl) (by kernel_rfl) (fun _ _ _ h => h) (Or.inl ⟨by rfl, ?_⟩) hHeld ?_
  rotate_left
  focus ((intro w hSw; (try dsimp only at hSw); go_simp); (try with_reducible rfl))
  (try simp only [List.getElem_toArray, List.getElem_cons_succ, List.getElem_cons_zero, Act.put, List.setIfInBounds_toArray, List.set_cons_zero, List.set_cons_succ])
  refine wpAnyH_take (i := 24) (v := ?_) rfl (by kernel_rfl) (by kernel_rfl) (by kernel_rfl) (fun _ _ _ h => h) (Or.inl ⟨by rfl, ?_⟩) hHeld ?_
  rotate_left
  focus ((intro w hSw; (try dsimp only at hSw); go_simp); (try with_reducible rfl))
  (try simp only [List.getElem_toArray, List.getElem_cons_succ, List.getElem_cons_zero, Act.put, List.setIfInBounds_toArray, List.set_cons_zero, List.set_cons_succ])
  refine wpAnyH_take (i := 25) (v := ?_) rfl (by kernel_rfl) (by kernel_rfl) (by kernel_rfl) (fun _ _ _ h => h) (Or.inl ⟨by rfl, ?_⟩) hHeld ?_
  rotate_left
  focus ((intro w hSw; (try dsimp only at hSw); go_simp); (try with_reducible rfl))
  (try simp only [List.getElem_toArray, List.getElem_cons_succ, List.getElem_cons_zero, Act.put, List.setIfInBounds_toArray, List.set_cons_zero, List.set_cons_succ])
  refine wpAnyH_take (i := 26) (v := ?_) rfl (by kernel_rfl) (by kernel_rfl) (by kernel_rfl) (fun _ _ _ h => h) (Or.inl ⟨by rfl, ?_⟩) hHeld ?_
  rotate_left
  focus ((intro w hSw; (try dsimp only at hSw); go_simp); (try with_reducible rfl))
  (try simp only [List.getElem_toArray, List.getElem_cons_succ, List.getElem_cons_zero, Act.put, List.setIfInBounds_toArray, List.set_cons_zero, List.set_cons_succ])
  refine wpAnyH_take (i := 27) (v := ?_) rfl (by kernel_rfl) (by kernel_rfl) (by kernel_rfl) (fun _ _ _ h => h) (Or.inl ⟨by rfl, ?_⟩) hHeld ?_
  rotate_left
  focus ((intro w hSw; (try dsimp only at hSw); go_simp); (try with_reducible rfl))
  (try simp only [List.getElem_toArray, List.getElem_cons_succ, List.getElem_cons_zero, Act.put, List.setIfInBounds_toArray, List.set_cons_zero, List.set_cons_succ])
  refine wpAnyH_done (by kernel_rfl) ?_ _
  refine NoPanic.normal ?_
  have M9 := Lib.hid hHeld.2
  clear hHeld gw
  obtain ⟨p0, p1⟩ := blk2 M9.out.b2
  obtain ⟨r0, r1⟩ := blk2 M9.out.b1
  have hsz := M9.out.b0.lt
  have HS := Lib.hid (fun (w' : World) (hb : Below (w.heap.size + 1 + 1 + 1) w3 w') => (show (w'.cell? ⟨w.heap.size + 1, 0, none⟩ = some (.int .i64 s) ∧ w'.cell? ⟨w.heap.size + 1, 1, none⟩ = some (.slice a3 la.length c3) ∧ w'.cell? ⟨w.heap.size + 2, 1, none⟩ = some (.slice a4 lb.length c4)) from ⟨(M9.out.b2.belowB hb (by omega)).cell 0, (M9.out.b2.belowB hb (by omega)).cell 1, (M9.out.b1.belowB hb (by omega)).cell 1⟩))
  have HW := Lib.hid (fun (w' : World) (hb : Below w3.heap.size w3 w') (y0 y1 : Value) => HS.out _ (set2_below (hb.mono (Nat.le_of_lt hsz)) (Nat.le_refl _) y0 y1))
  have HF := Lib.hid (fun (w' : World) (hb : Below w3.heap.size w3 w') => HS.out _ (hb.mono (Nat.le_of_lt hsz)))
  have RR : Hid (Res2 w3 (w.heap.size + 1 + 1 + 1) 28) := ⟨_, _, M9.out.b0⟩
  go_upto_region 3 with fail
  go_region_held3 (fun w' => (w'.cell? ⟨w.heap.size + 1, 0, none⟩ = some (.int .i64 s) ∧ w'.cell? ⟨w.heap.size + 1, 1, none⟩ = some (.slice a3 la.length c3) ∧ w'.cell? ⟨w.heap.size + 2, 1, none⟩ = some (.slice a4 lb.length c4)))
    (first
      | with_reducible exact HS.out _ ((Below.refl _ _).drew)
      | with_reducible exact HF.out _ (held_allocd (A := True) ⟨trivial, (Below.refl _ w3).drew⟩ _)
      | with_reducible exact HF.out _ hb9
      | with_reducible exact HF.out _ hb8
      | exact HW.out _ hb9 _ _)
    (first
      | (refine step_app_own w3 _ (by rfl) (.tmp 39) (.tmp 41) (by rfl) _ _ [] la (by rfl) (by rfl) ?_ (Own.made w3 3 .i64 (Nat.le_refl _)).drew (held_allocd (A := True) ⟨trivial, (Below.refl _ w3).drew⟩ _) (by simp; omega) ?_; (exact M9.out.i1.below (held_allocd (A := True) ⟨trivial, (Below.refl _ w3).drew⟩ _)); intro v8 w8 hown8 hb8)
      | (refine step_app_own w3 _ (by rfl) (.tmp 42) (.tmp 44) (by rfl) _ _ la lb (by rfl) (by rfl) ?_ hown8 hb8 (by omega) ?_; (exact M9.out.i0.below hb8); intro v9 w9 hown9 hb9; have hq9 := Ints.of_own hown9; have hv9 := hq9.1; have hj := Lib.hid (join_in s RR.out M9.out hb9 hq9.1 hq9.2 hsz); have hs9 := hv9.shape; rw [List.length_append] at hs9; obtain ⟨a9, c9, rfl, _, _⟩ := hs9; obtain ⟨x0, x1, q0, q1, f0, f1⟩ := (RR.out.below hb9).open_; clear hq9 hv9 hown9))
  clear HS HF HW
  go_wp2
  exact bodyPost_ret (v := .tuple #[.agg #[.int .i64 s, .slice a9 (la.length + lb.length) c9], .bool true]) (by simp [results, Tryd.results7, go_sem, hj.out.1.cell 0, hj.out.1.cell 1]) rfl (PathOK.of_eq hj.out.2 rfl rfl rfl)

theorem s_JoinPaths (n : Int) (vf vt : Value) (s : Int) (va : Value) (s' : Int) (vb : Value) (lf lt la lb : List Int) (w : World) (hf : Ints w vf lf) (ht : Ints w vt lt) (ha : Ints w va la) (hb : Ints w vb lb) :
    Calls Tryd.prog 7 #[.agg #[.int .i64 n, vf, vt], .agg #[.int .i64 s, va], .agg #[.int .i64 s', vb]] w (PathOK (joiS n lf lt s la s' lb) (joiL n lf lt s la s' lb) (joiOK n lf lt s la s' lb) w) := by
  cases g0 : isP n lf lt s la
  · exact (s_Join_no0 n vf vt s va s' vb lf lt la lb w hf ht ha hb g0).mono fun _ _ h => h.of_eq (by simp [joiS, joiOK, g0]) (by simp [joiL, joiOK, g0]) (by simp [joiOK, g0])
  cases g1 : isP n lf lt s' lb
  · exact (s_Join_no1 n vf vt s va s' vb lf lt la lb w hf ht ha hb g0 g1).mono fun _ _ h => h.of_eq (by simp [joiS, joiOK, g0, g1]) (by simp [joiL, joiOK, g0, g1]) (by simp [joiOK, g0, g1])
  cases g2 : decide (endP n lf lt s la = s')
  · exact (s_Join_no2 n vf vt s va s' vb lf lt la lb w hf ht ha hb g0 g1 g2).mono fun _ _ h => h.of_eq (by simp [joiS, joiOK, g0, g1, g2]) (by simp [joiL, joiOK, g0, g1, g2]) (by simp [joiOK, g0, g1, g2])
  cases g3 : decide (la.length + lb.length ≤ 20)
  · exact (s_Join_no3 n vf vt s va s' vb lf lt la lb w hf ht ha hb g0 g1 g2 g3).mono fun _ _ h => h.of_eq (by simp [joiS, joiOK, g0, g1, g2, g3]) (by simp [joiL, joiOK, g0, g1, g2, g3]) (by simp [joiOK, g0, g1, g2, g3])
  · exact (s_Join_yes n vf vt s va s' vb lf lt la lb w hf ht ha hb g0 g1 g2 g3).mono fun _ _ h => h.of_eq (by simp [joiS, joiOK, g0, g1, g2, g3]) (by simp [joiL, joiOK, g0, g1, g2, g3]) (by simp [joiOK, g0, g1, g2, g3])

end Go.Proofs.YtndooeffjkofdaaDoor
