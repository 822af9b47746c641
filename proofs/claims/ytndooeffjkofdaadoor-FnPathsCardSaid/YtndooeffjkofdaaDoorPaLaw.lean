/- FnPaths: the law's walk. -/
import Derived.Test.YtndooeffjkofdaaDoorPaL
import Derived.Test.YtndooeffjkofdaaDoorDf
import Derived.Test.YtndooeffjkofdaaDoorDg
import Derived.Test.YtndooeffjkofdaaDoorFp
import Derived.Deep.CutBlock
namespace Go.Proofs.YtndooeffjkofdaaDoor
open Go.RowKit
set_option linter.unusedVariables false
set_option linter.unusedSimpArgs false

set_option maxRecDepth 100000 in
set_option maxHeartbeats 400000 in
theorem l_big (v : Value) (n b : Nat) (w : World) (hv : Byt w v n b) :
    Calls Tryd.prog 4 #[v] w fun e w' => e = .returned (.bool (decide ((1048576 : Int) < (n : Int)))) ∧ w = w' := by
  obtain ⟨a, cap, rfl, h1, h2, h3⟩ := hv
  unfold maxLen at h2
  clear h3
  go_enter Tryd.func4, Tryd.ntmps4
  go_wp2
  go_ret
  exact ⟨rfl, rfl⟩
theorem eqP_self (n : Int) (l : List Int) : eqP n l n l = true := by simp [eqP]
theorem MB.cellsA {w0 w : World} {ins bls} {q0 q1 q2 a0 a1 b0 b1 x0 x1 y0 y1 : Value} {bq ba bb bx bY : Nat} (h : MB w0 ins ((bY, #[y0, y1], 28) :: (bx, #[x0, x1], 28) :: (bb, #[b0, b1], 28) :: (ba, #[a0, a1], 28) :: (bq, #[q0, q1, q2], 26) :: bls) w) :
    (w.cell? ⟨bY, 0, none⟩ = some y0 ∧ w.cell? ⟨bY, 1, none⟩ = some y1) ∧ (w.cell? ⟨bx, 0, none⟩ = some x0 ∧ w.cell? ⟨bx, 1, none⟩ = some x1) ∧ (w.cell? ⟨bb, 0, none⟩ = some b0 ∧ w.cell? ⟨bb, 1, none⟩ = some b1) ∧ (w.cell? ⟨bq, 0, none⟩ = some q0 ∧ w.cell? ⟨bq, 1, none⟩ = some q1 ∧ w.cell? ⟨bq, 2, none⟩ = some q2) :=
  ⟨blk2 h.b0, blk2 h.b1, blk2 h.b2, blk3 h.b4⟩

set_option maxRecDepth 100000 in
set_option maxHeartbeats 40000000 in
theorem law_FnPaths (v : Value) (n : Nat) (w : World) (hv : Byt w v n w.heap.size) (hpt : PowTab w) :
    Calls Tryd.prog 3 #[v] w fun e w' => e = .returned (.bool true) ∧ Below w.heap.size w w' := by
  have HE := Lib.hid hv
  have HP := Lib.hid hpt
  clear hv hpt
  by_cases hbig : 1048576 < n
  · have hb := Lib.hid (show decide ((1048576 : Int) < (n : Int)) = true by simp; omega)
    go_enter Tryd.func3, Tryd.ntmps3
    go_wp2_with fail
    refine (l_big v n _ _ HE.out).mono ?_; rintro e wz ⟨rfl, rfl⟩
    rw [hb.out]
    go_wp2
    go_ret
    exact ⟨rfl, Below.refl _ _⟩
  have hb := Lib.hid (show decide ((1048576 : Int) < (n : Int)) = false by simp; omega)
  have hn : n ≤ 1048576 := by omega
  clear hbig
  go_enter Tryd.func3, Tryd.ntmps3
  go_wp2_with fail
  refine (l_big v n _ _ HE.out).mono ?_; rintro e wz ⟨rfl, rfl⟩
  rw [hb.out]
  clear hb
  go_wp2_with fail
  refine (s_DrawJoinPaths v n _ HE.out hn).mono ?_; rintro e w1 ⟨n1, vf, vt, f, t, s, va, la, s2, vb, lb, rfl, hf, ht, ha, hb, _, _, b1⟩
  have M1 := Lib.hid (((((MB.start w).call b1).addI hf).addI ht).addI ha |>.addI hb)
  obtain ⟨a1, c1, rfl, _, _⟩ := hf.shape
  obtain ⟨a2, c2, rfl, _, _⟩ := ht.shape
  obtain ⟨a3, c3, rfl, _, _⟩ := ha.shape
  obtain ⟨a4, c4, rfl, _, _⟩ := hb.shape
  have hs1 : w.heap.size ≤ w1.heap.size := b1.size
  have M2 := Lib.hid (((M1.out.alloc #[.int .i64 n1, .slice a1 f.length c1, .slice a2 t.length c2] 26).alloc #[.int .i64 s, .slice a3 la.length c3] 28).alloc #[.int .i64 s2, .slice a4 lb.length c4] 28)
  have e1 : (w1.alloc (.cells #[.int .i64 n1, .slice a1 f.length c1, .slice a2 t.length c2] 26)).heap.size = w1.heap.size + 1 := by simp
  have e2 : ((w1.alloc (.cells #[.int .i64 n1, .slice a1 f.length c1, .slice a2 t.length c2] 26)).alloc (.cells #[.int .i64 s, .slice a3 la.length c3] 28)).heap.size = w1.heap.size + 1 + 1 := by simp
  rw [e1, e2] at M2
  clear hf ht ha hb b1 e1 e2
  go_upto_region 4 with fail
  generalize (((w1.alloc (.cells #[.int .i64 n1, .slice a1 f.length c1, .slice a2 t.length c2] 26)).alloc (.cells #[.int .i64 s, .slice a3 la.length c3] 28)).alloc (.cells #[.int .i64 s2, .slice a4 lb.length c4] 28)) = w2 at M2 ⊢
  clear M1
  obtain ⟨bq, hbq⟩ : ∃ b, b = w1.heap.size := ⟨_, rfl⟩
  rw [← hbq] at M2 hs1 ⊢
  clear hbq
  have hs2 : bq + 1 + 1 < w2.heap.size := M2.out.b0.lt
  obtain ⟨q0, q1, q2⟩ := blk3 M2.out.b2
  obtain ⟨p0, p1⟩ := blk2 M2.out.b1
  obtain ⟨r0, r1⟩ := blk2 M2.out.b0
  go_wp2_with fail
  refine (i_JoinPaths n1 _ _ s _ s2 _ f t la lb _ M2.out.i3 M2.out.i2 M2.out.i1 M2.out.i0).mono ?_; rintro e w3 ⟨vx, rfl, hx, _, b3⟩
  have HJ := Lib.hid (fun h => join_end (n := n1) (f := f) (t := t) (s := s) (s' := s2) (a := la) (b := lb) h)
  have HCON := Lib.hid (fun w hf ht ha hb => s_JoinPaths n1 (.slice a1 f.length c1) (.slice a2 t.length c2) s (.slice a3 la.length c3) s2 (.slice a4 lb.length c4) f t la lb w hf ht ha hb)
  generalize joiOK n1 f t s la s2 lb = ok at HJ HCON ⊢
  generalize joiS n1 f t s la s2 lb = js at HJ HCON ⊢
  generalize joiL n1 f t s la s2 lb = jl at HJ HCON hx ⊢
  have M3 := Lib.hid ((M2.out.call b3).addI hx)
  obtain ⟨ax, cx, rfl, _, _⟩ := hx.shape
  have hs3 : bq + 1 + 1 < w3.heap.size := M3.out.b0.lt
  have M4 := Lib.hid (M3.out.alloc #[.int .i64 js, .slice ax jl.length cx] 28)
  clear hx b3 q0 q1 q2 p0 p1 r0 r1
  go_upto_region 5 with fail
  generalize w3.alloc (.cells #[.int .i64 js, .slice ax jl.length cx] 28) = w4 at M4 ⊢
  obtain ⟨bx, hbx⟩ : ∃ b, b = w3.heap.size := ⟨_, rfl⟩
  rw [← hbx] at M4 hs3 ⊢
  clear hbx M3
  have hs4 : bx < w4.heap.size := M4.out.b0.lt
  obtain ⟨q0, q1, q2⟩ := blk3 M4.out.b3
  obtain ⟨p0, p1⟩ := blk2 M4.out.b2
  obtain ⟨r0, r1⟩ := blk2 M4.out.b1
  go_wp2_with fail
  refine (HCON.out _ M4.out.i4 M4.out.i3 M4.out.i2 M4.out.i1).mono ?_; rintro e w5 ⟨vy, rfl, hy, _, b5⟩
  have M5 := Lib.hid ((M4.out.call b5).addI hy)
  obtain ⟨ay, cy, rfl, _, _⟩ := hy.shape
  have hs5 : bx < w5.heap.size := M5.out.b0.lt
  have M6 := Lib.hid (M5.out.alloc #[.int .i64 js, .slice ay jl.length cy] 28)
  clear hy b5 q0 q1 q2 p0 p1 r0 r1 HCON
  go_upto_region 6 with fail
  generalize w5.alloc (.cells #[.int .i64 js, .slice ay jl.length cy] 28) = w6 at M6 ⊢
  obtain ⟨bY, hbY⟩ : ∃ b, b = w5.heap.size := ⟨_, rfl⟩
  rw [← hbY] at M6 hs5 ⊢
  clear hbY M5 M4 M2
  have hself := eqP_self js jl
  go_cut [72] (fun sc wx => sc = .bool false ∧ Hid (Below w.heap.size w wx))
  case' first =>
    cases ok

    focus
      refine wp_region_noPanic ?_
      refine wp_region_held_drew (S := (fun w' => ((w'.cell? ⟨bY, 0, none⟩ = some (.int .i64 js) ∧ w'.cell? ⟨bY, 1, none⟩ = some (.slice ay jl.length cy)) ∧ (w'.cell? ⟨bx, 0, none⟩ = some (.int .i64 js) ∧ w'.cell? ⟨bx, 1, none⟩ = some (.slice ax jl.length cx)) ∧ (w'.cell? ⟨bq + 1 + 1, 0, none⟩ = some (.int .i64 s2) ∧ w'.cell? ⟨bq + 1 + 1, 1, none⟩ = some (.slice a4 lb.length c4)) ∧ (w'.cell? ⟨bq, 0, none⟩ = some (.int .i64 n1) ∧ w'.cell? ⟨bq, 1, none⟩ = some (.slice a1 f.length c1) ∧ w'.cell? ⟨bq, 2, none⟩ = some (.slice a2 t.length c2))) ∧ MB w [(.slice ay jl.length cy, jl), (.slice ax jl.length cx, jl), (.slice a4 lb.length c4, lb), (.slice a3 la.length c3, la), (.slice a2 t.length c2, t), (.slice a1 f.length c1, f)] [(bY, #[.int .i64 js, .slice ay jl.length cy], 28), (bx, #[.int .i64 js, .slice ax jl.length cx], 28), (bq + 1 + 1, #[.int .i64 s2, .slice a4 lb.length c4], 28), (bq + 1, #[.int .i64 s, .slice a3 la.length c3], 28), (bq, #[.int .i64 n1, .slice a1 f.length c1, .slice a2 t.length c2], 26)] w')) (by kernel_rfl) (⟨MB.cellsA M6.out.drew, M6.out.drew⟩) (fun hHeld => ?_)
      refine wpAnyH_take (i := 0) (v := ?_) rfl (by kernel_rfl) (by kernel_rfl) (by kernel_rfl) (fun _ _ _ h => h) (Or.inl ⟨by rfl, ?_⟩) hHeld ?_
      rotate_left
      focus ((intro w hSw; (try dsimp only at hSw); go_simp); (try with_reducible rfl))
      (try simp only [List.getElem_toArray, List.getElem_cons_succ, List.getElem_cons_zero, Act.put, List.setIfInBounds_toArray, List.set_cons_zero, List.set_cons_succ])
      refine wpAnyH_take (i := 1) (v := ?_) rfl (by kernel_rfl) (by kernel_rfl) (by kernel_rfl) (fun _ _ _ h => h) (Or.inl ⟨by rfl, ?_⟩) hHeld ?_
      rotate_left
      focus ((intro w hSw; (try dsimp only at hSw); go_simp); (try with_reducible rfl))
      (try simp only [List.getElem_toArray, List.getElem_cons_succ, List.getElem_cons_zero, Act.put, List.setIfInBounds_toArray, List.set_cons_zero, List.set_cons_succ])
      refine wpAnyH_take (i := 2) (v := ?_) rfl (by kernel_rfl) (by kernel_rfl) (by kernel_rfl) (fun _ _ _ h => h) (Or.inl ⟨by rfl, ?_⟩) hHeld ?_
      rotate_left
      focus ((intro w hSw; (try dsimp only at hSw); go_simp); (try with_reducible rfl))
      (try simp only [List.getElem_toArray, List.getElem_cons_succ, List.getElem_cons_zero, Act.put, List.setIfInBounds_toArray, List.set_cons_zero, List.set_cons_succ])
      refine wpAnyH_take (i := 3) (v := ?_) rfl (by kernel_rfl) (by kernel_rfl) (by kernel_rfl) (fun _ _ _ h => h) (Or.inl ⟨by rfl, ?_⟩) hHeld ?_
      rotate_left
      focus ((intro w hSw; (try dsimp only at hSw); go_simp); (try with_reducible rfl))
      (try simp only [List.getElem_toArray, List.getElem_cons_succ, List.getElem_cons_zero, Act.put, List.setIfInBounds_toArray, List.set_cons_zero, List.set_cons_succ])
      refine wpAnyH_take (i := 4) (v := ?_) rfl (by kernel_rfl) (by kernel_rfl) (by kernel_rfl) (fun _ _ _ h => h) (Or.inl ⟨by rfl, ?_⟩) hHeld ?_
      rotate_left
      focus ((intro w hSw; (try dsimp only at hSw); go_simp); (try with_reducible rfl))
      (try simp only [List.getElem_toArray, List.getElem_cons_succ, List.getElem_cons_zero, Act.put, List.setIfInBounds_toArray, List.set_cons_zero, List.set_cons_succ])
      refine wpAnyH_take (i := 5) (v := ?_) rfl (by kernel_rfl) (by kernel_rfl) (by kernel_rfl) (fun _ _ _ h => h) (Or.inl ⟨by rfl, ?_⟩) hHeld ?_
      rotate_left
      focus ((intro w hSw; (try dsimp only at hSw); go_simp); (try with_reducible rfl))
      (try simp only [List.getElem_toArray, List.getElem_cons_succ, List.getElem_cons_zero, Act.put, List.setIfInBounds_toArray, List.set_cons_zero, List.set_cons_succ])
      refine wpAnyH_ready (rs := [6]) (by kernel_rfl) (by simp) ?_
      refine AllReadyH.cons rfl (fun K hK => ?_) AllReadyH.nil
      go_simp
      (refine (s_EqualPaths js js _ _ jl jl _ (MB.i1 hHeld.2) (MB.i0 hHeld.2)).mono ?_; rintro e w7 ⟨rfl, b7⟩; rw [hself])
      (try (go_wp2_with fail))
      refine hK.out _ _ (⟨MB.cellsA (MB.call hHeld.2 ‹Below _ _ _›), MB.call hHeld.2 ‹Below _ _ _›⟩) (fun hNew => ?_)
      clear hK K hHeld
      have hHeld := hNew
      clear hNew
      (try simp only [List.getElem_toArray, List.getElem_cons_succ, List.getElem_cons_zero, Act.put, List.setIfInBounds_toArray, List.set_cons_zero, List.set_cons_succ])
      refine wpAnyH_take (i := 7) (v := ?_) rfl (by kernel_rfl) (by kernel_rfl) (by kernel_rfl) (fun _ _ _ h => h) (Or.inl ⟨by rfl, ?_⟩) hHeld ?_
      rotate_left
      focus ((intro w hSw; (try dsimp only at hSw); go_simp); (try with_reducible rfl))
      (try simp only [List.getElem_toArray, List.getElem_cons_succ, List.getElem_cons_zero, Act.put, List.setIfInBounds_toArray, List.set_cons_zero, List.set_cons_succ])
      refine wpAnyH_take (i := 8) (v := ?_) rfl (by kernel_rfl) (by kernel_rfl) (by kernel_rfl) (fun _ _ _ h => h) (Or.inl ⟨by rfl, ?_⟩) hHeld ?_
      rotate_left
      focus ((intro w hSw; (try dsimp only at hSw); go_simp); (try with_reducible rfl))
      (try simp only [List.getElem_toArray, List.getElem_cons_succ, List.getElem_cons_zero, Act.put, List.setIfInBounds_toArray, List.set_cons_zero, List.set_cons_succ])
      refine wpAnyH_take (i := 9) (v := ?_) rfl (by kernel_rfl) (by kernel_rfl) (by kernel_rfl) (fun _ _ _ h => h) (Or.inl ⟨by rfl, ?_⟩) hHeld ?_
      rotate_left
      focus ((intro w hSw; (try dsimp only at hSw); go_simp); (try with_reducible rfl))
      (try simp only [List.getElem_toArray, List.getElem_cons_succ, List.getElem_cons_zero, Act.put, List.setIfInBounds_toArray, List.set_cons_zero, List.set_cons_succ])
      refine wpAnyH_take (i := 10) (v := ?_) rfl (by kernel_rfl) (by kernel_rfl) (by kernel_rfl) (fun _ _ _ h => h) (Or.inl ⟨by rfl, ?_⟩) hHeld ?_
      rotate_left
      focus ((intro w hSw; (try dsimp only at hSw); go_simp); (try with_reducible rfl))
      (try simp only [List.getElem_toArray, List.getElem_cons_succ, List.getElem_cons_zero, Act.put, List.setIfInBounds_toArray, List.set_cons_zero, List.set_cons_succ])
      refine wpAnyH_take (i := 11) (v := ?_) rfl (by kernel_rfl) (by kernel_rfl) (by kernel_rfl) (fun _ _ _ h => h) (Or.inl ⟨by rfl, ?_⟩) hHeld ?_
      rotate_left
      focus ((intro w hSw; (try dsimp only at hSw); go_simp); (try with_reducible rfl))
      (try simp only [List.getElem_toArray, List.getElem_cons_succ, List.getElem_cons_zero, Act.put, List.setIfInBounds_toArray, List.set_cons_zero, List.set_cons_succ])
      refine wpAnyH_take (i := 12) (v := undef) rfl (by kernel_rfl) (by kernel_rfl) (by kernel_rfl) (fun _ _ _ h => h) (Or.inr ⟨by rfl, rfl⟩) hHeld ?_
      (try simp only [List.getElem_toArray, List.getElem_cons_succ, List.getElem_cons_zero, Act.put, List.setIfInBounds_toArray, List.set_cons_zero, List.set_cons_succ])
      refine wpAnyH_take (i := 13) (v := undef) rfl (by kernel_rfl) (by kernel_rfl) (by kernel_rfl) (fun _ _ _ h => h) (Or.inr ⟨by rfl, rfl⟩) hHeld ?_
      (try simp only [List.getElem_toArray, List.getElem_cons_succ, List.getElem_cons_zero, Act.put, List.setIfInBounds_toArray, List.set_cons_zero, List.set_cons_succ])
      refine wpAnyH_take (i := 14) (v := undef) rfl (by kernel_rfl) (by kernel_rfl) (by kernel_rfl) (fun _ _ _ h => h) (Or.inr ⟨by rfl, rfl⟩) hHeld ?_
      (try simp only [List.getElem_toArray, List.getElem_cons_succ, List.getElem_cons_zero, Act.put, List.setIfInBounds_toArray, List.set_cons_zero, List.set_cons_succ])
      refine wpAnyH_take (i := 15) (v := undef) rfl (by kernel_rfl) (by kernel_rfl) (by kernel_rfl) (fun _ _ _ h => h) (Or.inr ⟨by rfl, rfl⟩) hHeld ?_
      (try simp only [List.getElem_toArray, List.getElem_cons_succ, List.getElem_cons_zero, Act.put, List.setIfInBounds_toArray, List.set_cons_zero, List.set_cons_succ])
      refine wpAnyH_take (i := 16) (v := undef) rfl (by kernel_rfl) (by kernel_rfl) (by kernel_rfl) (fun _ _ _ h => h) (Or.inr ⟨by rfl, rfl⟩) hHeld ?_
      (try simp only [List.getElem_toArray, List.getElem_cons_succ, List.getElem_cons_zero, Act.put, List.setIfInBounds_toArray, List.set_cons_zero, List.set_cons_succ])
      refine wpAnyH_take (i := 17) (v := undef) rfl (by kernel_rfl) (by kernel_rfl) (by kernel_rfl) (fun _ _ _ h => h) (Or.inr ⟨by rfl, rfl⟩) hHeld ?_
      (try simp only [List.getElem_toArray, List.getElem_cons_succ, List.getElem_cons_zero, Act.put, List.setIfInBounds_toArray, List.set_cons_zero, List.set_cons_succ])
      refine wpAnyH_take (i := 18) (v := undef) rfl (by kernel_rfl) (by kernel_rfl) (by kernel_rfl) (fun _ _ _ h => h) (Or.inr ⟨by rfl, rfl⟩) hHeld ?_
      (try simp only [List.getElem_toArray, List.getElem_cons_succ, List.getElem_cons_zero, Act.put, List.setIfInBounds_toArray, List.set_cons_zero, List.set_cons_succ])
      refine wpAnyH_take (i := 19) (v := ?_) rfl (by kernel_rfl) (by kernel_rfl) (by kernel_rfl) (fun _ _ _ h => h) (Or.inl ⟨by rfl, ?_⟩) hHeld ?_
      rotate_left
      focus ((intro w hSw; (try dsimp only at hSw); go_simp); (try with_reducible rfl))
      (try simp only [List.getElem_toArray, List.getElem_cons_succ, List.getElem_cons_zero, Act.put, List.setIfInBounds_toArray, List.set_cons_zero, List.set_cons_succ])
      refine wpAnyH_take (i := 20) (v := ?_) rfl (by kernel_rfl) (by kernel_rfl) (by kernel_rfl) (fun _ _ _ h => h) (Or.inl ⟨by rfl, ?_⟩) hHeld ?_
      rotate_left
      focus ((intro w hSw; (try dsimp only at hSw); go_simp); (try with_reducible rfl))
      (try simp only [List.getElem_toArray, List.getElem_cons_succ, List.getElem_cons_zero, Act.put, List.setIfInBounds_toArray, List.set_cons_zero, List.set_cons_succ])
      refine wpAnyH_done (by kernel_rfl) ?_ _
      refine NoPanic.normal ?_
    rotate_left
    focus
      have hje := HJ.out rfl
      obtain ⟨E, hE⟩ : ∃ E, endP n1 f t s2 lb = E := ⟨_, rfl⟩
      rw [hE] at hje
      refine wp_region_noPanic ?_
      refine wp_region_held_drew (S := (fun w' => ((w'.cell? ⟨bY, 0, none⟩ = some (.int .i64 js) ∧ w'.cell? ⟨bY, 1, none⟩ = some (.slice ay jl.length cy)) ∧ (w'.cell? ⟨bx, 0, none⟩ = some (.int .i64 js) ∧ w'.cell? ⟨bx, 1, none⟩ = some (.slice ax jl.length cx)) ∧ (w'.cell? ⟨bq + 1 + 1, 0, none⟩ = some (.int .i64 s2) ∧ w'.cell? ⟨bq + 1 + 1, 1, none⟩ = some (.slice a4 lb.length c4)) ∧ (w'.cell? ⟨bq, 0, none⟩ = some (.int .i64 n1) ∧ w'.cell? ⟨bq, 1, none⟩ = some (.slice a1 f.length c1) ∧ w'.cell? ⟨bq, 2, none⟩ = some (.slice a2 t.length c2))) ∧ MB w [(.slice ay jl.length cy, jl), (.slice ax jl.length cx, jl), (.slice a4 lb.length c4, lb), (.slice a3 la.length c3, la), (.slice a2 t.length c2, t), (.slice a1 f.length c1, f)] [(bY, #[.int .i64 js, .slice ay jl.length cy], 28), (bx, #[.int .i64 js, .slice ax jl.length cx], 28), (bq + 1 + 1, #[.int .i64 s2, .slice a4 lb.length c4], 28), (bq + 1, #[.int .i64 s, .slice a3 la.length c3], 28), (bq, #[.int .i64 n1, .slice a1 f.length c1, .slice a2 t.length c2], 26)] w')) (by kernel_rfl) (⟨MB.cellsA M6.out.drew, M6.out.drew⟩) (fun hHeld => ?_)
      refine wpAnyH_take (i := 0) (v := ?_) rfl (by kernel_rfl) (by kernel_rfl) (by kernel_rfl) (fun _ _ _ h => h) (Or.inl ⟨by rfl, ?_⟩) hHeld ?_
      rotate_left
      focus ((intro w hSw; (try dsimp only at hSw); go_simp); (try with_reducible rfl))
      (try simp only [List.getElem_toArray, List.getElem_cons_succ, List.getElem_cons_zero, Act.put, List.setIfInBounds_toArray, List.set_cons_zero, List.set_cons_succ])
      refine wpAnyH_take (i := 1) (v := ?_) rfl (by kernel_rfl) (by kernel_rfl) (by kernel_rfl) (fun _ _ _ h => h) (Or.inl ⟨by rfl, ?_⟩) hHeld ?_
      rotate_left
      focus ((intro w hSw; (try dsimp only at hSw); go_simp); (try with_reducible rfl))
      (try simp only [List.getElem_toArray, List.getElem_cons_succ, List.getElem_cons_zero, Act.put, List.setIfInBounds_toArray, List.set_cons_zero, List.set_cons_succ])
      refine wpAnyH_take (i := 2) (v := ?_) rfl (by kernel_rfl) (by kernel_rfl) (by kernel_rfl) (fun _ _ _ h => h) (Or.inl ⟨by rfl, ?_⟩) hHeld ?_
      rotate_left
      focus ((intro w hSw; (try dsimp only at hSw); go_simp); (try with_reducible rfl))
      (try simp only [List.getElem_toArray, List.getElem_cons_succ, List.getElem_cons_zero, Act.put, List.setIfInBounds_toArray, List.set_cons_zero, List.set_cons_succ])
      refine wpAnyH_take (i := 3) (v := ?_) rfl (by kernel_rfl) (by kernel_rfl) (by kernel_rfl) (fun _ _ _ h => h) (Or.inl ⟨by rfl, ?_⟩) hHeld ?_
      rotate_left
      focus ((intro w hSw; (try dsimp only at hSw); go_simp); (try with_reducible rfl))
      (try simp only [List.getElem_toArray, List.getElem_cons_succ, List.getElem_cons_zero, Act.put, List.setIfInBounds_toArray, List.set_cons_zero, List.set_cons_succ])
      refine wpAnyH_take (i := 4) (v := ?_) rfl (by kernel_rfl) (by kernel_rfl) (by kernel_rfl) (fun _ _ _ h => h) (Or.inl ⟨by rfl, ?_⟩) hHeld ?_
      rotate_left
      focus ((intro w hSw; (try dsimp only at hSw); go_simp); (try with_reducible rfl))
      (try simp only [List.getElem_toArray, List.getElem_cons_succ, List.getElem_cons_zero, Act.put, List.setIfInBounds_toArray, List.set_cons_zero, List.set_cons_succ])
      refine wpAnyH_take (i := 5) (v := ?_) rfl (by kernel_rfl) (by kernel_rfl) (by kernel_rfl) (fun _ _ _ h => h) (Or.inl ⟨by rfl, ?_⟩) hHeld ?_
      rotate_left
      focus ((intro w hSw; (try dsimp only at hSw); go_simp); (try with_reducible rfl))
      (try simp only [List.getElem_toArray, List.getElem_cons_succ, List.getElem_cons_zero, Act.put, List.setIfInBounds_toArray, List.set_cons_zero, List.set_cons_succ])
      refine wpAnyH_ready (rs := [6]) (by kernel_rfl) (by simp) ?_
      refine AllReadyH.cons rfl (fun K hK => ?_) AllReadyH.nil
      go_simp
      (refine (s_EqualPaths js js _ _ jl jl _ (MB.i1 hHeld.2) (MB.i0 hHeld.2)).mono ?_; rintro e w7 ⟨rfl, b7⟩; rw [hself])
      (try (go_wp2_with fail))
      refine hK.out _ _ (⟨MB.cellsA (MB.call hHeld.2 ‹Below _ _ _›), MB.call hHeld.2 ‹Below _ _ _›⟩) (fun hNew => ?_)
      clear hK K hHeld
      have hHeld := hNew
      clear hNew
      (try simp only [List.getElem_toArray, List.getElem_cons_succ, List.getElem_cons_zero, Act.put, List.setIfInBounds_toArray, List.set_cons_zero, List.set_cons_succ])
      refine wpAnyH_take (i := 7) (v := ?_) rfl (by kernel_rfl) (by kernel_rfl) (by kernel_rfl) (fun _ _ _ h => h) (Or.inl ⟨by rfl, ?_⟩) hHeld ?_
      rotate_left
      focus ((intro w hSw; (try dsimp only at hSw); go_simp); (try with_reducible rfl))
      (try simp only [List.getElem_toArray, List.getElem_cons_succ, List.getElem_cons_zero, Act.put, List.setIfInBounds_toArray, List.set_cons_zero, List.set_cons_succ])
      refine wpAnyH_take (i := 8) (v := ?_) rfl (by kernel_rfl) (by kernel_rfl) (by kernel_rfl) (fun _ _ _ h => h) (Or.inl ⟨by rfl, ?_⟩) hHeld ?_
      rotate_left
      focus ((intro w hSw; (try dsimp only at hSw); go_simp); (try with_reducible rfl))
      (try simp only [List.getElem_toArray, List.getElem_cons_succ, List.getElem_cons_zero, Act.put, List.setIfInBounds_toArray, List.set_cons_zero, List.set_cons_succ])
      refine wpAnyH_take (i := 9) (v := ?_) rfl (by kernel_rfl) (by kernel_rfl) (by kernel_rfl) (fun _ _ _ h => h) (Or.inl ⟨by rfl, ?_⟩) hHeld ?_
      rotate_left
      focus ((intro w hSw; (try dsimp only at hSw); go_simp); (try with_reducible rfl))
      (try simp only [List.getElem_toArray, List.getElem_cons_succ, List.getElem_cons_zero, Act.put, List.setIfInBounds_toArray, List.set_cons_zero, List.set_cons_succ])
      refine wpAnyH_take (i := 10) (v := ?_) rfl (by kernel_rfl) (by kernel_rfl) (by kernel_rfl) (fun _ _ _ h => h) (Or.inl ⟨by rfl, ?_⟩) hHeld ?_
      rotate_left
      focus ((intro w hSw; (try dsimp only at hSw); go_simp); (try with_reducible rfl))
      (try simp only [List.getElem_toArray, List.getElem_cons_succ, List.getElem_cons_zero, Act.put, List.setIfInBounds_toArray, List.set_cons_zero, List.set_cons_succ])
      refine wpAnyH_take (i := 11) (v := ?_) rfl (by kernel_rfl) (by kernel_rfl) (by kernel_rfl) (fun _ _ _ h => h) (Or.inl ⟨by rfl, ?_⟩) hHeld ?_
      rotate_left
      focus ((intro w hSw; (try dsimp only at hSw); go_simp); (try with_reducible rfl))
      (try simp only [List.getElem_toArray, List.getElem_cons_succ, List.getElem_cons_zero, Act.put, List.setIfInBounds_toArray, List.set_cons_zero, List.set_cons_succ])
      refine wpAnyH_take (i := 12) (v := ?_) rfl (by kernel_rfl) (by kernel_rfl) (by kernel_rfl) (fun _ _ _ h => h) (Or.inl ⟨by rfl, ?_⟩) hHeld ?_
      rotate_left
      focus ((intro w hSw; (try dsimp only at hSw); go_simp); (try with_reducible rfl))
      (try simp only [List.getElem_toArray, List.getElem_cons_succ, List.getElem_cons_zero, Act.put, List.setIfInBounds_toArray, List.set_cons_zero, List.set_cons_succ])
      refine wpAnyH_take (i := 13) (v := ?_) rfl (by kernel_rfl) (by kernel_rfl) (by kernel_rfl) (fun _ _ _ h => h) (Or.inl ⟨by rfl, ?_⟩) hHeld ?_
      rotate_left
      focus ((intro w hSw; (try dsimp only at hSw); go_simp); (try with_reducible rfl))
      (try simp only [List.getElem_toArray, List.getElem_cons_succ, List.getElem_cons_zero, Act.put, List.setIfInBounds_toArray, List.set_cons_zero, List.set_cons_succ])
      refine wpAnyH_take (i := 15) (v := ?_) rfl (by kernel_rfl) (by kernel_rfl) (by kernel_rfl) (fun _ _ _ h => h) (Or.inl ⟨by rfl, ?_⟩) hHeld ?_
      rotate_left
      focus ((intro w hSw; (try dsimp only at hSw); go_simp); (try with_reducible rfl))
      (try simp only [List.getElem_toArray, List.getElem_cons_succ, List.getElem_cons_zero, Act.put, List.setIfInBounds_toArray, List.set_cons_zero, List.set_cons_succ])
      refine wpAnyH_take (i := 16) (v := ?_) rfl (by kernel_rfl) (by kernel_rfl) (by kernel_rfl) (fun _ _ _ h => h) (Or.inl ⟨by rfl, ?_⟩) hHeld ?_
      rotate_left
      focus ((intro w hSw; (try dsimp only at hSw); go_simp); (try with_reducible rfl))
      (try simp only [List.getElem_toArray, List.getElem_cons_succ, List.getElem_cons_zero, Act.put, List.setIfInBounds_toArray, List.set_cons_zero, List.set_cons_succ])
      refine wpAnyH_ready (rs := [14]) (by kernel_rfl) (by simp) ?_
      refine AllReadyH.cons rfl (fun K hK => ?_) AllReadyH.nil
      go_simp
      (refine (i_EndOf n1 _ _ js _ f t jl _ (MB.i5 hHeld.2) (MB.i4 hHeld.2) (MB.i0 hHeld.2)).mono ?_; rintro e w8 ⟨rfl, b8⟩; rw [hje])
      (try (go_wp2_with fail))
      refine hK.out _ _ (⟨MB.cellsA (MB.call hHeld.2 ‹Below _ _ _›), MB.call hHeld.2 ‹Below _ _ _›⟩) (fun hNew => ?_)
      clear hK K hHeld
      have hHeld := hNew
      clear hNew
      (try simp only [List.getElem_toArray, List.getElem_cons_succ, List.getElem_cons_zero, Act.put, List.setIfInBounds_toArray, List.set_cons_zero, List.set_cons_succ])
      refine wpAnyH_ready (rs := [17]) (by kernel_rfl) (by simp) ?_
      refine AllReadyH.cons rfl (fun K hK => ?_) AllReadyH.nil
      go_simp
      (refine (s_EndOf n1 _ _ s2 _ f t lb _ (MB.i5 hHeld.2) (MB.i4 hHeld.2) (MB.i2 hHeld.2)).mono ?_; rintro e w9 ⟨rfl, b9⟩; (try rw [hE]))
      (try (go_wp2_with fail))
      refine hK.out _ _ (⟨MB.cellsA (MB.call hHeld.2 ‹Below _ _ _›), MB.call hHeld.2 ‹Below _ _ _›⟩) (fun hNew => ?_)
      clear hK K hHeld
      have hHeld := hNew
      clear hNew
      (try simp only [List.getElem_toArray, List.getElem_cons_succ, List.getElem_cons_zero, Act.put, List.setIfInBounds_toArray, List.set_cons_zero, List.set_cons_succ])
      refine wpAnyH_take (i := 18) (v := ?_) rfl (by kernel_rfl) (by kernel_rfl) (by kernel_rfl) (fun _ _ _ h => h) (Or.inl ⟨by rfl, ?_⟩) hHeld ?_
      rotate_left
      focus ((intro w hSw; (try dsimp only at hSw); go_simp); (try with_reducible rfl))
      (try simp only [List.getElem_toArray, List.getElem_cons_succ, List.getElem_cons_zero, Act.put, List.setIfInBounds_toArray, List.set_cons_zero, List.set_cons_succ])
      refine wpAnyH_take (i := 19) (v := ?_) rfl (by kernel_rfl) (by kernel_rfl) (by kernel_rfl) (fun _ _ _ h => h) (Or.inl ⟨by rfl, ?_⟩) hHeld ?_
      rotate_left
      focus ((intro w hSw; (try dsimp only at hSw); go_simp); (try with_reducible rfl))
      (try simp only [List.getElem_toArray, List.getElem_cons_succ, List.getElem_cons_zero, Act.put, List.setIfInBounds_toArray, List.set_cons_zero, List.set_cons_succ])
      refine wpAnyH_take (i := 20) (v := ?_) rfl (by kernel_rfl) (by kernel_rfl) (by kernel_rfl) (fun _ _ _ h => h) (Or.inl ⟨by rfl, ?_⟩) hHeld ?_
      rotate_left
      focus ((intro w hSw; (try dsimp only at hSw); go_simp); (try with_reducible rfl))
      (try simp only [List.getElem_toArray, List.getElem_cons_succ, List.getElem_cons_zero, Act.put, List.setIfInBounds_toArray, List.set_cons_zero, List.set_cons_succ])
      refine wpAnyH_done (by kernel_rfl) ?_ _
      refine NoPanic.normal ?_
    all_goals
      have HB8 := Lib.hid hHeld.2.bel
      clear hHeld
      go_wp2_with fail
      go_meet
      exact ⟨rfl, HB8⟩
  case rest =>
    obtain ⟨rfl, HB8⟩ := hcut
    clear HJ M6 hs1 hs2 hs3 hs4 hs5
    clear hself
    go_wp2_with fail
    refine (s_DrawAllPaths v n _ ((HE.out.below HB8.out).mono HB8.out.size) hn).mono ?_; rintro e w10 ⟨nn, uf, ut, ff, tt, rfl, hf, ht, b10⟩
    have M10 := Lib.hid ((((MB.start w).call (HB8.out.trans (b10.mono HB8.out.size))).addI hf).addI ht)
    obtain ⟨d1, k1, rfl, _, _⟩ := hf.shape
    obtain ⟨d2, k2, rfl, _, _⟩ := ht.shape
    have M11 := Lib.hid (M10.out.alloc #[.int .i64 nn, .slice d1 ff.length k1, .slice d2 tt.length k2] 26)
    have hs10 : w.heap.size ≤ w10.heap.size := M10.out.bel.size
    clear hf ht b10 M10
    go_upto_region 9 with fail
    generalize w10.alloc (.cells #[.int .i64 nn, .slice d1 ff.length k1, .slice d2 tt.length k2] 26) = w11 at M11 ⊢
    obtain ⟨bq2, hbq2⟩ : ∃ b, b = w10.heap.size := ⟨_, rfl⟩
    rw [← hbq2] at M11 hs10 ⊢
    clear hbq2 HB8
    obtain ⟨q0, q1, q2⟩ := blk3 M11.out.b0
    go_wp2_with fail
    refine (i_AllPaths nn _ _ ff tt _ M11.out.i1 M11.out.i0).mono ?_; rintro e w12 ⟨vl, rfl, hl, b12⟩
    have M12 := Lib.hid (M11.out.call b12)
    have HL := Lib.hid hl
    clear hl b12 q0 q1 q2 M11
    obtain ⟨q0, q1, q2⟩ := blk3 M12.out.b0
    go_wp2_with fail
    refine (s_AllPaths nn _ _ ff tt _ M12.out.i1 M12.out.i0).mono ?_; rintro e w13 ⟨vm, rfl, hm, b13⟩
    have M13 := Lib.hid (M12.out.call b13)
    have HL13 := Lib.hid (HL.out.below b13)
    have HM13 := Lib.hid hm
    clear hm b13 q0 q1 q2 HL M12
    have HA1 := Lib.hid (fun i hi => all_path (n := nn) (f := ff) (t := tt) (i := i) hi)
    have HA2 := Lib.hid (fun i hi => all_lon (n := nn) (f := ff) (t := tt) (i := i) hi)
    have HA3 := Lib.hid (allR2_small (n := nn) (f := ff) (t := tt))
    have HA4 := Lib.hid (show ordOK nn ff tt = true → ∃ N : Nat, nn = N ∧ N ≤ 5 ∧ allR2 nn ff tt = allP ff tt N from fun h => by
      obtain ⟨_, h1, h2, h3⟩ := isQ_l62 h
      exact ⟨nn.toNat, h3.symm, h2, by unfold allR2; rw [if_pos h]⟩)
    have HA5 := Lib.hid (show ordOK nn ff tt = false → allR2 nn ff tt = [] from fun h => allR2_no h)
    obtain ⟨L, hL⟩ : ∃ L, L = allR2 nn ff tt := ⟨_, rfl⟩
    rw [← hL] at HL13 HM13 HA1 HA2 HA3 HA4 HA5
    clear hL
    obtain ⟨lon, hlon⟩ : ∃ x, x = lonR nn ff tt := ⟨_, rfl⟩
    rw [← hlon] at HA2
    have HLON := Lib.hid hlon
    have hlonE := Lib.hid hlon
    clear hlon
    obtain ⟨ok2, hok2⟩ : ∃ x, x = ordOK nn ff tt := ⟨_, rfl⟩
    rw [← hok2] at HA4 HA5
    rw [← hok2]
    have HOK := Lib.hid hok2
    clear hok2
    obtain ⟨al, cl, rfl, _, _⟩ := HL13.out.shape
    obtain ⟨am, cm, rfl, _, _⟩ := HM13.out.shape
    have R0 : Hid (MB w13 _ _ w13) := Lib.hid ⟨Below.refl _ _, M13.out.ins, M13.out.bls⟩
    go_upto_region 11 with fail
    refine wp_region_noPanic ?_
    refine wp_region_held_drew (S := (fun w' => (w'.cell? ⟨bq2, 0, none⟩ = some (.int .i64 nn) ∧ w'.cell? ⟨bq2, 1, none⟩ = some (.slice d1 ff.length k1) ∧ w'.cell? ⟨bq2, 2, none⟩ = some (.slice d2 tt.length k2)) ∧ MB w13 [(.slice d2 tt.length k2, tt), (.slice d1 ff.length k1, ff)] [(bq2, #[.int .i64 nn, .slice d1 ff.length k1, .slice d2 tt.length k2], 26)] w')) (by kernel_rfl) (⟨blk3 (MB.b0 R0.out.drew), R0.out.drew⟩) (fun hHeld => ?_)
    refine wpAnyH_take (i := 0) (v := ?_) rfl (by kernel_rfl) (by kernel_rfl) (by kernel_rfl) (fun _ _ _ h => h) (Or.inl ⟨by rfl, ?_⟩) hHeld ?_
    rotate_left
    focus ((intro w hSw; (try dsimp only at hSw); go_simp); (try with_reducible rfl))
    (try simp only [List.getElem_toArray, List.getElem_cons_succ, List.getElem_cons_zero, Act.put, List.setIfInBounds_toArray, List.set_cons_zero, List.set_cons_succ])
    refine wpAnyH_take (i := 1) (v := ?_) rfl (by kernel_rfl) (by kernel_rfl) (by kernel_rfl) (fun _ _ _ h => h) (Or.inl ⟨by rfl, ?_⟩) hHeld ?_
    rotate_left
    focus ((intro w hSw; (try dsimp only at hSw); go_simp); (try with_reducible rfl))
    (try simp only [List.getElem_toArray, List.getElem_cons_succ, List.getElem_cons_zero, Act.put, List.setIfInBounds_toArray, List.set_cons_zero, List.set_cons_succ])
    refine wpAnyH_take (i := 2) (v := ?_) rfl (by kernel_rfl) (by kernel_rfl) (by kernel_rfl) (fun _ _ _ h => h) (Or.inl ⟨by rfl, ?_⟩) hHeld ?_
    rotate_left
    focus ((intro w hSw; (try dsimp only at hSw); go_simp); (try with_reducible rfl))
    (try simp only [List.getElem_toArray, List.getElem_cons_succ, List.getElem_cons_zero, Act.put, List.setIfInBounds_toArray, List.set_cons_zero, List.set_cons_succ])
    refine wpAnyH_take (i := 3) (v := ?_) rfl (by kernel_rfl) (by kernel_rfl) (by kernel_rfl) (fun _ _ _ h => h) (Or.inl ⟨by rfl, ?_⟩) hHeld ?_
    rotate_left
    focus ((intro w hSw; (try dsimp only at hSw); go_simp); (try with_reducible rfl))
    (try simp only [List.getElem_toArray, List.getElem_cons_succ, List.getElem_cons_zero, Act.put, List.setIfInBounds_toArray, List.set_cons_zero, List.set_cons_succ])
    refine wpAnyH_take (i := 4) (v := ?_) rfl (by kernel_rfl) (by kernel_rfl) (by kernel_rfl) (fun _ _ _ h => h) (Or.inl ⟨by rfl, ?_⟩) hHeld ?_
    rotate_left
    focus ((intro w hSw; (try dsimp only at hSw); go_simp); (try with_reducible rfl))
    (try simp only [List.getElem_toArray, List.getElem_cons_succ, List.getElem_cons_zero, Act.put, List.setIfInBounds_toArray, List.set_cons_zero, List.set_cons_succ])
    refine wpAnyH_take (i := 5) (v := ?_) rfl (by kernel_rfl) (by kernel_rfl) (by kernel_rfl) (fun _ _ _ h => h) (Or.inl ⟨by rfl, ?_⟩) hHeld ?_
    rotate_left
    focus ((intro w hSw; (try dsimp only at hSw); go_simp); (try with_reducible rfl))
    (try simp only [List.getElem_toArray, List.getElem_cons_succ, List.getElem_cons_zero, Act.put, List.setIfInBounds_toArray, List.set_cons_zero, List.set_cons_succ])
    refine wpAnyH_take (i := 6) (v := ?_) rfl (by kernel_rfl) (by kernel_rfl) (by kernel_rfl) (fun _ _ _ h => h) (Or.inl ⟨by rfl, ?_⟩) hHeld ?_
    rotate_left
    focus ((intro w hSw; (try dsimp only at hSw); go_simp); (try with_reducible rfl))
    (try simp only [List.getElem_toArray, List.getElem_cons_succ, List.getElem_cons_zero, Act.put, List.setIfInBounds_toArray, List.set_cons_zero, List.set_cons_succ])
    refine wpAnyH_take (i := 7) (v := ?_) rfl (by kernel_rfl) (by kernel_rfl) (by kernel_rfl) (fun _ _ _ h => h) (Or.inl ⟨by rfl, ?_⟩) hHeld ?_
    rotate_left
    focus ((intro w hSw; (try dsimp only at hSw); go_simp); (try with_reducible rfl))
    (try simp only [List.getElem_toArray, List.getElem_cons_succ, List.getElem_cons_zero, Act.put, List.setIfInBounds_toArray, List.set_cons_zero, List.set_cons_succ])
    refine wpAnyH_take (i := 8) (v := ?_) rfl (by kernel_rfl) (by kernel_rfl) (by kernel_rfl) (fun _ _ _ h => h) (Or.inl ⟨by rfl, ?_⟩) hHeld ?_
    rotate_left
    focus ((intro w hSw; (try dsimp only at hSw); go_simp); (try with_reducible rfl))
    (try simp only [List.getElem_toArray, List.getElem_cons_succ, List.getElem_cons_zero, Act.put, List.setIfInBounds_toArray, List.set_cons_zero, List.set_cons_succ])
    refine wpAnyH_take (i := 9) (v := ?_) rfl (by kernel_rfl) (by kernel_rfl) (by kernel_rfl) (fun _ _ _ h => h) (Or.inl ⟨by rfl, ?_⟩) hHeld ?_
    rotate_left
    focus ((intro w hSw; (try dsimp only at hSw); go_simp); (try with_reducible rfl))
    (try simp only [List.getElem_toArray, List.getElem_cons_succ, List.getElem_cons_zero, Act.put, List.setIfInBounds_toArray, List.set_cons_zero, List.set_cons_succ])
    refine wpAnyH_take (i := 10) (v := ?_) rfl (by kernel_rfl) (by kernel_rfl) (by kernel_rfl) (fun _ _ _ h => h) (Or.inl ⟨by rfl, ?_⟩) hHeld ?_
    rotate_left
    focus ((intro w hSw; (try dsimp only at hSw); go_simp); (try with_reducible rfl))
    (try simp only [List.getElem_toArray, List.getElem_cons_succ, List.getElem_cons_zero, Act.put, List.setIfInBounds_toArray, List.set_cons_zero, List.set_cons_succ])
    refine wpAnyH_take (i := 11) (v := ?_) rfl (by kernel_rfl) (by kernel_rfl) (by kernel_rfl) (fun _ _ _ h => h) (Or.inl ⟨by rfl, ?_⟩) hHeld ?_
    rotate_left
    focus ((intro w hSw; (try dsimp only at hSw); go_simp); (try with_reducible rfl))
    (try simp only [List.getElem_toArray, List.getElem_cons_succ, List.getElem_cons_zero, Act.put, List.setIfInBounds_toArray, List.set_cons_zero, List.set_cons_succ])
    refine wpAnyH_take (i := 13) (v := ?_) rfl (by kernel_rfl) (by kernel_rfl) (by kernel_rfl) (fun _ _ _ h => h) (Or.inl ⟨by rfl, ?_⟩) hHeld ?_
    rotate_left
    focus ((intro w hSw; (try dsimp only at hSw); go_simp); (try with_reducible rfl))
    (try simp only [List.getElem_toArray, List.getElem_cons_succ, List.getElem_cons_zero, Act.put, List.setIfInBounds_toArray, List.set_cons_zero, List.set_cons_succ])
    refine wpAnyH_ready (rs := [12]) (by kernel_rfl) (by simp) ?_
    refine AllReadyH.cons rfl (fun K hK => ?_) AllReadyH.nil
    go_simp
    (refine (i_LongestPath nn _ _ ff tt _ (MB.i1 hHeld.2) (MB.i0 hHeld.2)).mono ?_; rintro e w14 ⟨rfl, b14⟩; rw [← HLON.out])
    (try (go_wp2_with fail))
    refine hK.out _ _ (⟨blk3 (MB.b0 (MB.call hHeld.2 ‹Below _ _ _›)), MB.call hHeld.2 ‹Below _ _ _›⟩) (fun hNew => ?_)
    clear hK K hHeld
    have hHeld := hNew
    clear hNew
    (try simp only [List.getElem_toArray, List.getElem_cons_succ, List.getElem_cons_zero, Act.put, List.setIfInBounds_toArray, List.set_cons_zero, List.set_cons_succ])
    refine wpAnyH_ready (rs := [14]) (by kernel_rfl) (by simp) ?_
    refine AllReadyH.cons rfl (fun K hK => ?_) AllReadyH.nil
    go_simp
    (refine (s_LongestPath nn _ _ ff tt _ (MB.i1 hHeld.2) (MB.i0 hHeld.2)).mono ?_; rintro e w15 ⟨rfl, b15⟩; rw [← HLON.out])
    (try (go_wp2_with fail))
    refine hK.out _ _ (⟨blk3 (MB.b0 (MB.call hHeld.2 ‹Below _ _ _›)), MB.call hHeld.2 ‹Below _ _ _›⟩) (fun hNew => ?_)
    clear hK K hHeld
    have hHeld := hNew
    clear hNew
    (try simp only [List.getElem_toArray, List.getElem_cons_succ, List.getElem_cons_zero, Act.put, List.setIfInBounds_toArray, List.set_cons_zero, List.set_cons_succ])
    refine wpAnyH_take (i := 15) (v := ?_) rfl (by kernel_rfl) (by kernel_rfl) (by kernel_rfl) (fun _ _ _ h => h) (Or.inl ⟨by rfl, ?_⟩) hHeld ?_
    rotate_left
    focus ((intro w hSw; (try dsimp only at hSw); go_simp); (try with_reducible rfl))
    (try simp only [List.getElem_toArray, List.getElem_cons_succ, List.getElem_cons_zero, Act.put, List.setIfInBounds_toArray, List.set_cons_zero, List.set_cons_succ])
    refine wpAnyH_take (i := 16) (v := ?_) rfl (by kernel_rfl) (by kernel_rfl) (by kernel_rfl) (fun _ _ _ h => h) (Or.inl ⟨by rfl, ?_⟩) hHeld ?_
    rotate_left
    focus ((intro w hSw; (try dsimp only at hSw); go_simp); (try with_reducible rfl))
    (try simp only [List.getElem_toArray, List.getElem_cons_succ, List.getElem_cons_zero, Act.put, List.setIfInBounds_toArray, List.set_cons_zero, List.set_cons_succ])
    refine wpAnyH_done (by kernel_rfl) ?_ _
    refine NoPanic.normal ?_
    have R1 := Lib.hid hHeld.2
    clear hHeld
    go_upto_block 0 with fail
    go_cut [15] (fun sn wx => sn = .int .i64 ((L.length : Nat) : Int) ∧ Hid (Below w15.heap.size w15 wx))
    case first =>
      cases ok2
      · have HL0 := Lib.hid (HA5.out rfl)
        have HB0 := Lib.hid (Below.refl w15.heap.size w15)
        go_wp2_with fail
        go_loopw [15, 16, 17] (fun s15 s16 s17 wr => s15 = .int .i64 0 ∧ s16 = .int .i64 0 ∧ Hid (Below w15.heap.size w15 wr)) (fun _ _ _ _ => 0)
        case atStart => exact ⟨rfl, rfl, HB0⟩
        case round =>
          obtain ⟨rfl, rfl, HB⟩ := hrel
          obtain ⟨q0, q1, q2⟩ := blk3 (R1.out.b0.below HB.out)
          go_wp2
          all_goals
            go_meet
            exact ⟨by rw [HL0.out]; rfl, HB⟩
      · obtain ⟨N, hNN, hN5, hLA⟩ := HA4.out rfl
        subst hNN
        have HLA := Lib.hid hLA
        clear hLA
        have HO := Lib.hid HOK.out.symm
        have HB0 := Lib.hid (Below.refl w15.heap.size w15)
        go_wp2_with fail
        go_loopw [15, 16, 17] (fun s15 s16 s17 wr => ∃ k : Nat, k ≤ N ∧ s16 = .int .i64 k ∧ s15 = .int .i64 ((allP ff tt k).length : Nat) ∧ Hid (Below w15.heap.size w15 wr)) (fun _ s16 _ _ => N - (intOf s16).toNat)
        case atStart => exact ⟨0, by omega, rfl, rfl, HB0⟩
        case round =>
          obtain ⟨k, hk, rfl, rfl, HB⟩ := hrel
          obtain ⟨q0, q1, q2⟩ := blk3 (R1.out.b0.below HB.out)
          by_cases hlt : k < N
          · have hkc : (k : Int) < (N : Int) := by omega
            have HC0 := Lib.hid (cntP_zero N ff tt k)
            have HCS := Lib.hid (fun j (hj : j < N) => cntP_step (k := j) HO.out hlt hj)
            have HCF := Lib.hid (cntP_full HO.out hlt)
            have HCB := Lib.hid (show ∀ j, cntP N ff tt k j ≤ 588245 from fun j => cntP_le HO.out hlt j)
            have e0 := HC0.out
            have b0 := HCB.out 0
            generalize hc0 : (allP ff tt k).length = c0 at e0 ⊢
            have HC1 := Lib.hid e0
            rw [e0] at b0
            clear e0 hc0
            go_wp2_with fail
            go_loopw [15, 17] (fun s15 s17 wr2 => ∃ j : Nat, j ≤ N ∧ s17 = .int .i64 j ∧ s15 = .int .i64 (cntP N ff tt k j : Nat) ∧ Hid (Below w15.heap.size w15 wr2)) (fun _ s17 _ => N - (intOf s17).toNat)
            case atStart => exact ⟨0, by omega, rfl, by rw [HC1.out], HB⟩
            case round =>
              obtain ⟨j, hj, rfl, rfl, HB2⟩ := hrel
              clear q0 q1 q2
              obtain ⟨q0, q1, q2⟩ := blk3 (R1.out.b0.below HB2.out)
              by_cases hjl : j < N
              · have hjc : (j : Int) < (N : Int) := by omega
                have e1 := HCS.out j hjl
                have b1 := HCB.out (j + 1)
                generalize hc1 : cntP N ff tt k j = cj at e1 ⊢
                generalize hc2 : cntP N ff tt k (j + 1) = cj2 at e1 b1
                have HC2 := Lib.hid hc2
                clear hc1 hc2
                generalize hcr : cntR N ff tt k j = cr at e1
                have HCR := Lib.hid hcr
                clear hcr
                go_wp2_with fail
                refine (i_CountPaths N _ _ ff tt k j _ (R1.out.i1.below HB2.out) (R1.out.i0.below HB2.out)).mono ?_; rintro e w17 ⟨rfl, b17⟩
                rw [HCR.out]
                have HB3 := Lib.hid (HB2.out.trans (b17.mono HB2.out.size))
                have hw17 : IntKind.i64.wrap ((cj : Int) + cr) = (cj2 : Int) := by rw [e1]; exact IntWalk.i64_in _ (by omega)
                have hw18 : (cj : Int) + cr = (cj2 : Int) := e1
                clear b17 q0 q1 q2 e1
                go_wp2
                go_roundw
                case rel => exact ⟨j + 1, by omega, by go_num, by rw [HC2.out], HB3⟩
                case measure => simp [intOf]; omega
              · have hjN : j = N := by omega
                subst hjN
                have HQ := Lib.hid HCF.out
                go_wp2
                go_roundw
                case rel => exact ⟨k + 1, by omega, by go_num, by rw [HQ.out], HB2⟩
                case measure => simp [intOf]; omega
          · have hkN : k = N := by omega
            subst hkN
            go_wp2
            go_meet
            exact ⟨by rw [HLA.out], HB⟩
    case rest =>
      obtain ⟨rfl, HB16⟩ := hcut
      have R2 := Lib.hid (R1.out.call HB16.out)
      clear HB16 R1 HA3 HA4 HA5 HOK HLON
      have HBW := Lib.hid (M13.out.bel.trans (R2.out.bel.mono M13.out.bel.size))
      have HL2 := Lib.hid (HL13.out.below R2.out.bel)
      have HM2 := Lib.hid (HM13.out.below R2.out.bel)
      go_upto_block 4 with fail
      go_cut [18] (fun sn wx => Hid (Below wc.heap.size wc wx))
      case first =>
        have HB0 := Lib.hid (Below.refl wc.heap.size wc)
        go_wp2_with fail
        go_loopw [18] (fun s18 wr => ∃ k : Nat, k ≤ L.length ∧ s18 = .int .i64 k ∧ Hid (Below wc.heap.size wc wr)) (fun s18 _ => L.length - (intOf s18).toNat)
        case atStart => exact ⟨0, by omega, rfl, HB0⟩
        case round =>
          obtain ⟨k, hk, rfl, HB⟩ := hrel
          by_cases hlt : k < L.length
          · have hk0 : (0 : Int) ≤ (k : Int) := by omega
            have hk1 : (k : Int) < (L.length : Int) := by omega
            obtain ⟨gl, ul, rfl, _, hgl, hcl0, hcl1, hul, _⟩ := (HL2.out.below HB.out).cell hlt
            obtain ⟨gm, um, rfl, _, hgm, hcm0, hcm1, hum, _⟩ := (HM2.out.below HB.out).cell hlt
            have HP1 := Lib.hid (HA1.out k hlt)
            have HP2 := Lib.hid (HA2.out k hlt)
            generalize (L.getD k (0, [])).1 = st at hcl0 hcm0 HP1
            generalize (L.getD k (0, [])).2 = ar at hul hum HP1 HP2
            obtain ⟨xl, yl, rfl, _, _⟩ := hul.shape
            obtain ⟨xm, ym, rfl, _, _⟩ := hum.shape
            have R3 : Hid (MB wr _ _ wr) := Lib.hid (MB.addI (MB.addI ⟨Below.refl _ _, R2.out.ins.below HB.out, R2.out.bls.below HB.out⟩ hul) hum)
            have HC4 := Lib.hid (fun w' (b : Below wr.heap.size wr w') => And.intro ((b.cell (p := ⟨gl, k * 2, none⟩) hgl).trans hcl0) (And.intro ((b.cell (p := ⟨gl, k * 2 + 1, none⟩) hgl).trans hcl1) (And.intro ((b.cell (p := ⟨gm, k * 2, none⟩) hgm).trans hcm0) ((b.cell (p := ⟨gm, k * 2 + 1, none⟩) hgm).trans hcm1))))
            have hself := eqP_self st ar
            have hlon : decide (lon < (ar.length : Int)) = false := by have := HP2.out; simp; omega
            clear hul hum hcl0 hcl1 hcm0 hcm1
            go_upto_region 26 with fail
            refine wp_region_noPanic ?_
            refine wp_region_held_drew (S := (fun w' => ((w'.cell? ⟨bq2, 0, none⟩ = some (.int .i64 nn) ∧ w'.cell? ⟨bq2, 1, none⟩ = some (.slice d1 ff.length k1) ∧ w'.cell? ⟨bq2, 2, none⟩ = some (.slice d2 tt.length k2)) ∧ (w'.cell? ⟨gl, k * 2, none⟩ = some (.int .i64 st) ∧ w'.cell? ⟨gl, k * 2 + 1, none⟩ = some (.slice xl ar.length yl) ∧ w'.cell? ⟨gm, k * 2, none⟩ = some (.int .i64 st) ∧ w'.cell? ⟨gm, k * 2 + 1, none⟩ = some (.slice xm ar.length ym))) ∧ MB wr [(.slice xm ar.length ym, ar), (.slice xl ar.length yl, ar), (.slice d2 tt.length k2, tt), (.slice d1 ff.length k1, ff)] [(bq2, #[.int .i64 nn, .slice d1 ff.length k1, .slice d2 tt.length k2], 26)] w')) (by kernel_rfl) (⟨⟨blk3 (MB.b0 R3.out.drew), HC4.out _ (MB.bel R3.out.drew)⟩, R3.out.drew⟩) (fun hHeld => ?_)
            refine wpAnyH_take (i := 0) (v := ?_) rfl (by kernel_rfl) (by kernel_rfl) (by kernel_rfl) (fun _ _ _ h => h) (Or.inl ⟨by rfl, ?_⟩) hHeld ?_
            rotate_left
            focus ((intro w hSw; (try dsimp only at hSw); go_simp); (try with_reducible rfl))
            (try simp only [List.getElem_toArray, List.getElem_cons_succ, List.getElem_cons_zero, Act.put, List.setIfInBounds_toArray, List.set_cons_zero, List.set_cons_succ])
            refine wpAnyH_take (i := 1) (v := ?_) rfl (by kernel_rfl) (by kernel_rfl) (by kernel_rfl) (fun _ _ _ h => h) (Or.inl ⟨by rfl, ?_⟩) hHeld ?_
            rotate_left
            focus ((intro w hSw; (try dsimp only at hSw); go_simp); (try with_reducible rfl))
            (try simp only [List.getElem_toArray, List.getElem_cons_succ, List.getElem_cons_zero, Act.put, List.setIfInBounds_toArray, List.set_cons_zero, List.set_cons_succ])
            refine wpAnyH_take (i := 2) (v := ?_) rfl (by kernel_rfl) (by kernel_rfl) (by kernel_rfl) (fun _ _ _ h => h) (Or.inl ⟨by rfl, ?_⟩) hHeld ?_
            rotate_left
            focus ((intro w hSw; (try dsimp only at hSw); go_simp); (try with_reducible rfl))
            (try simp only [List.getElem_toArray, List.getElem_cons_succ, List.getElem_cons_zero, Act.put, List.setIfInBounds_toArray, List.set_cons_zero, List.set_cons_succ])
            refine wpAnyH_take (i := 3) (v := ?_) rfl (by kernel_rfl) (by kernel_rfl) (by kernel_rfl) (fun _ _ _ h => h) (Or.inl ⟨by rfl, ?_⟩) hHeld ?_
            rotate_left
            focus ((intro w hSw; (try dsimp only at hSw); go_simp); (try with_reducible rfl))
            (try simp only [List.getElem_toArray, List.getElem_cons_succ, List.getElem_cons_zero, Act.put, List.setIfInBounds_toArray, List.set_cons_zero, List.set_cons_succ])
            refine wpAnyH_take (i := 4) (v := ?_) rfl (by kernel_rfl) (by kernel_rfl) (by kernel_rfl) (fun _ _ _ h => h) (Or.inl ⟨by rfl, ?_⟩) hHeld ?_
            rotate_left
            focus ((intro w hSw; (try dsimp only at hSw); go_simp); (try with_reducible rfl))
            (try simp only [List.getElem_toArray, List.getElem_cons_succ, List.getElem_cons_zero, Act.put, List.setIfInBounds_toArray, List.set_cons_zero, List.set_cons_succ])
            refine wpAnyH_take (i := 5) (v := ?_) rfl (by kernel_rfl) (by kernel_rfl) (by kernel_rfl) (fun _ _ _ h => h) (Or.inl ⟨by rfl, ?_⟩) hHeld ?_
            rotate_left
            focus ((intro w hSw; (try dsimp only at hSw); go_simp); (try with_reducible rfl))
            (try simp only [List.getElem_toArray, List.getElem_cons_succ, List.getElem_cons_zero, Act.put, List.setIfInBounds_toArray, List.set_cons_zero, List.set_cons_succ])
            refine wpAnyH_take (i := 6) (v := ?_) rfl (by kernel_rfl) (by kernel_rfl) (by kernel_rfl) (fun _ _ _ h => h) (Or.inl ⟨by rfl, ?_⟩) hHeld ?_
            rotate_left
            focus ((intro w hSw; (try dsimp only at hSw); go_simp); (try with_reducible rfl))
            (try simp only [List.getElem_toArray, List.getElem_cons_succ, List.getElem_cons_zero, Act.put, List.setIfInBounds_toArray, List.set_cons_zero, List.set_cons_succ])
            refine wpAnyH_take (i := 7) (v := ?_) rfl (by kernel_rfl) (by kernel_rfl) (by kernel_rfl) (fun _ _ _ h => h) (Or.inl ⟨by rfl, ?_⟩) hHeld ?_
            rotate_left
            focus ((intro w hSw; (try dsimp only at hSw); go_simp); (try with_reducible rfl))
            (try simp only [List.getElem_toArray, List.getElem_cons_succ, List.getElem_cons_zero, Act.put, List.setIfInBounds_toArray, List.set_cons_zero, List.set_cons_succ])
            refine wpAnyH_ready (rs := [8]) (by kernel_rfl) (by simp) ?_
            refine AllReadyH.cons rfl (fun K hK => ?_) AllReadyH.nil
            go_simp
            (refine (s_EqualPaths st st _ _ ar ar _ (MB.i1 hHeld.2) (MB.i0 hHeld.2)).mono ?_; rintro e w18 ⟨rfl, b18⟩; rw [hself])
            (try (go_wp2_with fail))
            refine hK.out _ _ (⟨⟨blk3 (MB.b0 (MB.call hHeld.2 ‹Below _ _ _›)), HC4.out _ (MB.bel (MB.call hHeld.2 ‹Below _ _ _›))⟩, (MB.call hHeld.2 ‹Below _ _ _›)⟩) (fun hNew => ?_)
            clear hK K hHeld
            have hHeld := hNew
            clear hNew
            (try simp only [List.getElem_toArray, List.getElem_cons_succ, List.getElem_cons_zero, Act.put, List.setIfInBounds_toArray, List.set_cons_zero, List.set_cons_succ])
            refine wpAnyH_take (i := 9) (v := ?_) rfl (by kernel_rfl) (by kernel_rfl) (by kernel_rfl) (fun _ _ _ h => h) (Or.inl ⟨by rfl, ?_⟩) hHeld ?_
            rotate_left
            focus ((intro w hSw; (try dsimp only at hSw); go_simp); (try with_reducible rfl))
            (try simp only [List.getElem_toArray, List.getElem_cons_succ, List.getElem_cons_zero, Act.put, List.setIfInBounds_toArray, List.set_cons_zero, List.set_cons_succ])
            refine wpAnyH_take (i := 10) (v := ?_) rfl (by kernel_rfl) (by kernel_rfl) (by kernel_rfl) (fun _ _ _ h => h) (Or.inl ⟨by rfl, ?_⟩) hHeld ?_
            rotate_left
            focus ((intro w hSw; (try dsimp only at hSw); go_simp); (try with_reducible rfl))
            (try simp only [List.getElem_toArray, List.getElem_cons_succ, List.getElem_cons_zero, Act.put, List.setIfInBounds_toArray, List.set_cons_zero, List.set_cons_succ])
            refine wpAnyH_take (i := 11) (v := ?_) rfl (by kernel_rfl) (by kernel_rfl) (by kernel_rfl) (fun _ _ _ h => h) (Or.inl ⟨by rfl, ?_⟩) hHeld ?_
            rotate_left
            focus ((intro w hSw; (try dsimp only at hSw); go_simp); (try with_reducible rfl))
            (try simp only [List.getElem_toArray, List.getElem_cons_succ, List.getElem_cons_zero, Act.put, List.setIfInBounds_toArray, List.set_cons_zero, List.set_cons_succ])
            refine wpAnyH_take (i := 12) (v := ?_) rfl (by kernel_rfl) (by kernel_rfl) (by kernel_rfl) (fun _ _ _ h => h) (Or.inl ⟨by rfl, ?_⟩) hHeld ?_
            rotate_left
            focus ((intro w hSw; (try dsimp only at hSw); go_simp); (try with_reducible rfl))
            (try simp only [List.getElem_toArray, List.getElem_cons_succ, List.getElem_cons_zero, Act.put, List.setIfInBounds_toArray, List.set_cons_zero, List.set_cons_succ])
            refine wpAnyH_take (i := 13) (v := ?_) rfl (by kernel_rfl) (by kernel_rfl) (by kernel_rfl) (fun _ _ _ h => h) (Or.inl ⟨by rfl, ?_⟩) hHeld ?_
            rotate_left
            focus ((intro w hSw; (try dsimp only at hSw); go_simp); (try with_reducible rfl))
            (try simp only [List.getElem_toArray, List.getElem_cons_succ, List.getElem_cons_zero, Act.put, List.setIfInBounds_toArray, List.set_cons_zero, List.set_cons_succ])
            refine wpAnyH_take (i := 14) (v := ?_) rfl (by kernel_rfl) (by kernel_rfl) (by kernel_rfl) (fun _ _ _ h => h) (Or.inl ⟨by rfl, ?_⟩) hHeld ?_
            rotate_left
            focus ((intro w hSw; (try dsimp only at hSw); go_simp); (try with_reducible rfl))
            (try simp only [List.getElem_toArray, List.getElem_cons_succ, List.getElem_cons_zero, Act.put, List.setIfInBounds_toArray, List.set_cons_zero, List.set_cons_succ])
            refine wpAnyH_take (i := 15) (v := ?_) rfl (by kernel_rfl) (by kernel_rfl) (by kernel_rfl) (fun _ _ _ h => h) (Or.inl ⟨by rfl, ?_⟩) hHeld ?_
            rotate_left
            focus ((intro w hSw; (try dsimp only at hSw); go_simp); (try with_reducible rfl))
            (try simp only [List.getElem_toArray, List.getElem_cons_succ, List.getElem_cons_zero, Act.put, List.setIfInBounds_toArray, List.set_cons_zero, List.set_cons_succ])
            refine wpAnyH_ready (rs := [16]) (by kernel_rfl) (by simp) ?_
            refine AllReadyH.cons rfl (fun K hK => ?_) AllReadyH.nil
            go_simp
            (refine (i_IsPath nn _ _ st _ ff tt ar _ (MB.i3 hHeld.2) (MB.i2 hHeld.2) (MB.i0 hHeld.2)).mono ?_; rintro e w19 ⟨rfl, b19⟩; rw [HP1.out])
            (try (go_wp2_with fail))
            refine hK.out _ _ (⟨⟨blk3 (MB.b0 (MB.call hHeld.2 ‹Below _ _ _›)), HC4.out _ (MB.bel (MB.call hHeld.2 ‹Below _ _ _›))⟩, (MB.call hHeld.2 ‹Below _ _ _›)⟩) (fun hNew => ?_)
            clear hK K hHeld
            have hHeld := hNew
            clear hNew
            (try simp only [List.getElem_toArray, List.getElem_cons_succ, List.getElem_cons_zero, Act.put, List.setIfInBounds_toArray, List.set_cons_zero, List.set_cons_succ])
            refine wpAnyH_take (i := 17) (v := ?_) rfl (by kernel_rfl) (by kernel_rfl) (by kernel_rfl) (fun _ _ _ h => h) (Or.inl ⟨by rfl, ?_⟩) hHeld ?_
            rotate_left
            focus ((intro w hSw; (try dsimp only at hSw); go_simp); (try with_reducible rfl))
            (try simp only [List.getElem_toArray, List.getElem_cons_succ, List.getElem_cons_zero, Act.put, List.setIfInBounds_toArray, List.set_cons_zero, List.set_cons_succ])
            refine wpAnyH_take (i := 18) (v := ?_) rfl (by kernel_rfl) (by kernel_rfl) (by kernel_rfl) (fun _ _ _ h => h) (Or.inl ⟨by rfl, ?_⟩) hHeld ?_
            rotate_left
            focus ((intro w hSw; (try dsimp only at hSw); go_simp); (try with_reducible rfl))
            (try simp only [List.getElem_toArray, List.getElem_cons_succ, List.getElem_cons_zero, Act.put, List.setIfInBounds_toArray, List.set_cons_zero, List.set_cons_succ])
            refine wpAnyH_take (i := 19) (v := ?_) rfl (by kernel_rfl) (by kernel_rfl) (by kernel_rfl) (fun _ _ _ h => h) (Or.inl ⟨by rfl, ?_⟩) hHeld ?_
            rotate_left
            focus ((intro w hSw; (try dsimp only at hSw); go_simp); (try with_reducible rfl))
            (try simp only [List.getElem_toArray, List.getElem_cons_succ, List.getElem_cons_zero, Act.put, List.setIfInBounds_toArray, List.set_cons_zero, List.set_cons_succ])
            refine wpAnyH_take (i := 20) (v := ?_) rfl (by kernel_rfl) (by kernel_rfl) (by kernel_rfl) (fun _ _ _ h => h) (Or.inl ⟨by rfl, ?_⟩) hHeld ?_
            rotate_left
            focus ((intro w hSw; (try dsimp only at hSw); go_simp); (try with_reducible rfl))
            (try simp only [List.getElem_toArray, List.getElem_cons_succ, List.getElem_cons_zero, Act.put, List.setIfInBounds_toArray, List.set_cons_zero, List.set_cons_succ])
            refine wpAnyH_take (i := 21) (v := ?_) rfl (by kernel_rfl) (by kernel_rfl) (by kernel_rfl) (fun _ _ _ h => h) (Or.inl ⟨by rfl, ?_⟩) hHeld ?_
            rotate_left
            focus ((intro w hSw; (try dsimp only at hSw); go_simp); (try with_reducible rfl))
            (try simp only [List.getElem_toArray, List.getElem_cons_succ, List.getElem_cons_zero, Act.put, List.setIfInBounds_toArray, List.set_cons_zero, List.set_cons_succ])
            refine wpAnyH_take (i := 22) (v := ?_) rfl (by kernel_rfl) (by kernel_rfl) (by kernel_rfl) (fun _ _ _ h => h) (Or.inl ⟨by rfl, ?_⟩) hHeld ?_
            rotate_left
            focus ((intro w hSw; (try dsimp only at hSw); go_simp); (try with_reducible rfl))
            (try simp only [List.getElem_toArray, List.getElem_cons_succ, List.getElem_cons_zero, Act.put, List.setIfInBounds_toArray, List.set_cons_zero, List.set_cons_succ])
            refine wpAnyH_take (i := 23) (v := ?_) rfl (by kernel_rfl) (by kernel_rfl) (by kernel_rfl) (fun _ _ _ h => h) (Or.inl ⟨by rfl, ?_⟩) hHeld ?_
            rotate_left
            focus ((intro w hSw; (try dsimp only at hSw); go_simp); (try with_reducible rfl))
            (try simp only [List.getElem_toArray, List.getElem_cons_succ, List.getElem_cons_zero, Act.put, List.setIfInBounds_toArray, List.set_cons_zero, List.set_cons_succ])
            refine wpAnyH_take (i := 24) (v := ?_) rfl (by kernel_rfl) (by kernel_rfl) (by kernel_rfl) (fun _ _ _ h => h) (Or.inl ⟨by rfl, ?_⟩) hHeld ?_
            rotate_left
            focus ((intro w hSw; (try dsimp only at hSw); go_simp); (try with_reducible rfl))
            (try simp only [List.getElem_toArray, List.getElem_cons_succ, List.getElem_cons_zero, Act.put, List.setIfInBounds_toArray, List.set_cons_zero, List.set_cons_succ])
            refine wpAnyH_take (i := 25) (v := ?_) rfl (by kernel_rfl) (by kernel_rfl) (by kernel_rfl) (fun _ _ _ h => h) (Or.inl ⟨by rfl, ?_⟩) hHeld ?_
            rotate_left
            focus ((intro w hSw; (try dsimp only at hSw); go_simp); (try with_reducible rfl))
            (try simp only [List.getElem_toArray, List.getElem_cons_succ, List.getElem_cons_zero, Act.put, List.setIfInBounds_toArray, List.set_cons_zero, List.set_cons_succ])
            refine wpAnyH_take (i := 26) (v := ?_) rfl (by kernel_rfl) (by kernel_rfl) (by kernel_rfl) (fun _ _ _ h => h) (Or.inl ⟨by rfl, ?_⟩) hHeld ?_
            rotate_left
            focus ((intro w hSw; (try dsimp only at hSw); go_simp); (try with_reducible rfl))
            (try simp only [List.getElem_toArray, List.getElem_cons_succ, List.getElem_cons_zero, Act.put, List.setIfInBounds_toArray, List.set_cons_zero, List.set_cons_succ])
            refine wpAnyH_ready (rs := [27]) (by kernel_rfl) (by simp) ?_
            refine AllReadyH.cons rfl (fun K hK => ?_) AllReadyH.nil
            go_simp
            (refine (i_LongestPath nn _ _ ff tt _ (MB.i3 hHeld.2) (MB.i2 hHeld.2)).mono ?_; rintro e w20 ⟨rfl, b20⟩; rw [← hlonE.out])
            (try (go_wp2_with fail))
            refine hK.out _ _ (⟨⟨blk3 (MB.b0 (MB.call hHeld.2 ‹Below _ _ _›)), HC4.out _ (MB.bel (MB.call hHeld.2 ‹Below _ _ _›))⟩, (MB.call hHeld.2 ‹Below _ _ _›)⟩) (fun hNew => ?_)
            clear hK K hHeld
            have hHeld := hNew
            clear hNew
            (try simp only [List.getElem_toArray, List.getElem_cons_succ, List.getElem_cons_zero, Act.put, List.setIfInBounds_toArray, List.set_cons_zero, List.set_cons_succ])
            refine wpAnyH_take (i := 28) (v := ?_) rfl (by kernel_rfl) (by kernel_rfl) (by kernel_rfl) (fun _ _ _ h => h) (Or.inl ⟨by rfl, ?_⟩) hHeld ?_
            rotate_left
            focus ((intro w hSw; (try dsimp only at hSw); go_simp); (try with_reducible rfl))
            (try simp only [List.getElem_toArray, List.getElem_cons_succ, List.getElem_cons_zero, Act.put, List.setIfInBounds_toArray, List.set_cons_zero, List.set_cons_succ])
            refine wpAnyH_take (i := 29) (v := ?_) rfl (by kernel_rfl) (by kernel_rfl) (by kernel_rfl) (fun _ _ _ h => h) (Or.inl ⟨by rfl, ?_⟩) hHeld ?_
            rotate_left
            focus ((intro w hSw; (try dsimp only at hSw); go_simp); (try with_reducible rfl))
            (try simp only [List.getElem_toArray, List.getElem_cons_succ, List.getElem_cons_zero, Act.put, List.setIfInBounds_toArray, List.set_cons_zero, List.set_cons_succ])
            refine wpAnyH_done (by kernel_rfl) ?_ _
            refine NoPanic.normal ?_
            have HB4 := Lib.hid (HB.out.trans (hHeld.2.bel.mono HB.out.size))
            clear hHeld
            go_wp2
            go_roundw
            case rel => exact ⟨k + 1, by omega, by go_num, HB4⟩
            case measure => simp [intOf]; omega
          · have hkN : k = L.length := by omega
            subst hkN
            go_wp2
            go_meet
            exact HB
      case rest =>
        have HB21 := Lib.hid (HBW.out.trans (hcut.out.mono HBW.out.size))
        clear HL2 HM2 HL13 HM13 HA1 HA2 R2 M13 hcut HBW
        go_wp2_with fail
        refine (s_DrawIsPath v n _ ((HE.out.below HB21.out).mono HB21.out.size) hn).mono ?_; rintro e w30 ⟨n3, vf3, vt3, f3, t3, s3, va3, la3, rfl, hf, ht, ha, _, b30⟩
        have M30 := Lib.hid (((((MB.start w).call (HB21.out.trans (b30.mono HB21.out.size))).addI hf).addI ht).addI ha)
        obtain ⟨g1, h1, rfl, _, _⟩ := hf.shape
        obtain ⟨g2, h2, rfl, _, _⟩ := ht.shape
        obtain ⟨g3, h3, rfl, _, _⟩ := ha.shape
        have M31 := Lib.hid ((M30.out.alloc #[.int .i64 n3, .slice g1 f3.length h1, .slice g2 t3.length h2] 26).alloc #[.int .i64 s3, .slice g3 la3.length h3] 28)
        have e31 : (w30.alloc (.cells #[.int .i64 n3, .slice g1 f3.length h1, .slice g2 t3.length h2] 26)).heap.size = w30.heap.size + 1 := by simp
        rw [e31] at M31
        have hs30 : w.heap.size ≤ w30.heap.size := M30.out.bel.size
        clear hf ht ha b30 e31
        go_upto_region 29 with fail
        generalize ((w30.alloc (.cells #[.int .i64 n3, .slice g1 f3.length h1, .slice g2 t3.length h2] 26)).alloc (.cells #[.int .i64 s3, .slice g3 la3.length h3] 28)) = w31 at M31 ⊢
        obtain ⟨b3, hb3⟩ : ∃ b, b = w30.heap.size := ⟨_, rfl⟩
        rw [← hb3] at M31 hs30 ⊢
        clear hb3 M30 HB21
        have hs31 : b3 + 1 < w31.heap.size := M31.out.b0.lt
        go_wp2_with fail
        refine (s_DrawPathsBetween v n _ ((HE.out.below M31.out.bel).mono M31.out.bel.size) hn).mono ?_; rintro e w32 ⟨n4, vf4, vt4, f4, t4, x4, y4, rfl, hf, ht, b32⟩
        have M32 := Lib.hid (((M31.out.call b32).addI hf).addI ht)
        obtain ⟨g4, h4, rfl, _, _⟩ := hf.shape
        obtain ⟨g5, h5, rfl, _, _⟩ := ht.shape
        have M33 := Lib.hid (M32.out.alloc #[.int .i64 n4, .slice g4 f4.length h4, .slice g5 t4.length h5] 26)
        have hs32 : b3 + 1 < w32.heap.size := M32.out.b0.lt
        clear hf ht b32 M31
        go_upto_region 30 with fail
        generalize (w32.alloc (.cells #[.int .i64 n4, .slice g4 f4.length h4, .slice g5 t4.length h5] 26)) = w33 at M33 ⊢
        obtain ⟨b4, hb4⟩ : ∃ b, b = w32.heap.size := ⟨_, rfl⟩
        rw [← hb4] at M33 hs32 ⊢
        clear hb4 M32
        have hs33 : b4 < w33.heap.size := M33.out.b0.lt
        obtain ⟨q0, q1, q2⟩ := blk3 M33.out.b0
        go_wp2_with fail
        refine (i_PathsBetween n4 _ _ f4 t4 x4 y4 _ M33.out.i1 M33.out.i0).mono ?_; rintro e w34 ⟨vp, rfl, hp, b34⟩
        have M34 := Lib.hid (M33.out.call b34)
        obtain ⟨ap, cp, rfl, _, _⟩ := hp.shape
        clear hp b34 q0 q1 q2 M33
        obtain ⟨q0, q1, q2⟩ := blk3 M34.out.b0
        go_wp2_with fail
        refine (s_PathsBetween n4 _ _ f4 t4 x4 y4 _ M34.out.i1 M34.out.i0).mono ?_; rintro e w35 ⟨vp, rfl, hp, b35⟩
        have M35 := Lib.hid (M34.out.call b35)
        obtain ⟨ap', cp', rfl, _, _⟩ := hp.shape
        clear hp b35 q0 q1 q2 M34
        generalize btwOK n4 f4 t4 x4 y4 = bok
        generalize (btwS n4 f4 t4 x4 y4).length = lenB
        go_wp2_with fail
        refine (s_DrawEqualPaths v n _ ((HE.out.below M35.out.bel).mono M35.out.bel.size) hn).mono ?_; rintro e w36 ⟨s5, va5, la5, s6, vb6, lb6, rfl, ha, hb, b36⟩
        have M36 := Lib.hid (((M35.out.call b36).addI ha).addI hb)
        obtain ⟨g6, h6, rfl, _, _⟩ := ha.shape
        obtain ⟨g7, h7, rfl, _, _⟩ := hb.shape
        have M37 := Lib.hid ((M36.out.alloc #[.int .i64 s5, .slice g6 la5.length h6] 28).alloc #[.int .i64 s6, .slice g7 lb6.length h7] 28)
        have e37 : (w36.alloc (.cells #[.int .i64 s5, .slice g6 la5.length h6] 28)).heap.size = w36.heap.size + 1 := by simp
        rw [e37] at M37
        have hs36 : b4 < w36.heap.size := M36.out.b0.lt
        clear ha hb b36 e37
        go_upto_region 33 with fail
        generalize ((w36.alloc (.cells #[.int .i64 s5, .slice g6 la5.length h6] 28)).alloc (.cells #[.int .i64 s6, .slice g7 lb6.length h7] 28)) = w37 at M37 ⊢
        obtain ⟨b6, hb6⟩ : ∃ b, b = w36.heap.size := ⟨_, rfl⟩
        rw [← hb6] at M37 hs36 ⊢
        clear hb6 M36
        have HPT := Lib.hid (fun w' (b : Below w.heap.size w w') => HP.out.below b)
        obtain ⟨ip, hip⟩ : ∃ x, isP n3 f3 t3 s3 la3 = x := ⟨_, rfl⟩
        obtain ⟨ep, hep⟩ : ∃ x, endP n3 f3 t3 s3 la3 = x := ⟨_, rfl⟩
        obtain ⟨fo, hfo⟩ : ∃ x, foP n3 f3 t3 s3 la3 = x := ⟨_, rfl⟩
        obtain ⟨eb, heb⟩ : ∃ x, eqP s5 la5 s6 lb6 = x := ⟨_, rfl⟩
        have HIP := Lib.hid hip; have HEP := Lib.hid hep; have HFO := Lib.hid hfo; have HEB := Lib.hid heb
        clear hip hep hfo heb HP
        refine wp_region_noPanic ?_
        refine wp_region_held_drew (S := (fun w' => ((w'.cell? ⟨b6 + 1, 0, none⟩ = some (.int .i64 s6) ∧ w'.cell? ⟨b6 + 1, 1, none⟩ = some (.slice g7 lb6.length h7)) ∧ (w'.cell? ⟨b6, 0, none⟩ = some (.int .i64 s5) ∧ w'.cell? ⟨b6, 1, none⟩ = some (.slice g6 la5.length h6)) ∧ (w'.cell? ⟨b3 + 1, 0, none⟩ = some (.int .i64 s3) ∧ w'.cell? ⟨b3 + 1, 1, none⟩ = some (.slice g3 la3.length h3)) ∧ (w'.cell? ⟨b3, 0, none⟩ = some (.int .i64 n3) ∧ w'.cell? ⟨b3, 1, none⟩ = some (.slice g1 f3.length h1) ∧ w'.cell? ⟨b3, 2, none⟩ = some (.slice g2 t3.length h2))) ∧ MB w [(.slice g7 lb6.length h7, lb6), (.slice g6 la5.length h6, la5), (.slice g5 t4.length h5, t4), (.slice g4 f4.length h4, f4), (.slice g3 la3.length h3, la3), (.slice g2 t3.length h2, t3), (.slice g1 f3.length h1, f3)] [(b6 + 1, #[.int .i64 s6, .slice g7 lb6.length h7], 28), (b6, #[.int .i64 s5, .slice g6 la5.length h6], 28), (b4, #[.int .i64 n4, .slice g4 f4.length h4, .slice g5 t4.length h5], 26), (b3 + 1, #[.int .i64 s3, .slice g3 la3.length h3], 28), (b3, #[.int .i64 n3, .slice g1 f3.length h1, .slice g2 t3.length h2], 26)] w')) (by kernel_rfl) (⟨⟨blk2 (MB.b0 M37.out.drew), blk2 (MB.b1 M37.out.drew), blk2 (MB.b3 M37.out.drew), blk3 (MB.b4 M37.out.drew)⟩, M37.out.drew⟩) (fun hHeld => ?_)
        refine wpAnyH_take (i := 0) (v := ?_) rfl (by kernel_rfl) (by kernel_rfl) (by kernel_rfl) (fun _ _ _ h => h) (Or.inl ⟨by rfl, ?_⟩) hHeld ?_
        rotate_left
        focus ((intro w hSw; (try dsimp only at hSw); go_simp); (try with_reducible rfl))
        (try simp only [List.getElem_toArray, List.getElem_cons_succ, List.getElem_cons_zero, Act.put, List.setIfInBounds_toArray, List.set_cons_zero, List.set_cons_succ])
        refine wpAnyH_take (i := 1) (v := ?_) rfl (by kernel_rfl) (by kernel_rfl) (by kernel_rfl) (fun _ _ _ h => h) (Or.inl ⟨by rfl, ?_⟩) hHeld ?_
        rotate_left
        focus ((intro w hSw; (try dsimp only at hSw); go_simp); (try with_reducible rfl))
        (try simp only [List.getElem_toArray, List.getElem_cons_succ, List.getElem_cons_zero, Act.put, List.setIfInBounds_toArray, List.set_cons_zero, List.set_cons_succ])
        refine wpAnyH_take (i := 2) (v := ?_) rfl (by kernel_rfl) (by kernel_rfl) (by kernel_rfl) (fun _ _ _ h => h) (Or.inl ⟨by rfl, ?_⟩) hHeld ?_
        rotate_left
        focus ((intro w hSw; (try dsimp only at hSw); go_simp); (try with_reducible rfl))
        (try simp only [List.getElem_toArray, List.getElem_cons_succ, List.getElem_cons_zero, Act.put, List.setIfInBounds_toArray, List.set_cons_zero, List.set_cons_succ])
        refine wpAnyH_take (i := 3) (v := ?_) rfl (by kernel_rfl) (by kernel_rfl) (by kernel_rfl) (fun _ _ _ h => h) (Or.inl ⟨by rfl, ?_⟩) hHeld ?_
        rotate_left
        focus ((intro w hSw; (try dsimp only at hSw); go_simp); (try with_reducible rfl))
        (try simp only [List.getElem_toArray, List.getElem_cons_succ, List.getElem_cons_zero, Act.put, List.setIfInBounds_toArray, List.set_cons_zero, List.set_cons_succ])
        refine wpAnyH_take (i := 4) (v := ?_) rfl (by kernel_rfl) (by kernel_rfl) (by kernel_rfl) (fun _ _ _ h => h) (Or.inl ⟨by rfl, ?_⟩) hHeld ?_
        rotate_left
        focus ((intro w hSw; (try dsimp only at hSw); go_simp); (try with_reducible rfl))
        (try simp only [List.getElem_toArray, List.getElem_cons_succ, List.getElem_cons_zero, Act.put, List.setIfInBounds_toArray, List.set_cons_zero, List.set_cons_succ])
        refine wpAnyH_take (i := 5) (v := ?_) rfl (by kernel_rfl) (by kernel_rfl) (by kernel_rfl) (fun _ _ _ h => h) (Or.inl ⟨by rfl, ?_⟩) hHeld ?_
        rotate_left
        focus ((intro w hSw; (try dsimp only at hSw); go_simp); (try with_reducible rfl))
        (try simp only [List.getElem_toArray, List.getElem_cons_succ, List.getElem_cons_zero, Act.put, List.setIfInBounds_toArray, List.set_cons_zero, List.set_cons_succ])
        refine wpAnyH_take (i := 6) (v := ?_) rfl (by kernel_rfl) (by kernel_rfl) (by kernel_rfl) (fun _ _ _ h => h) (Or.inl ⟨by rfl, ?_⟩) hHeld ?_
        rotate_left
        focus ((intro w hSw; (try dsimp only at hSw); go_simp); (try with_reducible rfl))
        (try simp only [List.getElem_toArray, List.getElem_cons_succ, List.getElem_cons_zero, Act.put, List.setIfInBounds_toArray, List.set_cons_zero, List.set_cons_succ])
        refine wpAnyH_take (i := 7) (v := ?_) rfl (by kernel_rfl) (by kernel_rfl) (by kernel_rfl) (fun _ _ _ h => h) (Or.inl ⟨by rfl, ?_⟩) hHeld ?_
        rotate_left
        focus ((intro w hSw; (try dsimp only at hSw); go_simp); (try with_reducible rfl))
        (try simp only [List.getElem_toArray, List.getElem_cons_succ, List.getElem_cons_zero, Act.put, List.setIfInBounds_toArray, List.set_cons_zero, List.set_cons_succ])
        refine wpAnyH_take (i := 8) (v := ?_) rfl (by kernel_rfl) (by kernel_rfl) (by kernel_rfl) (fun _ _ _ h => h) (Or.inl ⟨by rfl, ?_⟩) hHeld ?_
        rotate_left
        focus ((intro w hSw; (try dsimp only at hSw); go_simp); (try with_reducible rfl))
        (try simp only [List.getElem_toArray, List.getElem_cons_succ, List.getElem_cons_zero, Act.put, List.setIfInBounds_toArray, List.set_cons_zero, List.set_cons_succ])
        refine wpAnyH_take (i := 9) (v := ?_) rfl (by kernel_rfl) (by kernel_rfl) (by kernel_rfl) (fun _ _ _ h => h) (Or.inl ⟨by rfl, ?_⟩) hHeld ?_
        rotate_left
        focus ((intro w hSw; (try dsimp only at hSw); go_simp); (try with_reducible rfl))
        (try simp only [List.getElem_toArray, List.getElem_cons_succ, List.getElem_cons_zero, Act.put, List.setIfInBounds_toArray, List.set_cons_zero, List.set_cons_succ])
        refine wpAnyH_take (i := 10) (v := ?_) rfl (by kernel_rfl) (by kernel_rfl) (by kernel_rfl) (fun _ _ _ h => h) (Or.inl ⟨by rfl, ?_⟩) hHeld ?_
        rotate_left
        focus ((intro w hSw; (try dsimp only at hSw); go_simp); (try with_reducible rfl))
        (try simp only [List.getElem_toArray, List.getElem_cons_succ, List.getElem_cons_zero, Act.put, List.setIfInBounds_toArray, List.set_cons_zero, List.set_cons_succ])
        refine wpAnyH_take (i := 11) (v := ?_) rfl (by kernel_rfl) (by kernel_rfl) (by kernel_rfl) (fun _ _ _ h => h) (Or.inl ⟨by rfl, ?_⟩) hHeld ?_
        rotate_left
        focus ((intro w hSw; (try dsimp only at hSw); go_simp); (try with_reducible rfl))
        (try simp only [List.getElem_toArray, List.getElem_cons_succ, List.getElem_cons_zero, Act.put, List.setIfInBounds_toArray, List.set_cons_zero, List.set_cons_succ])
        refine wpAnyH_take (i := 12) (v := ?_) rfl (by kernel_rfl) (by kernel_rfl) (by kernel_rfl) (fun _ _ _ h => h) (Or.inl ⟨by rfl, ?_⟩) hHeld ?_
        rotate_left
        focus ((intro w hSw; (try dsimp only at hSw); go_simp); (try with_reducible rfl))
        (try simp only [List.getElem_toArray, List.getElem_cons_succ, List.getElem_cons_zero, Act.put, List.setIfInBounds_toArray, List.set_cons_zero, List.set_cons_succ])
        refine wpAnyH_take (i := 14) (v := ?_) rfl (by kernel_rfl) (by kernel_rfl) (by kernel_rfl) (fun _ _ _ h => h) (Or.inl ⟨by rfl, ?_⟩) hHeld ?_
        rotate_left
        focus ((intro w hSw; (try dsimp only at hSw); go_simp); (try with_reducible rfl))
        (try simp only [List.getElem_toArray, List.getElem_cons_succ, List.getElem_cons_zero, Act.put, List.setIfInBounds_toArray, List.set_cons_zero, List.set_cons_succ])
        refine wpAnyH_take (i := 15) (v := ?_) rfl (by kernel_rfl) (by kernel_rfl) (by kernel_rfl) (fun _ _ _ h => h) (Or.inl ⟨by rfl, ?_⟩) hHeld ?_
        rotate_left
        focus ((intro w hSw; (try dsimp only at hSw); go_simp); (try with_reducible rfl))
        (try simp only [List.getElem_toArray, List.getElem_cons_succ, List.getElem_cons_zero, Act.put, List.setIfInBounds_toArray, List.set_cons_zero, List.set_cons_succ])
        refine wpAnyH_ready (rs := [13]) (by kernel_rfl) (by simp) ?_
        refine AllReadyH.cons rfl (fun K hK => ?_) AllReadyH.nil
        go_simp
        (refine (i_IsPath n3 _ _ s3 _ f3 t3 la3 _ (MB.i6 hHeld.2) (MB.i5 hHeld.2) (MB.i4 hHeld.2)).mono ?_; rintro e w41 ⟨rfl, b41⟩; rw [HIP.out])
        (try (go_wp2_with fail))
        refine hK.out _ _ (⟨⟨blk2 (MB.b0 (MB.call hHeld.2 ‹Below _ _ _›)), blk2 (MB.b1 (MB.call hHeld.2 ‹Below _ _ _›)), blk2 (MB.b3 (MB.call hHeld.2 ‹Below _ _ _›)), blk3 (MB.b4 (MB.call hHeld.2 ‹Below _ _ _›))⟩, (MB.call hHeld.2 ‹Below _ _ _›)⟩) (fun hNew => ?_)
        clear hK K hHeld
        have hHeld := hNew
        clear hNew
        (try simp only [List.getElem_toArray, List.getElem_cons_succ, List.getElem_cons_zero, Act.put, List.setIfInBounds_toArray, List.set_cons_zero, List.set_cons_succ])
        refine wpAnyH_ready (rs := [16]) (by kernel_rfl) (by simp) ?_
        refine AllReadyH.cons rfl (fun K hK => ?_) AllReadyH.nil
        go_simp
        (refine (s_IsPath n3 _ _ s3 _ f3 t3 la3 _ (MB.i6 hHeld.2) (MB.i5 hHeld.2) (MB.i4 hHeld.2)).mono ?_; rintro e w42 ⟨rfl, b42⟩; rw [HIP.out])
        (try (go_wp2_with fail))
        refine hK.out _ _ (⟨⟨blk2 (MB.b0 (MB.call hHeld.2 ‹Below _ _ _›)), blk2 (MB.b1 (MB.call hHeld.2 ‹Below _ _ _›)), blk2 (MB.b3 (MB.call hHeld.2 ‹Below _ _ _›)), blk3 (MB.b4 (MB.call hHeld.2 ‹Below _ _ _›))⟩, (MB.call hHeld.2 ‹Below _ _ _›)⟩) (fun hNew => ?_)
        clear hK K hHeld
        have hHeld := hNew
        clear hNew
        (try simp only [List.getElem_toArray, List.getElem_cons_succ, List.getElem_cons_zero, Act.put, List.setIfInBounds_toArray, List.set_cons_zero, List.set_cons_succ])
        refine wpAnyH_take (i := 17) (v := ?_) rfl (by kernel_rfl) (by kernel_rfl) (by kernel_rfl) (fun _ _ _ h => h) (Or.inl ⟨by rfl, ?_⟩) hHeld ?_
        rotate_left
        focus ((intro w hSw; (try dsimp only at hSw); go_simp); (try with_reducible rfl))
        (try simp only [List.getElem_toArray, List.getElem_cons_succ, List.getElem_cons_zero, Act.put, List.setIfInBounds_toArray, List.set_cons_zero, List.set_cons_succ])
        refine wpAnyH_take (i := 18) (v := ?_) rfl (by kernel_rfl) (by kernel_rfl) (by kernel_rfl) (fun _ _ _ h => h) (Or.inl ⟨by rfl, ?_⟩) hHeld ?_
        rotate_left
        focus ((intro w hSw; (try dsimp only at hSw); go_simp); (try with_reducible rfl))
        (try simp only [List.getElem_toArray, List.getElem_cons_succ, List.getElem_cons_zero, Act.put, List.setIfInBounds_toArray, List.set_cons_zero, List.set_cons_succ])
        refine wpAnyH_take (i := 19) (v := ?_) rfl (by kernel_rfl) (by kernel_rfl) (by kernel_rfl) (fun _ _ _ h => h) (Or.inl ⟨by rfl, ?_⟩) hHeld ?_
        rotate_left
        focus ((intro w hSw; (try dsimp only at hSw); go_simp); (try with_reducible rfl))
        (try simp only [List.getElem_toArray, List.getElem_cons_succ, List.getElem_cons_zero, Act.put, List.setIfInBounds_toArray, List.set_cons_zero, List.set_cons_succ])
        refine wpAnyH_take (i := 20) (v := ?_) rfl (by kernel_rfl) (by kernel_rfl) (by kernel_rfl) (fun _ _ _ h => h) (Or.inl ⟨by rfl, ?_⟩) hHeld ?_
        rotate_left
        focus ((intro w hSw; (try dsimp only at hSw); go_simp); (try with_reducible rfl))
        (try simp only [List.getElem_toArray, List.getElem_cons_succ, List.getElem_cons_zero, Act.put, List.setIfInBounds_toArray, List.set_cons_zero, List.set_cons_succ])
        refine wpAnyH_take (i := 21) (v := ?_) rfl (by kernel_rfl) (by kernel_rfl) (by kernel_rfl) (fun _ _ _ h => h) (Or.inl ⟨by rfl, ?_⟩) hHeld ?_
        rotate_left
        focus ((intro w hSw; (try dsimp only at hSw); go_simp); (try with_reducible rfl))
        (try simp only [List.getElem_toArray, List.getElem_cons_succ, List.getElem_cons_zero, Act.put, List.setIfInBounds_toArray, List.set_cons_zero, List.set_cons_succ])
        refine wpAnyH_take (i := 23) (v := ?_) rfl (by kernel_rfl) (by kernel_rfl) (by kernel_rfl) (fun _ _ _ h => h) (Or.inl ⟨by rfl, ?_⟩) hHeld ?_
        rotate_left
        focus ((intro w hSw; (try dsimp only at hSw); go_simp); (try with_reducible rfl))
        (try simp only [List.getElem_toArray, List.getElem_cons_succ, List.getElem_cons_zero, Act.put, List.setIfInBounds_toArray, List.set_cons_zero, List.set_cons_succ])
        refine wpAnyH_take (i := 24) (v := ?_) rfl (by kernel_rfl) (by kernel_rfl) (by kernel_rfl) (fun _ _ _ h => h) (Or.inl ⟨by rfl, ?_⟩) hHeld ?_
        rotate_left
        focus ((intro w hSw; (try dsimp only at hSw); go_simp); (try with_reducible rfl))
        (try simp only [List.getElem_toArray, List.getElem_cons_succ, List.getElem_cons_zero, Act.put, List.setIfInBounds_toArray, List.set_cons_zero, List.set_cons_succ])
        refine wpAnyH_ready (rs := [22]) (by kernel_rfl) (by simp) ?_
        refine AllReadyH.cons rfl (fun K hK => ?_) AllReadyH.nil
        go_simp
        (refine (i_EndOf n3 _ _ s3 _ f3 t3 la3 _ (MB.i6 hHeld.2) (MB.i5 hHeld.2) (MB.i4 hHeld.2)).mono ?_; rintro e w43 ⟨rfl, b43⟩; rw [HEP.out])
        (try (go_wp2_with fail))
        refine hK.out _ _ (⟨⟨blk2 (MB.b0 (MB.call hHeld.2 ‹Below _ _ _›)), blk2 (MB.b1 (MB.call hHeld.2 ‹Below _ _ _›)), blk2 (MB.b3 (MB.call hHeld.2 ‹Below _ _ _›)), blk3 (MB.b4 (MB.call hHeld.2 ‹Below _ _ _›))⟩, (MB.call hHeld.2 ‹Below _ _ _›)⟩) (fun hNew => ?_)
        clear hK K hHeld
        have hHeld := hNew
        clear hNew
        (try simp only [List.getElem_toArray, List.getElem_cons_succ, List.getElem_cons_zero, Act.put, List.setIfInBounds_toArray, List.set_cons_zero, List.set_cons_succ])
        refine wpAnyH_ready (rs := [25]) (by kernel_rfl) (by simp) ?_
        refine AllReadyH.cons rfl (fun K hK => ?_) AllReadyH.nil
        go_simp
        (refine (s_EndOf n3 _ _ s3 _ f3 t3 la3 _ (MB.i6 hHeld.2) (MB.i5 hHeld.2) (MB.i4 hHeld.2)).mono ?_; rintro e w44 ⟨rfl, b44⟩; rw [HEP.out])
        (try (go_wp2_with fail))
        refine hK.out _ _ (⟨⟨blk2 (MB.b0 (MB.call hHeld.2 ‹Below _ _ _›)), blk2 (MB.b1 (MB.call hHeld.2 ‹Below _ _ _›)), blk2 (MB.b3 (MB.call hHeld.2 ‹Below _ _ _›)), blk3 (MB.b4 (MB.call hHeld.2 ‹Below _ _ _›))⟩, (MB.call hHeld.2 ‹Below _ _ _›)⟩) (fun hNew => ?_)
        clear hK K hHeld
        have hHeld := hNew
        clear hNew
        (try simp only [List.getElem_toArray, List.getElem_cons_succ, List.getElem_cons_zero, Act.put, List.setIfInBounds_toArray, List.set_cons_zero, List.set_cons_succ])
        refine wpAnyH_take (i := 26) (v := ?_) rfl (by kernel_rfl) (by kernel_rfl) (by kernel_rfl) (fun _ _ _ h => h) (Or.inl ⟨by rfl, ?_⟩) hHeld ?_
        rotate_left
        focus ((intro w hSw; (try dsimp only at hSw); go_simp); (try with_reducible rfl))
        (try simp only [List.getElem_toArray, List.getElem_cons_succ, List.getElem_cons_zero, Act.put, List.setIfInBounds_toArray, List.set_cons_zero, List.set_cons_succ])
        refine wpAnyH_take (i := 27) (v := ?_) rfl (by kernel_rfl) (by kernel_rfl) (by kernel_rfl) (fun _ _ _ h => h) (Or.inl ⟨by rfl, ?_⟩) hHeld ?_
        rotate_left
        focus ((intro w hSw; (try dsimp only at hSw); go_simp); (try with_reducible rfl))
        (try simp only [List.getElem_toArray, List.getElem_cons_succ, List.getElem_cons_zero, Act.put, List.setIfInBounds_toArray, List.set_cons_zero, List.set_cons_succ])
        refine wpAnyH_take (i := 28) (v := ?_) rfl (by kernel_rfl) (by kernel_rfl) (by kernel_rfl) (fun _ _ _ h => h) (Or.inl ⟨by rfl, ?_⟩) hHeld ?_
        rotate_left
        focus ((intro w hSw; (try dsimp only at hSw); go_simp); (try with_reducible rfl))
        (try simp only [List.getElem_toArray, List.getElem_cons_succ, List.getElem_cons_zero, Act.put, List.setIfInBounds_toArray, List.set_cons_zero, List.set_cons_succ])
        refine wpAnyH_take (i := 29) (v := ?_) rfl (by kernel_rfl) (by kernel_rfl) (by kernel_rfl) (fun _ _ _ h => h) (Or.inl ⟨by rfl, ?_⟩) hHeld ?_
        rotate_left
        focus ((intro w hSw; (try dsimp only at hSw); go_simp); (try with_reducible rfl))
        (try simp only [List.getElem_toArray, List.getElem_cons_succ, List.getElem_cons_zero, Act.put, List.setIfInBounds_toArray, List.set_cons_zero, List.set_cons_succ])
        refine wpAnyH_take (i := 30) (v := ?_) rfl (by kernel_rfl) (by kernel_rfl) (by kernel_rfl) (fun _ _ _ h => h) (Or.inl ⟨by rfl, ?_⟩) hHeld ?_
        rotate_left
        focus ((intro w hSw; (try dsimp only at hSw); go_simp); (try with_reducible rfl))
        (try simp only [List.getElem_toArray, List.getElem_cons_succ, List.getElem_cons_zero, Act.put, List.setIfInBounds_toArray, List.set_cons_zero, List.set_cons_succ])
        refine wpAnyH_take (i := 32) (v := ?_) rfl (by kernel_rfl) (by kernel_rfl) (by kernel_rfl) (fun _ _ _ h => h) (Or.inl ⟨by rfl, ?_⟩) hHeld ?_
        rotate_left
        focus ((intro w hSw; (try dsimp only at hSw); go_simp); (try with_reducible rfl))
        (try simp only [List.getElem_toArray, List.getElem_cons_succ, List.getElem_cons_zero, Act.put, List.setIfInBounds_toArray, List.set_cons_zero, List.set_cons_succ])
        refine wpAnyH_take (i := 33) (v := ?_) rfl (by kernel_rfl) (by kernel_rfl) (by kernel_rfl) (fun _ _ _ h => h) (Or.inl ⟨by rfl, ?_⟩) hHeld ?_
        rotate_left
        focus ((intro w hSw; (try dsimp only at hSw); go_simp); (try with_reducible rfl))
        (try simp only [List.getElem_toArray, List.getElem_cons_succ, List.getElem_cons_zero, Act.put, List.setIfInBounds_toArray, List.set_cons_zero, List.set_cons_succ])
        refine wpAnyH_ready (rs := [31]) (by kernel_rfl) (by simp) ?_
        refine AllReadyH.cons rfl (fun K hK => ?_) AllReadyH.nil
        go_simp
        (refine (i_FormatPath n3 _ _ s3 _ f3 t3 la3 _ (MB.i6 hHeld.2) (MB.i5 hHeld.2) (MB.i4 hHeld.2) (HPT.out _ hHeld.2.bel)).mono ?_; rintro e w45 ⟨rfl, b45⟩; rw [HFO.out])
        (try (go_wp2_with fail))
        refine hK.out _ _ (⟨⟨blk2 (MB.b0 (MB.call hHeld.2 ‹Below _ _ _›)), blk2 (MB.b1 (MB.call hHeld.2 ‹Below _ _ _›)), blk2 (MB.b3 (MB.call hHeld.2 ‹Below _ _ _›)), blk3 (MB.b4 (MB.call hHeld.2 ‹Below _ _ _›))⟩, (MB.call hHeld.2 ‹Below _ _ _›)⟩) (fun hNew => ?_)
        clear hK K hHeld
        have hHeld := hNew
        clear hNew
        (try simp only [List.getElem_toArray, List.getElem_cons_succ, List.getElem_cons_zero, Act.put, List.setIfInBounds_toArray, List.set_cons_zero, List.set_cons_succ])
        refine wpAnyH_ready (rs := [34]) (by kernel_rfl) (by simp) ?_
        refine AllReadyH.cons rfl (fun K hK => ?_) AllReadyH.nil
        go_simp
        (refine (s_FormatPath n3 _ _ s3 _ f3 t3 la3 _ (MB.i6 hHeld.2) (MB.i5 hHeld.2) (MB.i4 hHeld.2)).mono ?_; rintro e w46 ⟨rfl, b46⟩; rw [HFO.out])
        (try (go_wp2_with fail))
        refine hK.out _ _ (⟨⟨blk2 (MB.b0 (MB.call hHeld.2 ‹Below _ _ _›)), blk2 (MB.b1 (MB.call hHeld.2 ‹Below _ _ _›)), blk2 (MB.b3 (MB.call hHeld.2 ‹Below _ _ _›)), blk3 (MB.b4 (MB.call hHeld.2 ‹Below _ _ _›))⟩, (MB.call hHeld.2 ‹Below _ _ _›)⟩) (fun hNew => ?_)
        clear hK K hHeld
        have hHeld := hNew
        clear hNew
        (try simp only [List.getElem_toArray, List.getElem_cons_succ, List.getElem_cons_zero, Act.put, List.setIfInBounds_toArray, List.set_cons_zero, List.set_cons_succ])
        refine wpAnyH_take (i := 35) (v := ?_) rfl (by kernel_rfl) (by kernel_rfl) (by kernel_rfl) (fun _ _ _ h => h) (Or.inl ⟨by rfl, ?_⟩) hHeld ?_
        rotate_left
        focus ((intro w hSw; (try dsimp only at hSw); go_simp); (try with_reducible rfl))
        (try simp only [List.getElem_toArray, List.getElem_cons_succ, List.getElem_cons_zero, Act.put, List.setIfInBounds_toArray, List.set_cons_zero, List.set_cons_succ])
        refine wpAnyH_take (i := 36) (v := ?_) rfl (by kernel_rfl) (by kernel_rfl) (by kernel_rfl) (fun _ _ _ h => h) (Or.inl ⟨by rfl, ?_⟩) hHeld ?_
        rotate_left
        focus ((intro w hSw; (try dsimp only at hSw); go_simp); (try with_reducible rfl))
        (try simp only [List.getElem_toArray, List.getElem_cons_succ, List.getElem_cons_zero, Act.put, List.setIfInBounds_toArray, List.set_cons_zero, List.set_cons_succ])
        refine wpAnyH_take (i := 37) (v := ?_) rfl (by kernel_rfl) (by kernel_rfl) (by kernel_rfl) (fun _ _ _ h => h) (Or.inl ⟨by rfl, ?_⟩) hHeld ?_
        rotate_left
        focus ((intro w hSw; (try dsimp only at hSw); go_simp); (try with_reducible rfl))
        (try simp only [List.getElem_toArray, List.getElem_cons_succ, List.getElem_cons_zero, Act.put, List.setIfInBounds_toArray, List.set_cons_zero, List.set_cons_succ])
        refine wpAnyH_take (i := 38) (v := ?_) rfl (by kernel_rfl) (by kernel_rfl) (by kernel_rfl) (fun _ _ _ h => h) (Or.inl ⟨by rfl, ?_⟩) hHeld ?_
        rotate_left
        focus ((intro w hSw; (try dsimp only at hSw); go_simp); (try with_reducible rfl))
        (try simp only [List.getElem_toArray, List.getElem_cons_succ, List.getElem_cons_zero, Act.put, List.setIfInBounds_toArray, List.set_cons_zero, List.set_cons_succ])
        refine wpAnyH_take (i := 39) (v := ?_) rfl (by kernel_rfl) (by kernel_rfl) (by kernel_rfl) (fun _ _ _ h => h) (Or.inl ⟨by rfl, ?_⟩) hHeld ?_
        rotate_left
        focus ((intro w hSw; (try dsimp only at hSw); go_simp); (try with_reducible rfl))
        (try simp only [List.getElem_toArray, List.getElem_cons_succ, List.getElem_cons_zero, Act.put, List.setIfInBounds_toArray, List.set_cons_zero, List.set_cons_succ])
        refine wpAnyH_take (i := 41) (v := ?_) rfl (by kernel_rfl) (by kernel_rfl) (by kernel_rfl) (fun _ _ _ h => h) (Or.inl ⟨by rfl, ?_⟩) hHeld ?_
        rotate_left
        focus ((intro w hSw; (try dsimp only at hSw); go_simp); (try with_reducible rfl))
        (try simp only [List.getElem_toArray, List.getElem_cons_succ, List.getElem_cons_zero, Act.put, List.setIfInBounds_toArray, List.set_cons_zero, List.set_cons_succ])
        refine wpAnyH_take (i := 42) (v := ?_) rfl (by kernel_rfl) (by kernel_rfl) (by kernel_rfl) (fun _ _ _ h => h) (Or.inl ⟨by rfl, ?_⟩) hHeld ?_
        rotate_left
        focus ((intro w hSw; (try dsimp only at hSw); go_simp); (try with_reducible rfl))
        (try simp only [List.getElem_toArray, List.getElem_cons_succ, List.getElem_cons_zero, Act.put, List.setIfInBounds_toArray, List.set_cons_zero, List.set_cons_succ])
        refine wpAnyH_ready (rs := [40]) (by kernel_rfl) (by simp) ?_
        refine AllReadyH.cons rfl (fun K hK => ?_) AllReadyH.nil
        go_simp
        (refine (i_EqualPaths s5 s6 _ _ la5 lb6 _ (MB.i1 hHeld.2) (MB.i0 hHeld.2)).mono ?_; rintro e w47 ⟨rfl, b47⟩; rw [HEB.out])
        (try (go_wp2_with fail))
        refine hK.out _ _ (⟨⟨blk2 (MB.b0 (MB.call hHeld.2 ‹Below _ _ _›)), blk2 (MB.b1 (MB.call hHeld.2 ‹Below _ _ _›)), blk2 (MB.b3 (MB.call hHeld.2 ‹Below _ _ _›)), blk3 (MB.b4 (MB.call hHeld.2 ‹Below _ _ _›))⟩, (MB.call hHeld.2 ‹Below _ _ _›)⟩) (fun hNew => ?_)
        clear hK K hHeld
        have hHeld := hNew
        clear hNew
        (try simp only [List.getElem_toArray, List.getElem_cons_succ, List.getElem_cons_zero, Act.put, List.setIfInBounds_toArray, List.set_cons_zero, List.set_cons_succ])
        refine wpAnyH_ready (rs := [43]) (by kernel_rfl) (by simp) ?_
        refine AllReadyH.cons rfl (fun K hK => ?_) AllReadyH.nil
        go_simp
        (refine (s_EqualPaths s5 s6 _ _ la5 lb6 _ (MB.i1 hHeld.2) (MB.i0 hHeld.2)).mono ?_; rintro e w48 ⟨rfl, b48⟩; rw [HEB.out])
        (try (go_wp2_with fail))
        refine hK.out _ _ (⟨⟨blk2 (MB.b0 (MB.call hHeld.2 ‹Below _ _ _›)), blk2 (MB.b1 (MB.call hHeld.2 ‹Below _ _ _›)), blk2 (MB.b3 (MB.call hHeld.2 ‹Below _ _ _›)), blk3 (MB.b4 (MB.call hHeld.2 ‹Below _ _ _›))⟩, (MB.call hHeld.2 ‹Below _ _ _›)⟩) (fun hNew => ?_)
        clear hK K hHeld
        have hHeld := hNew
        clear hNew
        (try simp only [List.getElem_toArray, List.getElem_cons_succ, List.getElem_cons_zero, Act.put, List.setIfInBounds_toArray, List.set_cons_zero, List.set_cons_succ])
        refine wpAnyH_take (i := 44) (v := ?_) rfl (by kernel_rfl) (by kernel_rfl) (by kernel_rfl) (fun _ _ _ h => h) (Or.inl ⟨by rfl, ?_⟩) hHeld ?_
        rotate_left
        focus ((intro w hSw; (try dsimp only at hSw); go_simp); (try with_reducible rfl))
        (try simp only [List.getElem_toArray, List.getElem_cons_succ, List.getElem_cons_zero, Act.put, List.setIfInBounds_toArray, List.set_cons_zero, List.set_cons_succ])
        refine wpAnyH_take (i := 45) (v := ?_) rfl (by kernel_rfl) (by kernel_rfl) (by kernel_rfl) (fun _ _ _ h => h) (Or.inl ⟨by rfl, ?_⟩) hHeld ?_
        rotate_left
        focus ((intro w hSw; (try dsimp only at hSw); go_simp); (try with_reducible rfl))
        (try simp only [List.getElem_toArray, List.getElem_cons_succ, List.getElem_cons_zero, Act.put, List.setIfInBounds_toArray, List.set_cons_zero, List.set_cons_succ])
        refine wpAnyH_take (i := 46) (v := ?_) rfl (by kernel_rfl) (by kernel_rfl) (by kernel_rfl) (fun _ _ _ h => h) (Or.inl ⟨by rfl, ?_⟩) hHeld ?_
        rotate_left
        focus ((intro w hSw; (try dsimp only at hSw); go_simp); (try with_reducible rfl))
        (try simp only [List.getElem_toArray, List.getElem_cons_succ, List.getElem_cons_zero, Act.put, List.setIfInBounds_toArray, List.set_cons_zero, List.set_cons_succ])
        refine wpAnyH_done (by kernel_rfl) ?_ _
        refine NoPanic.normal ?_
        have HBE := Lib.hid hHeld.2.bel
        clear hHeld
        go_wp2
        go_ret
        exact ⟨rfl, HBE.out⟩
end Go.Proofs.YtndooeffjkofdaaDoor
