/- The walk of the law EqualReps. -/
import Derived.Test.YtmcjgaffecimlaaRep4
import Derived.Test.YtmcjgaffecimlaaLawR
namespace Go.Proofs.Ytmcjgaffecimlaa
open Go.RowKit
set_option linter.unusedVariables false
set_option linter.unusedSimpArgs false
set_option maxRecDepth 100000 in
set_option maxHeartbeats 8000000 in
theorem law_FnExactEqualReps (aP an : Int) (avf avt avd avm : Value) (alf alt ald : List Int) (aL : List Mt) (bP bn : Int) (bvf bvt bvd bvm : Value) (blf blt bld : List Int) (bL : List Mt) (w : World) (arf : Raw w avf alf) (art : Raw w avt alt) (ard : Raw w avd ald) (arm : RawM w avm aL) (brf : Raw w bvf blf) (brt : Raw w bvt blt) (brd : Raw w bvd bld) (brm : RawM w bvm bL) :
    Calls Try.prog 6 #[.agg #[.int .i64 aP, .int .i64 an, avf, avt, avd, avm], .agg #[.int .i64 bP, .int .i64 bn, bvf, bvt, bvd, bvm]] w fun e w' => e = .returned (.bool true) ∧ Below w.heap.size w w' := by
  obtain ⟨a1, ac1, rfl, _, _⟩ := arf.shape
  obtain ⟨a2, ac2, rfl, _, _⟩ := art.shape
  obtain ⟨a3, ac3, rfl, _, _⟩ := ard.shape
  obtain ⟨a4, ac4, rfl, _, _⟩ := arm.shape
  obtain ⟨b1, bc1, rfl, _, _⟩ := brf.shape
  obtain ⟨b2, bc2, rfl, _, _⟩ := brt.shape
  obtain ⟨b3, bc3, rfl, _, _⟩ := brd.shape
  obtain ⟨b4, bc4, rfl, _, _⟩ := brm.shape
  have hb0 : Below w.heap.size w ((w.alloc (.cells #[.int .i64 aP, .int .i64 an, .slice a1 alf.length ac1, .slice a2 alt.length ac2, .slice a3 ald.length ac3, .slice a4 aL.length ac4] 47)).alloc (.cells #[.int .i64 bP, .int .i64 bn, .slice b1 blf.length bc1, .slice b2 blt.length bc2, .slice b3 bld.length bc3, .slice b4 bL.length bc4] 47)) := ((Below.refl _ w).alloc (Nat.le_refl _) _).alloc (by simp) _
  have hPA := (Blk.new w #[.int .i64 aP, .int .i64 an, .slice a1 alf.length ac1, .slice a2 alt.length ac2, .slice a3 ald.length ac3, .slice a4 aL.length ac4] 47).below ((Below.refl _ (w.alloc (.cells #[.int .i64 aP, .int .i64 an, .slice a1 alf.length ac1, .slice a2 alt.length ac2, .slice a3 ald.length ac3, .slice a4 aL.length ac4] 47))).alloc (Nat.le_refl _) (.cells #[.int .i64 bP, .int .i64 bn, .slice b1 blf.length bc1, .slice b2 blt.length bc2, .slice b3 bld.length bc3, .slice b4 bL.length bc4] 47))
  have hPB := Blk.new (w.alloc (.cells #[.int .i64 aP, .int .i64 an, .slice a1 alf.length ac1, .slice a2 alt.length ac2, .slice a3 ald.length ac3, .slice a4 aL.length ac4] 47)) #[.int .i64 bP, .int .i64 bn, .slice b1 blf.length bc1, .slice b2 blt.length bc2, .slice b3 bld.length bc3, .slice b4 bL.length bc4] 47
  rw [World.size_alloc] at hPB
  have HW := Lib.hid (And.intro (And.intro arf (And.intro art (And.intro ard arm))) (And.intro brf (And.intro brt (And.intro brd brm))))
  have HB0 := Lib.hid hb0
  have PA0 := Lib.hid hPA
  have PB0 := Lib.hid hPB
  clear arf art ard arm brf brt brd brm hb0 hPA hPB
  have hszA := Lib.hid (fun (left : Int) (h0 : 0 ≤ left) (h1 : left ≤ 1048576) wq (b : Below w.heap.size w wq) => l_szRep aP an _ _ _ _ alf alt ald aL left wq (HW.out.1.1.below b) (HW.out.1.2.1.below b) (HW.out.1.2.2.1.below b) (HW.out.1.2.2.2.below b) h0 h1)
  have hszB := Lib.hid (fun (left : Int) (h0 : 0 ≤ left) (h1 : left ≤ 1048576) wq (b : Below w.heap.size w wq) => l_szRep bP bn _ _ _ _ blf blt bld bL left wq (HW.out.2.1.below b) (HW.out.2.2.1.below b) (HW.out.2.2.2.1.below b) (HW.out.2.2.2.2.below b) h0 h1)
  by_cases hLA : totR alf alt ald aL ≤ 1048576
  rotate_left
  · have es : szRp 1048576 alf alt ald aL = -1 := if_pos (by omega)
    clear hLA
    go_enter Try.func6, Try.ntmps6
    obtain ⟨p0, p1, p2, p3, p4, p5⟩ := blk6 PA0.out
    obtain ⟨q0, q1, q2, q3, q4, q5⟩ := blk6 PB0.out
    go_wp2_with fail
    refine (hszA.out 1048576 (by omega) (by omega) _ HB0.out).mono ?_; rintro e w1 ⟨rfl, b1⟩
    rw [es]
    have HB1 := Lib.hid (below_call HB0.out b1 HB0.out.size)
    clear b1 p0 p1 p2 p3 p4 p5 q0 q1 q2 q3 q4 q5 es
    go_wp2
    go_ret
    exact ⟨rfl, HB1.out⟩
  have esA : szRp 1048576 alf alt ald aL = 1048576 - (totR alf alt ald aL : Int) := if_neg (by omega)
  obtain ⟨lf0, hlf⟩ : ∃ z, z = 1048576 - (totR alf alt ald aL : Int) := ⟨_, rfl⟩
  have hl0 : 0 ≤ lf0 := by omega
  have hl1 : lf0 ≤ 1048576 := by omega
  rw [← hlf] at esA
  by_cases hLB : (totR blf blt bld bL : Int) ≤ lf0
  rotate_left
  · have es : szRp lf0 blf blt bld bL = -1 := if_pos (by omega)
    clear hLA hLB hlf
    go_enter Try.func6, Try.ntmps6
    obtain ⟨p0, p1, p2, p3, p4, p5⟩ := blk6 PA0.out
    obtain ⟨q0, q1, q2, q3, q4, q5⟩ := blk6 PB0.out
    go_wp2_with fail
    refine (hszA.out 1048576 (by omega) (by omega) _ HB0.out).mono ?_; rintro e w1 ⟨rfl, b1⟩
    rw [esA]
    have HB1 := Lib.hid (below_call HB0.out b1 HB0.out.size)
    have PB1 := Lib.hid (PB0.out.below b1)
    clear b1 p0 p1 p2 p3 p4 p5 q0 q1 q2 q3 q4 q5 esA
    obtain ⟨q0, q1, q2, q3, q4, q5⟩ := blk6 PB1.out
    go_wp2_with fail
    refine (hszB.out lf0 hl0 hl1 _ HB1.out).mono ?_; rintro e w2 ⟨rfl, b2⟩
    rw [es]
    have HB2 := Lib.hid (below_call HB1.out b2 HB1.out.size)
    clear b2 q0 q1 q2 q3 q4 q5 es
    go_wp2
    go_ret
    exact ⟨rfl, HB2.out⟩
  have esB : szRp lf0 blf blt bld bL = lf0 - (totR blf blt bld bL : Int) := if_neg (by omega)
  obtain ⟨lf1, hlf1⟩ : ∃ z, z = lf0 - (totR blf blt bld bL : Int) := ⟨_, rfl⟩
  have hl2 : decide (lf1 < 0) = false := by simp; omega
  have hl3 : decide (lf0 < 0) = false := by simp; omega
  rw [← hlf1] at esB
  have hTA : totR alf alt ald aL ≤ 1048576 := by omega
  have hTB : totR blf blt bld bL ≤ 1048576 := by omega
  have htoA := Lib.hid (fun wq (b : Below w.heap.size w wq) => l_toRep aP an _ _ _ _ alf alt ald aL wq (HW.out.1.1.below b) (HW.out.1.2.1.below b) (HW.out.1.2.2.1.below b) (HW.out.1.2.2.2.below b) hTA)
  have htoB := Lib.hid (fun wq (b : Below w.heap.size w wq) => l_toRep bP bn _ _ _ _ blf blt bld bL wq (HW.out.2.1.below b) (HW.out.2.2.1.below b) (HW.out.2.2.2.1.below b) (HW.out.2.2.2.2.below b) hTB)
  clear hLA hLB hlf hlf1 hTA hTB
  go_enter Try.func6, Try.ntmps6
  obtain ⟨p0, p1, p2, p3, p4, p5⟩ := blk6 PA0.out
  obtain ⟨q0, q1, q2, q3, q4, q5⟩ := blk6 PB0.out
  go_wp2_with fail
  refine (hszA.out 1048576 (by omega) (by omega) _ HB0.out).mono ?_; rintro e w1 ⟨rfl, b1⟩
  rw [esA]
  have HB1 := Lib.hid (below_call HB0.out b1 HB0.out.size)
  have PA1 := Lib.hid (PA0.out.below b1)
  have PB1 := Lib.hid (PB0.out.below b1)
  clear b1 p0 p1 p2 p3 p4 p5 q0 q1 q2 q3 q4 q5 esA
  obtain ⟨q0, q1, q2, q3, q4, q5⟩ := blk6 PB1.out
  go_wp2_with fail
  refine (hszB.out lf0 hl0 hl1 _ HB1.out).mono ?_; rintro e w2 ⟨rfl, b2⟩
  rw [esB]
  have HB2 := Lib.hid (below_call HB1.out b2 HB1.out.size)
  have PA2 := Lib.hid (PA1.out.below b2)
  have PB2 := Lib.hid (PB1.out.below b2)
  clear b2 q0 q1 q2 q3 q4 q5 esB hl0 hl1
  obtain ⟨p0, p1, p2, p3, p4, p5⟩ := blk6 PA2.out
  obtain ⟨q0, q1, q2, q3, q4, q5⟩ := blk6 PB2.out
  have HSx := Lib.hid (fun (w' : World) (hb : Below w2.heap.size w2 w') => (show (w'.cell? ⟨w.heap.size, 0, none⟩ = some (.int .i64 aP) ∧ w'.cell? ⟨w.heap.size, 1, none⟩ = some (.int .i64 an) ∧ w'.cell? ⟨w.heap.size, 2, none⟩ = some (.slice a1 alf.length ac1) ∧ w'.cell? ⟨w.heap.size, 3, none⟩ = some (.slice a2 alt.length ac2) ∧ w'.cell? ⟨w.heap.size, 4, none⟩ = some (.slice a3 ald.length ac3) ∧ w'.cell? ⟨w.heap.size, 5, none⟩ = some (.slice a4 aL.length ac4)) ∧ w'.cell? ⟨w.heap.size + 1, 0, none⟩ = some (.int .i64 bP) ∧ w'.cell? ⟨w.heap.size + 1, 1, none⟩ = some (.int .i64 bn) ∧ w'.cell? ⟨w.heap.size + 1, 2, none⟩ = some (.slice b1 blf.length bc1) ∧ w'.cell? ⟨w.heap.size + 1, 3, none⟩ = some (.slice b2 blt.length bc2) ∧ w'.cell? ⟨w.heap.size + 1, 4, none⟩ = some (.slice b3 bld.length bc3) ∧ w'.cell? ⟨w.heap.size + 1, 5, none⟩ = some (.slice b4 bL.length bc4) from ⟨blk6 (PA2.out.below hb), blk6 (PB2.out.below hb)⟩))
  obtain ⟨z, hz⟩ : ∃ z, z = eqRp aP an alf alt ald aL bP bn blf blt bld bL := ⟨_, rfl⟩
  go_wp2_with fail
  go_region_held3 (fun w' => (w'.cell? ⟨w.heap.size, 0, none⟩ = some (.int .i64 aP) ∧ w'.cell? ⟨w.heap.size, 1, none⟩ = some (.int .i64 an) ∧ w'.cell? ⟨w.heap.size, 2, none⟩ = some (.slice a1 alf.length ac1) ∧ w'.cell? ⟨w.heap.size, 3, none⟩ = some (.slice a2 alt.length ac2) ∧ w'.cell? ⟨w.heap.size, 4, none⟩ = some (.slice a3 ald.length ac3) ∧ w'.cell? ⟨w.heap.size, 5, none⟩ = some (.slice a4 aL.length ac4)) ∧ w'.cell? ⟨w.heap.size + 1, 0, none⟩ = some (.int .i64 bP) ∧ w'.cell? ⟨w.heap.size + 1, 1, none⟩ = some (.int .i64 bn) ∧ w'.cell? ⟨w.heap.size + 1, 2, none⟩ = some (.slice b1 blf.length bc1) ∧ w'.cell? ⟨w.heap.size + 1, 3, none⟩ = some (.slice b2 blt.length bc2) ∧ w'.cell? ⟨w.heap.size + 1, 4, none⟩ = some (.slice b3 bld.length bc3) ∧ w'.cell? ⟨w.heap.size + 1, 5, none⟩ = some (.slice b4 bL.length bc4))
    (first
      | exact HSx.out _ (Below.refl _ _).drew
      | exact HSx.out _ b3
      | exact HSx.out _ (b3.trans (b4.mono b3.size))
      | exact HSx.out _ ((b3.trans (b4.mono b3.size)).trans (b5.mono (b3.trans (b4.mono b3.size)).size))
      | go_keep)
    (first
      | (go_at_call 23; (with_reducible refine (htoA.out _ HB2.out.drew).mono ?_); rintro e w3 ⟨sf, st, sd, sm, rfl, hs1, hs2, hs3, hs4, b3⟩; replace b3 := below_of_drew b3)
      | (go_at_call 23; (with_reducible refine (htoB.out _ (below_call HB2.out b3 HB2.out.size)).mono ?_); rintro e w4 ⟨tf, tt, td, tm, rfl, ht1, ht2, ht3, ht4, b4⟩)
      | (go_at_call 22; (with_reducible refine (s_EqualReps aP an bP bn _ _ _ _ _ _ _ _ alf alt ald blf blt bld aL bL _ (hs1.below b4) (hs2.below b4) (hs3.below b4) (hs4.below b4) ht1 ht2 ht3 ht4).mono ?_); rintro e w5 ⟨rfl, b5⟩))
  rw [← hz]
  have b35 := (b3.trans (b4.mono b3.size)).trans (b5.mono (b3.trans (b4.mono b3.size)).size)
  have HB5 := Lib.hid (below_call HB2.out b35 HB2.out.size)
  have PA5 := Lib.hid (PA2.out.below b35)
  have PB5 := Lib.hid (PB2.out.below b35)
  clear b3 b4 b5 b35 p0 p1 p2 p3 p4 p5 q0 q1 q2 q3 q4 q5 hs1 hs2 hs3 hs4 ht1 ht2 ht3 ht4 HSx
  obtain ⟨p0, p1, p2, p3, p4, p5⟩ := blk6 PA5.out
  go_wp2_with fail
  refine (htoA.out _ HB5.out).mono ?_; rintro e w6 ⟨xf, xt, xd, xm, rfl, hx1, hx2, hx3, hx4, b6⟩
  obtain ⟨x1, xk1, rfl, _, _⟩ := hx1.shape
  obtain ⟨x2, xk2, rfl, _, _⟩ := hx2.shape
  obtain ⟨x3, xk3, rfl, _, _⟩ := hx3.shape
  obtain ⟨x4, xk4, rfl, _, _⟩ := hx4.shape
  have c6 : Below w6.heap.size w6 (w6.alloc (.cells #[.int .i64 aP, .int .i64 an, .slice x1 alf.length xk1, .slice x2 alt.length xk2, .slice x3 ald.length xk3, .slice x4 aL.length xk4] 53)) := (Below.refl _ w6).alloc (Nat.le_refl _) _
  have HX6 := Lib.hid (And.intro (hx1.below c6) (And.intro (hx2.below c6) (And.intro (hx3.below c6) (hx4.below c6))))
  have PX6 := Lib.hid (Blk.new w6 #[.int .i64 aP, .int .i64 an, .slice x1 alf.length xk1, .slice x2 alt.length xk2, .slice x3 ald.length xk3, .slice x4 aL.length xk4] 53)
  have b66 := b6.trans (c6.mono b6.size)
  have HB6 := Lib.hid (below_call HB5.out b66 HB5.out.size)
  have PA6 := Lib.hid (PA5.out.below b66)
  have PB6 := Lib.hid (PB5.out.below b66)
  obtain ⟨gx, hgx⟩ : ∃ g, g = w6.heap.size := ⟨_, rfl⟩
  rw [← hgx] at PX6
  have HGX := Lib.hid hgx
  clear hgx b6 c6 b66 hx1 hx2 hx3 hx4 p0 p1 p2 p3 p4 p5
  obtain ⟨q0, q1, q2, q3, q4, q5⟩ := blk6 PB6.out
  go_wp2_with fail
  refine (htoB.out _ HB6.out).mono ?_; rintro e w7 ⟨yf, yt, yd, ym, rfl, hy1, hy2, hy3, hy4, b7⟩
  obtain ⟨y1, yk1, rfl, _, _⟩ := hy1.shape
  obtain ⟨y2, yk2, rfl, _, _⟩ := hy2.shape
  obtain ⟨y3, yk3, rfl, _, _⟩ := hy3.shape
  obtain ⟨y4, yk4, rfl, _, _⟩ := hy4.shape
  have c7 : Below w7.heap.size w7 (w7.alloc (.cells #[.int .i64 bP, .int .i64 bn, .slice y1 blf.length yk1, .slice y2 blt.length yk2, .slice y3 bld.length yk3, .slice y4 bL.length yk4] 53)) := (Below.refl _ w7).alloc (Nat.le_refl _) _
  have HY7 := Lib.hid (And.intro (hy1.below c7) (And.intro (hy2.below c7) (And.intro (hy3.below c7) (hy4.below c7))))
  have PY7 := Lib.hid (Blk.new w7 #[.int .i64 bP, .int .i64 bn, .slice y1 blf.length yk1, .slice y2 blt.length yk2, .slice y3 bld.length yk3, .slice y4 bL.length yk4] 53)
  have b77 := b7.trans (c7.mono b7.size)
  have HB7 := Lib.hid (below_call HB6.out b77 HB6.out.size)
  have PA7 := Lib.hid (PA6.out.below b77)
  have PB7 := Lib.hid (PB6.out.below b77)
  have PX7 := Lib.hid (PX6.out.below b77)
  have HX7 := Lib.hid (And.intro (HX6.out.1.below b77) (And.intro (HX6.out.2.1.below b77) (And.intro (HX6.out.2.2.1.below b77) (HX6.out.2.2.2.below b77))))
  obtain ⟨gy, hgy⟩ : ∃ g, g = w7.heap.size := ⟨_, rfl⟩
  rw [← hgy] at PY7
  have HGY := Lib.hid hgy
  clear hgy b7 c7 b77 hy1 hy2 hy3 hy4 q0 q1 q2 q3 q4 q5
  obtain ⟨p0, p1, p2, p3, p4, p5⟩ := blk6 PX7.out
  obtain ⟨q0, q1, q2, q3, q4, q5⟩ := blk6 PY7.out
  rw [← HGX.out]
  go_upto_region 11 with fail
  rw [← HGY.out]
  go_wp2_with fail
  refine (i_EqualReps aP an bP bn _ _ _ _ _ _ _ _ alf alt ald blf blt bld aL bL _ HX7.out.1 HX7.out.2.1 HX7.out.2.2.1 HX7.out.2.2.2 HY7.out.1 HY7.out.2.1 HY7.out.2.2.1 HY7.out.2.2.2).mono ?_; rintro e w8 ⟨rfl, b8⟩
  rw [← hz]
  have HB8 := Lib.hid (below_call HB7.out b8 HB7.out.size)
  have PA8 := Lib.hid (PA7.out.below b8)
  have PB8 := Lib.hid (PB7.out.below b8)
  have PX8 := Lib.hid (PX7.out.below b8)
  have PY8 := Lib.hid (PY7.out.below b8)
  have HX8 := Lib.hid (And.intro (HX7.out.1.below b8) (And.intro (HX7.out.2.1.below b8) (And.intro (HX7.out.2.2.1.below b8) (HX7.out.2.2.2.below b8))))
  have HY8 := Lib.hid (And.intro (HY7.out.1.below b8) (And.intro (HY7.out.2.1.below b8) (And.intro (HY7.out.2.2.1.below b8) (HY7.out.2.2.2.below b8))))
  clear b8 p0 p1 p2 p3 p4 p5 q0 q1 q2 q3 q4 q5 hz
  obtain ⟨p0, p1, p2, p3, p4, p5⟩ := blk6 PX8.out
  obtain ⟨q0, q1, q2, q3, q4, q5⟩ := blk6 PA8.out
  have HSx := Lib.hid (fun (w' : World) (hb : Below w8.heap.size w8 w') => (show (w'.cell? ⟨gx, 0, none⟩ = some (.int .i64 aP) ∧ w'.cell? ⟨gx, 1, none⟩ = some (.int .i64 an) ∧ w'.cell? ⟨gx, 2, none⟩ = some (.slice x1 alf.length xk1) ∧ w'.cell? ⟨gx, 3, none⟩ = some (.slice x2 alt.length xk2) ∧ w'.cell? ⟨gx, 4, none⟩ = some (.slice x3 ald.length xk3) ∧ w'.cell? ⟨gx, 5, none⟩ = some (.slice x4 aL.length xk4)) ∧ w'.cell? ⟨w.heap.size, 0, none⟩ = some (.int .i64 aP) ∧ w'.cell? ⟨w.heap.size, 1, none⟩ = some (.int .i64 an) ∧ w'.cell? ⟨w.heap.size, 2, none⟩ = some (.slice a1 alf.length ac1) ∧ w'.cell? ⟨w.heap.size, 3, none⟩ = some (.slice a2 alt.length ac2) ∧ w'.cell? ⟨w.heap.size, 4, none⟩ = some (.slice a3 ald.length ac3) ∧ w'.cell? ⟨w.heap.size, 5, none⟩ = some (.slice a4 aL.length ac4) from ⟨blk6 (PX8.out.below hb), blk6 (PA8.out.below hb)⟩))
  have hzz : (z != z) = false := by simp
  have erA := eqRp_refl aP an alf alt ald aL
  have erB := eqRp_refl bP bn blf blt bld bL
  go_wp2_with fail
  go_region_held3 (fun w' => (w'.cell? ⟨gx, 0, none⟩ = some (.int .i64 aP) ∧ w'.cell? ⟨gx, 1, none⟩ = some (.int .i64 an) ∧ w'.cell? ⟨gx, 2, none⟩ = some (.slice x1 alf.length xk1) ∧ w'.cell? ⟨gx, 3, none⟩ = some (.slice x2 alt.length xk2) ∧ w'.cell? ⟨gx, 4, none⟩ = some (.slice x3 ald.length xk3) ∧ w'.cell? ⟨gx, 5, none⟩ = some (.slice x4 aL.length xk4)) ∧ w'.cell? ⟨w.heap.size, 0, none⟩ = some (.int .i64 aP) ∧ w'.cell? ⟨w.heap.size, 1, none⟩ = some (.int .i64 an) ∧ w'.cell? ⟨w.heap.size, 2, none⟩ = some (.slice a1 alf.length ac1) ∧ w'.cell? ⟨w.heap.size, 3, none⟩ = some (.slice a2 alt.length ac2) ∧ w'.cell? ⟨w.heap.size, 4, none⟩ = some (.slice a3 ald.length ac3) ∧ w'.cell? ⟨w.heap.size, 5, none⟩ = some (.slice a4 aL.length ac4))
    (first
      | exact HSx.out _ (Below.refl _ _).drew
      | exact HSx.out _ b9
      | exact HSx.out _ (b9.trans (b10.mono b9.size))
      | go_keep)
    (first
      | (go_at_call 23; (with_reducible refine (htoA.out _ HB8.out.drew).mono ?_); rintro e w9 ⟨sf, st, sd, sm, rfl, hs1, hs2, hs3, hs4, b9⟩; replace b9 := below_of_drew b9)
      | (go_at_call 25; (with_reducible refine (l_eqRep aP an aP an _ _ _ _ _ _ _ _ alf alt ald alf alt ald aL aL _ (HX8.out.1.below b9) (HX8.out.2.1.below b9) (HX8.out.2.2.1.below b9) (HX8.out.2.2.2.below b9) hs1 hs2 hs3 hs4).mono ?_); rintro e w10 ⟨rfl, b10⟩; rw [erA]))
  have b99 := b9.trans (b10.mono b9.size)
  have HB10 := Lib.hid (below_call HB8.out b99 HB8.out.size)
  have PB10 := Lib.hid (PB8.out.below b99)
  have PY10 := Lib.hid (PY8.out.below b99)
  have HY10 := Lib.hid (And.intro (HY8.out.1.below b99) (And.intro (HY8.out.2.1.below b99) (And.intro (HY8.out.2.2.1.below b99) (HY8.out.2.2.2.below b99))))
  clear b9 b10 b99 p0 p1 p2 p3 p4 p5 q0 q1 q2 q3 q4 q5 hs1 hs2 hs3 hs4 HSx erA
  obtain ⟨p0, p1, p2, p3, p4, p5⟩ := blk6 PY10.out
  obtain ⟨q0, q1, q2, q3, q4, q5⟩ := blk6 PB10.out
  have HSx := Lib.hid (fun (w' : World) (hb : Below w10.heap.size w10 w') => (show (w'.cell? ⟨gy, 0, none⟩ = some (.int .i64 bP) ∧ w'.cell? ⟨gy, 1, none⟩ = some (.int .i64 bn) ∧ w'.cell? ⟨gy, 2, none⟩ = some (.slice y1 blf.length yk1) ∧ w'.cell? ⟨gy, 3, none⟩ = some (.slice y2 blt.length yk2) ∧ w'.cell? ⟨gy, 4, none⟩ = some (.slice y3 bld.length yk3) ∧ w'.cell? ⟨gy, 5, none⟩ = some (.slice y4 bL.length yk4)) ∧ w'.cell? ⟨w.heap.size + 1, 0, none⟩ = some (.int .i64 bP) ∧ w'.cell? ⟨w.heap.size + 1, 1, none⟩ = some (.int .i64 bn) ∧ w'.cell? ⟨w.heap.size + 1, 2, none⟩ = some (.slice b1 blf.length bc1) ∧ w'.cell? ⟨w.heap.size + 1, 3, none⟩ = some (.slice b2 blt.length bc2) ∧ w'.cell? ⟨w.heap.size + 1, 4, none⟩ = some (.slice b3 bld.length bc3) ∧ w'.cell? ⟨w.heap.size + 1, 5, none⟩ = some (.slice b4 bL.length bc4) from ⟨blk6 (PY10.out.below hb), blk6 (PB10.out.below hb)⟩))
  go_wp2_with fail
  go_region_held3 (fun w' => (w'.cell? ⟨gy, 0, none⟩ = some (.int .i64 bP) ∧ w'.cell? ⟨gy, 1, none⟩ = some (.int .i64 bn) ∧ w'.cell? ⟨gy, 2, none⟩ = some (.slice y1 blf.length yk1) ∧ w'.cell? ⟨gy, 3, none⟩ = some (.slice y2 blt.length yk2) ∧ w'.cell? ⟨gy, 4, none⟩ = some (.slice y3 bld.length yk3) ∧ w'.cell? ⟨gy, 5, none⟩ = some (.slice y4 bL.length yk4)) ∧ w'.cell? ⟨w.heap.size + 1, 0, none⟩ = some (.int .i64 bP) ∧ w'.cell? ⟨w.heap.size + 1, 1, none⟩ = some (.int .i64 bn) ∧ w'.cell? ⟨w.heap.size + 1, 2, none⟩ = some (.slice b1 blf.length bc1) ∧ w'.cell? ⟨w.heap.size + 1, 3, none⟩ = some (.slice b2 blt.length bc2) ∧ w'.cell? ⟨w.heap.size + 1, 4, none⟩ = some (.slice b3 bld.length bc3) ∧ w'.cell? ⟨w.heap.size + 1, 5, none⟩ = some (.slice b4 bL.length bc4))
    (first
      | exact HSx.out _ (Below.refl _ _).drew
      | exact HSx.out _ b11
      | exact HSx.out _ (b11.trans (b12.mono b11.size))
      | go_keep)
    (first
      | (go_at_call 23; (with_reducible refine (htoB.out _ HB10.out.drew).mono ?_); rintro e w11 ⟨tf, tt, td, tm, rfl, ht1, ht2, ht3, ht4, b11⟩; replace b11 := below_of_drew b11)
      | (go_at_call 25; (with_reducible refine (l_eqRep bP bn bP bn _ _ _ _ _ _ _ _ blf blt bld blf blt bld bL bL _ (HY10.out.1.below b11) (HY10.out.2.1.below b11) (HY10.out.2.2.1.below b11) (HY10.out.2.2.2.below b11) ht1 ht2 ht3 ht4).mono ?_); rintro e w12 ⟨rfl, b12⟩; rw [erB]))
  have b99 := b11.trans (b12.mono b11.size)
  have HB12 := Lib.hid (below_call HB10.out b99 HB10.out.size)
  clear b11 b12 b99 p0 p1 p2 p3 p4 p5 q0 q1 q2 q3 q4 q5 ht1 ht2 ht3 ht4 HSx erB
  go_wp2
  go_ret
  exact ⟨rfl, HB12.out⟩
end Go.Proofs.Ytmcjgaffecimlaa
