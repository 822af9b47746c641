/- IsConnectedQuiver, of the program: its walk. -/
import Derived.Test.YtpenaobodcjimaaConn1
namespace Go.Proofs.Ytpenaobodcjimaa
open Go.RowKit
set_option linter.unusedVariables false
set_option linter.unusedSimpArgs false

/-- the first r of an arrow's two ways -/
def prC (x y c : Int) (M : List Int) : Nat → List Int
  | 0 => M
  | 1 => stepC x y c M
  | _ + 2 => stepC y x c (stepC x y c M)
theorem prC_pre (x y c : Int) (M : List Int) (r : Nat) (hr : r ≤ 2) : (∃ s, prC x y c M r = M ++ s) ∧ (prC x y c M r).length ≤ M.length + r := by
  have hl : ∀ x y L, (stepC x y c L).length ≤ L.length + 1 := fun x y L => by unfold stepC; split <;> simp
  obtain ⟨s1, h1⟩ := stepC_pre x y c M
  obtain ⟨s2, h2⟩ := stepC_pre y x c (stepC x y c M)
  have l1 := hl x y M
  have l2 := hl y x (stepC x y c M)
  rcases (show r = 0 ∨ r = 1 ∨ r = 2 by omega) with rfl | rfl | rfl
  · exact ⟨⟨[], by simp [prC]⟩, Nat.le_refl _⟩
  · exact ⟨⟨s1, h1⟩, l1⟩
  · exact ⟨⟨s1 ++ s2, by simp only [prC]; rw [h2, h1, List.append_assoc]⟩, by simp only [prC]; omega⟩
set_option maxRecDepth 100000 in
set_option maxHeartbeats 8000000 in
theorem i_IsConnectedQuiver_ok (N : Nat) (vf vt : Value) (lf lt : List Int) (w : World) (hf : Ints w vf lf) (ht : Ints w vt lt) (hQ : isQ N lf lt = true) :
    Calls Try.prog 9 #[.agg #[.int .i64 N, vf, vt]] w (BoolAnsB (conQ N lf lt) w) := by
  have HLF := Lib.hid hf.lt; have HLT := Lib.hid ht.lt
  obtain ⟨a1, c1, rfl, hl1, hm1⟩ := hf.shape
  obtain ⟨a2, c2, rfl, hl2, hm2⟩ := ht.shape
  have h2 : Below w.heap.size w (w.alloc (.cells #[.int .i64 N, .slice a1 lf.length c1, .slice a2 lt.length c2] 27)) := (Below.refl _ w).alloc (Nat.le_refl _) _
  have P0 := Lib.hid (Blk.new w #[.int .i64 N, .slice a1 lf.length c1, .slice a2 lt.length c2] 27)
  have HF := Lib.hid (hf.below h2); have HT := Lib.hid (ht.below h2)
  have H2 := Lib.hid h2
  clear hf ht h2
  obtain ⟨W, hW⟩ : ∃ W, W = w.alloc (.cells #[.int .i64 N, .slice a1 lf.length c1, .slice a2 lt.length c2] 27) := ⟨_, rfl⟩
  obtain ⟨B, hB⟩ : ∃ B, B = w.heap.size + 1 := ⟨_, rfl⟩
  have hWs : W.heap.size = w.heap.size + 1 := by rw [hW]; simp
  have HWs := Lib.hid hWs
  rw [← hW] at P0 HF HT H2
  have HBw := Lib.hid (show w.heap.size + 1 ≤ B by omega); have HBW := Lib.hid (show B ≤ W.heap.size by omega)
  have HBe := Lib.hid hB
  have HW := Lib.hid hW
  obtain ⟨hvf, hvt, hlen, h6, n1, n5⟩ := isQ_vert hQ
  have HLEN := Lib.hid hlen
  have HGB := Lib.hid (fun k => good_bfs n1 hvf hvt k)
  have HGA := Lib.hid (fun (c : Int) (L : List Int) (h : goodC N L) (i : Nat) (hi : i ≤ lf.length) => good_arr (f := lf) (t := lt) (c := c) h hvf hvt i hi)
  have HQ := Lib.hid hQ
  have HR := Lib.hid (show conQ N lf lt = decide (((bfsC lf lt (stopC lf lt 6 0)).length : Int) = N) by simp [conQ, hQ])
  clear hW hB hWs hlen hQ hvf hvt
  obtain ⟨p0, p1, p2⟩ := blk3 P0.out
  go_enter Try.func9, Try.ntmps9
  go_wp2_with fail
  rw [← HW.out]
  refine (i_IsQuiver _ _ _ lf lt _ HF.out HT.out).mono ?_; rintro e w1 ⟨rfl, b1⟩
  rw [HQ.out]
  have HW1 := Lib.hid (b1.mono HBW.out)
  have hBr1 : B ≤ w1.heap.size := Nat.le_trans HBW.out b1.size
  obtain ⟨q0, q1, q2⟩ := blk3 (P0.out.below b1)
  have HO1 := Lib.hid (And.intro (Own.one w1 0 hBr1) (HW1.out.alloc hBr1 (.cells #[.int .i64 0] 3)))
  clear b1 p0 p1 p2
  go_wp2
  clear q0 q1 q2
  go_loopw [3, 4] (fun s v wr => ∃ (k : Nat), v = .int .i64 k ∧ Hid (Own wr B 3 .i64 s (bfsC lf lt k) ∧ Below B W wr) ∧ B ≤ wr.heap.size ∧ k ≤ 5 ∧ Hid (∀ j, j < k → j < (bfsC lf lt j).length)) (fun _ v _ => 6 - (intOf v).toNat)
  case atStart => exact ⟨0, rfl, HO1, by have := hBr1; simp; omega, by omega, fun j hj => absurd hj (by omega)⟩
  case round =>
    obtain ⟨k, rfl, HO, hBr, hk5, HALL⟩ := hrel
    have hi := (Ints.of_own HO.out.1).1
    obtain ⟨aL, cL, rfl, hlL, hmL⟩ := hi.shape
    obtain ⟨L, hL⟩ : ∃ L, L = bfsC lf lt k := ⟨_, rfl⟩
    have HL := Lib.hid hL
    have hg := HGB.out k
    rw [← hL] at hg hi HO hlL
    have HG := Lib.hid hg
    have hLn := good_len hg
    have HP := Lib.hid (P0.out.belowB HO.out.2 (by have := HBw.out; omega))
    have HLn := Lib.hid hLn
    clear hi hL hg hLn
    obtain ⟨p0, p1, p2⟩ := blk3 HP.out
    have hll : (bfsC lf lt k).length = L.length := by rw [HL.out]
    rw [hll]
    clear hll
    by_cases hlt : k < L.length
    · obtain ⟨c, hc⟩ : ∃ c, L.getD k 0 = c := ⟨_, rfl⟩
      have HC := Lib.hid hc
      clear hc
      go_wp2
      clear p0 p1 p2
      go_loopw [3, 22] (fun s v wr => ∃ (i : Nat) (M : List Int), i ≤ lf.length ∧ v = .int .i64 i ∧ Hid (M = arrC lf lt c L i) ∧ Hid (Own wr B 3 .i64 s M ∧ Below B W wr) ∧ B ≤ wr.heap.size) (fun _ v _ => lf.length - (intOf v).toNat)
      case atStart => exact ⟨0, L, Nat.zero_le _, rfl, rfl, HO, hBr⟩
      case round =>
        obtain ⟨i, M, hi, rfl, HM, HOm, hBr'⟩ := hrel
        have HIM := Lib.hid (Ints.of_own HOm.out.1).1
        obtain ⟨aM, cM, hs, hlM, hmM⟩ := HIM.out.shape
        subst hs
        obtain ⟨sfx, hpre⟩ := arrC_pre lf lt c L i
        have HKM := Lib.hid (show k < M.length by rw [HM.out, hpre]; simp; omega)
        have HMkM := Lib.hid (show M.getD k 0 = c by rw [HM.out, hpre, getD_pre hlt]; exact HC.out)
        have HMLM := Lib.hid (show M.length ≤ 5 by rw [HM.out]; have := good_len (HGA.out c L HG.out i hi); omega)
        clear hpre
        by_cases hil : i < lf.length
        · have hil2 : i < lt.length := by have := HLEN.out; omega
          obtain ⟨g, off, rfl, hgs, hcx0, _⟩ := HF.out.cell hil
          obtain ⟨g', off', rfl, hgs', hcy0, _⟩ := HT.out.cell hil2
          obtain ⟨x, hx⟩ := elem_name lf i
          obtain ⟨y, hy⟩ := elem_name lt i
          rw [hx] at hcx0
          rw [hy] at hcy0
          have HX := Lib.hid hx; have HY := Lib.hid hy
          have HgB := Lib.hid (show g < B by have := HBe.out; have := HWs.out; omega)
          have HgB' := Lib.hid (show g' < B by have := HBe.out; have := HWs.out; omega)
          have hcx := (HOm.out.2.cell (p := ⟨g, off + i, none⟩) HgB.out).trans hcx0
          have hcy := (HOm.out.2.cell (p := ⟨g', off' + i, none⟩) HgB'.out).trans hcy0
          obtain ⟨p0, p1, p2⟩ := blk3 (P0.out.belowB HOm.out.2 (by have := HBw.out; omega))
          have hi0 : (0 : Int) ≤ (i : Int) := by omega
          have hi1 : (i : Int) < (lf.length : Int) := by omega
          have hi2 : (i : Int) < (lt.length : Int) := by omega
          clear hx hy hcx0 hcy0
          go_wp2
          go_region_held3 (fun w' => (w'.cell? ⟨w.heap.size, 0, none⟩ = some (.int .i64 N) ∧ w'.cell? ⟨w.heap.size, 1, none⟩ = some (.slice (some ⟨g, off, none⟩) lf.length c1) ∧ w'.cell? ⟨w.heap.size, 2, none⟩ = some (.slice (some ⟨g', off', none⟩) lt.length c2)) ∧ w'.cell? ⟨g', off' + i, none⟩ = some (.int .i64 y))
            (first
              | exact ⟨⟨p0, p1, p2⟩, hcy⟩
              | go_keep)
            (fail)
          obtain ⟨bp, hbp⟩ : ∃ bp, bp = wr.heap.size := ⟨_, rfl⟩
          have HI0 : Hid (Own (wr.alloc (.cells #[.int .i64 x, .int .i64 y, .int .i64 y, .int .i64 x] 37)).drew B 3 .i64 (.slice aM M.length cM) M ∧ Below B W (wr.alloc (.cells #[.int .i64 x, .int .i64 y, .int .i64 y, .int .i64 x] 37)).drew ∧ Blk (wr.alloc (.cells #[.int .i64 x, .int .i64 y, .int .i64 y, .int .i64 x] 37)).drew bp #[.int .i64 x, .int .i64 y, .int .i64 y, .int .i64 x] 37 ∧ ∀ q, (Value.slice aM M.length cM).ownBlock = some q → q ≠ bp) :=
            ⟨HOm.out.1.below ((Below.refl _ wr).alloc (Nat.le_refl _) _).drew, (HOm.out.2.alloc hBr' _).drew, by rw [hbp]; exact Blk.new wr _ _, fun q hq => by have := (World.ownsRow.lt HOm.out.1 q hq).2; omega⟩
          have hBr2 : B ≤ (wr.alloc (.cells #[.int .i64 x, .int .i64 y, .int .i64 y, .int .i64 x] 37)).drew.heap.size := by simp; omega
          rw [← hbp]
          clear hbp
          go_wp2
          go_loopw [3, 43] (fun s v wi => ∃ (r : Nat) (M' : List Int), r ≤ 2 ∧ v = .int .i64 r ∧ Hid (M' = prC x y c M r) ∧ Hid (Own wi B 3 .i64 s M' ∧ Below B W wi ∧ Blk wi bp #[.int .i64 x, .int .i64 y, .int .i64 y, .int .i64 x] 37 ∧ ∀ q, s.ownBlock = some q → q ≠ bp) ∧ B ≤ wi.heap.size) (fun _ v _ => 2 - (intOf v).toNat)
          case atStart => exact ⟨0, M, by omega, rfl, rfl, HI0, hBr2⟩
          case round =>
            obtain ⟨r, M', hr2, rfl, HM', HI, hBi⟩ := hrel
            clear hBr2 HI0
            obtain ⟨⟨sf2, hpre2⟩, hplen⟩ := prC_pre x y c M r hr2
            have HKM' := Lib.hid (show k < M'.length by rw [HM'.out, hpre2]; have := HKM.out; simp; omega)
            have HMkM' := Lib.hid (show M'.getD k 0 = c by rw [HM'.out, hpre2, getD_pre HKM.out]; exact HMkM.out)
            have HMLM' := Lib.hid (show M'.length ≤ 7 by rw [HM'.out]; have := HMLM.out; omega)
            clear hpre2 hplen
            have HIM' := Lib.hid (Ints.of_own HI.out.1).1
            obtain ⟨aN, cN, hs, hlN, hmN⟩ := HIM'.out.shape
            subst hs
            by_cases hr : r < 2
            · have hr' : r = 0 ∨ r = 1 := by omega
              rcases hr' with rfl | rfl
              · obtain ⟨c0, c1', c2', c3'⟩ := blk4 HI.out.2.2.1
                have hbl := (Below.refl wr.heap.size wr).alloc (Nat.le_refl _) (.cells #[.int .i64 x, .int .i64 y] 37)
                have H4 : Hid (Own (wr.alloc (.cells #[.int .i64 x, .int .i64 y] 37)) B 3 .i64 (.slice aN M'.length cN) M' ∧ Below B W (wr.alloc (.cells #[.int .i64 x, .int .i64 y] 37)) ∧ Blk (wr.alloc (.cells #[.int .i64 x, .int .i64 y] 37)) bp #[.int .i64 x, .int .i64 y, .int .i64 y, .int .i64 x] 37 ∧ Blk (wr.alloc (.cells #[.int .i64 x, .int .i64 y] 37)) wr.heap.size #[.int .i64 x, .int .i64 y] 37 ∧ ∀ q, (Value.slice aN M'.length cN).ownBlock = some q → q ≠ bp) :=
                  ⟨HI.out.1.below hbl, HI.out.2.1.alloc hBi _, HI.out.2.2.1.below hbl, Blk.new wr _ _, HI.out.2.2.2⟩
                have hB4 : B ≤ (wr.alloc (.cells #[.int .i64 x, .int .i64 y] 37)).heap.size := by simp; omega
                clear hbl
                go_wp2
                clear c0 c1' c2' c3'
                generalize wr.alloc (.cells #[.int .i64 x, .int .i64 y] 37) = w4 at H4 hB4 ⊢
                generalize wr.heap.size = b8 at H4 ⊢
                have HJ := Lib.hid (Ints.of_own H4.out.1).1
                obtain ⟨e0, e1⟩ : w4.cell? ⟨b8, 0, none⟩ = some (.int .i64 x) ∧ w4.cell? ⟨b8, 1, none⟩ = some (.int .i64 y) := ⟨H4.out.2.2.2.1.cell 0, H4.out.2.2.2.1.cell 1⟩
                obtain ⟨gM, oM, hgM, _, hcM, _⟩ := HJ.out.cell HKM'.out
                subst hgM
                rw [HMkM'.out] at hcM
                have hkMa : (k : Int) < (M'.length : Int) := by have := HKM'.out; omega
                have hk0 : (0 : Int) ≤ (k : Int) := by omega
                have H4' := Lib.hid (And.intro H4.out.1 (And.intro H4.out.2.1 (And.intro H4.out.2.2.1 H4.out.2.2.2.2)))
                cases hx1 : (x == c)
                · have E1 := Lib.hid (show prC x y c M 1 = M' from (show prC x y c M 1 = stepC x y c (prC x y c M 0) from rfl).trans (by rw [← HM'.out]; exact st_ne hx1))
                  go_quiet ((go_at_call 20; (first | exact Calls.quiet_of_same ((Contains_ints _ M' _ _ (Ints.drewN HJ.out _)).mono fun _ _ h => ⟨h.1, h.2.symm⟩) | exact quiet_two (Contains_ints _ M' _ _ (Ints.drewN HJ.out _)))))
                  go_wp2
                  go_roundw
                  case rel => exact ⟨1, M', by omega, by go_num, E1.out.symm, ⟨H4'.out.1.drewN _, below_drewN H4'.out.2.1 _, H4'.out.2.2⟩, hB4⟩
                  case measure => simp [intOf]
                · cases hm2 : memI y M'
                  · have E1 := Lib.hid (show prC x y c M 1 = M' ++ [y] from (show prC x y c M 1 = stepC x y c (prC x y c M 0) from rfl).trans (by rw [← HM'.out]; exact st_app hx1 hm2))
                    go_quiet ((go_at_call 20; (first | exact Calls.quiet_of_same ((Contains_ints _ M' _ _ (Ints.drewN HJ.out _)).mono fun _ _ h => ⟨h.1, h.2.symm⟩) | exact quiet_two (Contains_ints _ M' _ _ (Ints.drewN HJ.out _)))))
                    go_wp2_with (at_builtin; refine app_int_k W _ rfl (.tmp 61) (.tmp 64) rfl B _ M' rfl rfl (H4'.out.1.drewN _) (below_drewN H4'.out.2.1 _) hB4 (by have := HMLM'.out; omega) ?_)
                    intro v5 w5 hown5 hbel5 hB5 hkeep hne hsz
                    have H5 : Hid (Own w5 B 3 .i64 v5 (M' ++ [y]) ∧ Below B W w5 ∧ Blk w5 bp #[.int .i64 x, .int .i64 y, .int .i64 y, .int .i64 x] 37 ∧ ∀ q, v5.ownBlock = some q → q ≠ bp) :=
                      ⟨hown5, hbel5, by
                        have hb := H4'.out.2.2.1
                        have hlt' := hb.lt
                        unfold Blk at hb ⊢
                        rw [hkeep bp hlt' (fun e => H4'.out.2.2.2 bp e.symm rfl)]
                        exact hb, fun q hq => by
                        rcases hne q hq with h | h
                        · exact H4'.out.2.2.2 q h
                        · have := H4'.out.2.2.1.lt
                          have h' : w4.heap.size ≤ q := h
                          omega⟩
                    clear hown5 hbel5 hkeep hne hsz
                    go_wp2
                    go_roundw
                    case rel => exact ⟨1, _, by omega, by go_num, E1.out.symm, H5, hB5⟩
                    case measure => simp [intOf]
                  · have E1 := Lib.hid (show prC x y c M 1 = M' from (show prC x y c M 1 = stepC x y c (prC x y c M 0) from rfl).trans (by rw [← HM'.out]; exact st_mem hm2))
                    go_quiet ((go_at_call 20; (first | exact Calls.quiet_of_same ((Contains_ints _ M' _ _ (Ints.drewN HJ.out _)).mono fun _ _ h => ⟨h.1, h.2.symm⟩) | exact quiet_two (Contains_ints _ M' _ _ (Ints.drewN HJ.out _)))))
                    go_wp2
                    go_roundw
                    case rel => exact ⟨1, M', by omega, by go_num, E1.out.symm, ⟨H4'.out.1.drewN _, below_drewN H4'.out.2.1 _, H4'.out.2.2⟩, hB4⟩
                    case measure => simp [intOf]
              · obtain ⟨c0, c1', c2', c3'⟩ := blk4 HI.out.2.2.1
                have hbl := (Below.refl wr.heap.size wr).alloc (Nat.le_refl _) (.cells #[.int .i64 y, .int .i64 x] 37)
                have H4 : Hid (Own (wr.alloc (.cells #[.int .i64 y, .int .i64 x] 37)) B 3 .i64 (.slice aN M'.length cN) M' ∧ Below B W (wr.alloc (.cells #[.int .i64 y, .int .i64 x] 37)) ∧ Blk (wr.alloc (.cells #[.int .i64 y, .int .i64 x] 37)) bp #[.int .i64 x, .int .i64 y, .int .i64 y, .int .i64 x] 37 ∧ Blk (wr.alloc (.cells #[.int .i64 y, .int .i64 x] 37)) wr.heap.size #[.int .i64 y, .int .i64 x] 37 ∧ ∀ q, (Value.slice aN M'.length cN).ownBlock = some q → q ≠ bp) :=
                  ⟨HI.out.1.below hbl, HI.out.2.1.alloc hBi _, HI.out.2.2.1.below hbl, Blk.new wr _ _, HI.out.2.2.2⟩
                have hB4 : B ≤ (wr.alloc (.cells #[.int .i64 y, .int .i64 x] 37)).heap.size := by simp; omega
                clear hbl
                go_wp2
                clear c0 c1' c2' c3'
                generalize wr.alloc (.cells #[.int .i64 y, .int .i64 x] 37) = w4 at H4 hB4 ⊢
                generalize wr.heap.size = b8 at H4 ⊢
                have HJ := Lib.hid (Ints.of_own H4.out.1).1
                obtain ⟨e0, e1⟩ : w4.cell? ⟨b8, 0, none⟩ = some (.int .i64 y) ∧ w4.cell? ⟨b8, 1, none⟩ = some (.int .i64 x) := ⟨H4.out.2.2.2.1.cell 0, H4.out.2.2.2.1.cell 1⟩
                obtain ⟨gM, oM, hgM, _, hcM, _⟩ := HJ.out.cell HKM'.out
                subst hgM
                rw [HMkM'.out] at hcM
                have hkMa : (k : Int) < (M'.length : Int) := by have := HKM'.out; omega
                have hk0 : (0 : Int) ≤ (k : Int) := by omega
                have H4' := Lib.hid (And.intro H4.out.1 (And.intro H4.out.2.1 (And.intro H4.out.2.2.1 H4.out.2.2.2.2)))
                cases hx1 : (y == c)
                · have E1 := Lib.hid (show prC x y c M 2 = M' from (show prC x y c M 2 = stepC y x c (prC x y c M 1) from rfl).trans (by rw [← HM'.out]; exact st_ne hx1))
                  go_quiet ((go_at_call 20; (first | exact Calls.quiet_of_same ((Contains_ints _ M' _ _ (Ints.drewN HJ.out _)).mono fun _ _ h => ⟨h.1, h.2.symm⟩) | exact quiet_two (Contains_ints _ M' _ _ (Ints.drewN HJ.out _)))))
                  go_wp2
                  go_roundw
                  case rel => exact ⟨2, M', by omega, by go_num, E1.out.symm, ⟨H4'.out.1.drewN _, below_drewN H4'.out.2.1 _, H4'.out.2.2⟩, hB4⟩
                  case measure => simp [intOf]
                · cases hm2 : memI x M'
                  · have E1 := Lib.hid (show prC x y c M 2 = M' ++ [x] from (show prC x y c M 2 = stepC y x c (prC x y c M 1) from rfl).trans (by rw [← HM'.out]; exact st_app hx1 hm2))
                    go_quiet ((go_at_call 20; (first | exact Calls.quiet_of_same ((Contains_ints _ M' _ _ (Ints.drewN HJ.out _)).mono fun _ _ h => ⟨h.1, h.2.symm⟩) | exact quiet_two (Contains_ints _ M' _ _ (Ints.drewN HJ.out _)))))
                    go_wp2_with (at_builtin; refine app_int_k W _ rfl (.tmp 61) (.tmp 64) rfl B _ M' rfl rfl (H4'.out.1.drewN _) (below_drewN H4'.out.2.1 _) hB4 (by have := HMLM'.out; omega) ?_)
                    intro v5 w5 hown5 hbel5 hB5 hkeep hne hsz
                    have H5 : Hid (Own w5 B 3 .i64 v5 (M' ++ [x]) ∧ Below B W w5 ∧ Blk w5 bp #[.int .i64 x, .int .i64 y, .int .i64 y, .int .i64 x] 37 ∧ ∀ q, v5.ownBlock = some q → q ≠ bp) :=
                      ⟨hown5, hbel5, by
                        have hb := H4'.out.2.2.1
                        have hlt' := hb.lt
                        unfold Blk at hb ⊢
                        rw [hkeep bp hlt' (fun e => H4'.out.2.2.2 bp e.symm rfl)]
                        exact hb, fun q hq => by
                        rcases hne q hq with h | h
                        · exact H4'.out.2.2.2 q h
                        · have := H4'.out.2.2.1.lt
                          have h' : w4.heap.size ≤ q := h
                          omega⟩
                    clear hown5 hbel5 hkeep hne hsz
                    go_wp2
                    go_roundw
                    case rel => exact ⟨2, _, by omega, by go_num, E1.out.symm, H5, hB5⟩
                    case measure => simp [intOf]
                  · have E1 := Lib.hid (show prC x y c M 2 = M' from (show prC x y c M 2 = stepC y x c (prC x y c M 1) from rfl).trans (by rw [← HM'.out]; exact st_mem hm2))
                    go_quiet ((go_at_call 20; (first | exact Calls.quiet_of_same ((Contains_ints _ M' _ _ (Ints.drewN HJ.out _)).mono fun _ _ h => ⟨h.1, h.2.symm⟩) | exact quiet_two (Contains_ints _ M' _ _ (Ints.drewN HJ.out _)))))
                    go_wp2
                    go_roundw
                    case rel => exact ⟨2, M', by omega, by go_num, E1.out.symm, ⟨H4'.out.1.drewN _, below_drewN H4'.out.2.1 _, H4'.out.2.2⟩, hB4⟩
                    case measure => simp [intOf]
            · obtain rfl : r = 2 := by omega
              have HA2 : Hid (M' = arrC lf lt c L (i + 1)) := by
                unfold Hid
                rw [HM'.out]; simp only [arrC, prC]; rw [HX.out, HY.out, ← HM.out]
              go_wp2
              go_roundw
              case rel => exact ⟨i + 1, M', by omega, by go_num, HA2, ⟨HI.out.1, HI.out.2.1⟩, hBi⟩
              case measure => simp [intOf]; omega
        · have HN := Lib.hid (show bfsC lf lt (k + 1) = M by simp only [bfsC]; rw [← HL.out, HC.out, HM.out, show i = lf.length by omega])
          have hdi : decide (i < lf.length) = false := by simpa using hil
          have hle : k + 1 ≤ 5 := by have := HLn.out; omega
          clear hil
          go_wp2
          go_roundw
          case rel => exact ⟨k + 1, by go_num, by rw [HN.out]; exact HOm, hBr', hle, fun j hj => by
            by_cases h : j = k
            · rw [h, ← HL.out]; exact hlt
            · exact HALL.out j (by omega)⟩
          case measure => simp [intOf]; omega
    · have HS := Lib.hid (show conQ N lf lt = decide ((L.length : Int) = N) by rw [HR.out, stopC_at (k := 0) (u := 6) (K := k) (by omega) (by omega) HALL.out (by rw [← HL.out]; exact hlt), ← HL.out])
      have hd : decide (k < L.length) = false := by simpa using hlt
      by_cases hn : (L.length : Int) = N
      · have hnb : ((L.length : Int) == (N : Int)) = true := by simpa using hn
        have HA := Lib.hid (show conQ N lf lt = true by rw [HS.out]; simpa using hn)
        clear hn
        go_wp2
        go_ret
        exact ⟨ret_bool HA.out.symm, H2.out.trans (HO.out.2.mono (by have := HBw.out; omega))⟩
      · have hnb : ((L.length : Int) == (N : Int)) = false := by simpa using hn
        have HA := Lib.hid (show conQ N lf lt = false by rw [HS.out]; simpa using hn)
        clear hn
        go_wp2
        go_ret
        exact ⟨ret_bool HA.out.symm, H2.out.trans (HO.out.2.mono (by have := HBw.out; omega))⟩
set_option maxRecDepth 100000 in
set_option maxHeartbeats 4000000 in
theorem i_IsConnectedQuiver_no (n : Int) (vf vt : Value) (lf lt : List Int) (w : World) (hf : Ints w vf lf) (ht : Ints w vt lt) (hQ : isQ n lf lt = false) :
    Calls Try.prog 9 #[.agg #[.int .i64 n, vf, vt]] w (BoolAnsB (conQ n lf lt) w) := by
  obtain ⟨a1, c1, rfl, hl1, hm1⟩ := hf.shape
  obtain ⟨a2, c2, rfl, hl2, hm2⟩ := ht.shape
  have h2 : Below w.heap.size w (w.alloc (.cells #[.int .i64 n, .slice a1 lf.length c1, .slice a2 lt.length c2] 27)) := (Below.refl _ w).alloc (Nat.le_refl _) _
  have HF := Lib.hid (hf.below h2); have HT := Lib.hid (ht.below h2)
  have hP := Blk.new w #[.int .i64 n, .slice a1 lf.length c1, .slice a2 lt.length c2] 27
  obtain ⟨p0, p1, p2⟩ := blk3 hP
  have H2 := Lib.hid h2
  have HA := Lib.hid (show conQ n lf lt = false by simp [conQ, hQ])
  have HQ := Lib.hid hQ
  clear hf ht h2 hP hQ
  go_enter Try.func9, Try.ntmps9
  go_wp2_with fail
  refine (i_IsQuiver _ _ _ lf lt _ HF.out HT.out).mono ?_; rintro e w1 ⟨rfl, b1⟩
  rw [HQ.out]
  have HB1 := Lib.hid (H2.out.trans (b1.mono (by simp)))
  clear b1 p0 p1 p2
  go_wp2
  go_ret
  exact ⟨ret_bool HA.out.symm, HB1.out⟩
theorem i_IsConnectedQuiver (n : Int) (vf vt : Value) (lf lt : List Int) (w : World) (hf : Ints w vf lf) (ht : Ints w vt lt) :
    Calls Try.prog 9 #[.agg #[.int .i64 n, vf, vt]] w (BoolAnsB (conQ n lf lt) w) := by
  cases hQ : isQ n lf lt
  · exact i_IsConnectedQuiver_no n vf vt lf lt w hf ht hQ
  · obtain ⟨n1, n5⟩ := isQ_n' hQ
    obtain ⟨N, rfl⟩ := Int.eq_ofNat_of_zero_le (show 0 ≤ n by omega)
    exact i_IsConnectedQuiver_ok N vf vt lf lt w hf ht hQ
end Go.Proofs.Ytpenaobodcjimaa
