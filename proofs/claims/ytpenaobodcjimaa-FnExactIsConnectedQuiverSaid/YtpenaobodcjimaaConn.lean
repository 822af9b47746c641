/- IsConnectedQuiver, of the reference. -/
import Derived.Test.YtpenaobodcjimaaConn0
import Derived.Test.YtpenaobodcjimaaMB
namespace Go.Proofs.Ytpenaobodcjimaa
open Go.RowKit
set_option linter.unusedVariables false
set_option linter.unusedSimpArgs false

theorem quiet_two {P : Program} {f : FuncId} {args : Array Value} {w : World} {a n : Nat} {v : Value} (h : Calls P f args (w.drewN (a + n)) fun e w' => e = .returned v ∧ w.drewN (a + n) = w') :
    Calls P f args (w.drewN (a + n)) fun e w'' => e = .returned v ∧ ∃ m, w'' = w.drewN (a + m) := h.mono fun _ _ h => ⟨h.1, n, h.2.symm⟩
theorem st_ne {x y c : Int} {L : List Int} (h : (x == c) = false) : stepC x y c L = L := by simp [stepC, h]
theorem st_mem {x y c : Int} {L : List Int} (h : memI y L = true) : stepC x y c L = L := by simp [stepC, h]
theorem st_app {x y c : Int} {L : List Int} (h : (x == c) = true) (h2 : memI y L = false) : stepC x y c L = L ++ [y] := by simp only [stepC, h, h2]; rfl
theorem Own.one (w : World) {B : Nat} (c : Int) (hB : B ≤ w.heap.size) : Own (w.alloc (.cells #[.int .i64 c] 3)) B 3 .i64 (.slice (some ⟨w.heap.size, 0, none⟩) 1 1) [c] :=
  World.ownsRow_lit (size := 1) (e := 3) (base := B) w #[.int .i64 c] 1 hB (by decide) rfl
theorem free_nil (n : Nat) : (freeP [] n).length = n := by
  induction n with
  | zero => rfl
  | succ n ih => rw [freeP_out (by rfl)]; simp [ih]
theorem good_bfs {N : Nat} {f t : List Int} (hN : 1 ≤ N) (hf : ∀ j, j < f.length → 0 ≤ f.getD j 0 ∧ f.getD j 0 < N) (ht : ∀ j, j < f.length → 0 ≤ t.getD j 0 ∧ t.getD j 0 < N) (k : Nat) : goodC N (bfsC f t k) := by
  induction k with
  | zero =>
    have h := free_app (L := []) (y := 0) (by rfl) N
    rw [if_pos (by omega), free_nil] at h
    unfold goodC
    have e : (freeP (bfsC f t 0) N).length + 1 = N := h
    simp only [bfsC, List.length_cons, List.length_nil] at e ⊢
    omega
  | succ k ih => exact good_arr ih hf ht _ (Nat.le_refl _)
theorem isQ_vert {N : Nat} {f t : List Int} (h : isQ N f t = true) : (∀ j, j < f.length → 0 ≤ f.getD j 0 ∧ f.getD j 0 < N) ∧ (∀ j, j < f.length → 0 ≤ t.getD j 0 ∧ t.getD j 0 < N) ∧ f.length = t.length ∧ f.length ≤ 6 ∧ 1 ≤ N ∧ N ≤ 5 := by
  unfold isQ at h
  simp only [Bool.and_eq_true, decide_eq_true_eq] at h
  obtain ⟨⟨⟨⟨h1, h2⟩, h3⟩, h4⟩, h5⟩ := h
  obtain ⟨n1, n5⟩ := inR_true h1
  have g : ∀ l : List Int, allR l 0 ((N : Int) - 1) = true → ∀ j, j < l.length → 0 ≤ l.getD j 0 ∧ l.getD j 0 < N := fun l hl j hj => by
    unfold allR at hl
    rw [List.all_eq_true] at hl
    obtain ⟨a, b⟩ := inR_true (hl (l.getD j 0) (by simp [List.getD, hj]))
    omega
  exact ⟨g f h4, fun j hj => g t h5 j (by omega), h2, h3, by omega, by omega⟩

set_option maxRecDepth 100000 in
set_option maxHeartbeats 8000000 in
theorem s_IsConnectedQuiver_ok (N : Nat) (vf vt : Value) (lf lt : List Int) (w : World) (hf : Ints w vf lf) (ht : Ints w vt lt) (hQ : isQ N lf lt = true) :
    Calls Try.prog 7 #[.agg #[.int .i64 N, vf, vt]] w (BoolAnsB (conQ N lf lt) w) := by
  have HLF := Lib.hid hf.lt; have HLT := Lib.hid ht.lt
  obtain ⟨a1, c1, rfl, hl1, hm1⟩ := hf.shape
  obtain ⟨a2, c2, rfl, hl2, hm2⟩ := ht.shape
  have h2 : Below w.heap.size w (w.alloc (.cells #[.int .i64 N, .slice a1 lf.length c1, .slice a2 lt.length c2] 27)) := (Below.refl _ w).alloc (Nat.le_refl _) _
  have P0 := Lib.hid (Blk.new w #[.int .i64 N, .slice a1 lf.length c1, .slice a2 lt.length c2] 27)
  have HF := Lib.hid (hf.below h2); have HT := Lib.hid (ht.below h2)
  have H2 := Lib.hid h2
  clear hf ht h2
  obtain ⟨W, hW⟩ : ∃ W, W = w.alloc (.cells #[.int .i64 N, .slice a1 lf.length c1, .slice a2 lt.length c2] 27) := ⟨_, rfl⟩
  obtain ⟨B, hB⟩ : ∃ B, B = w.heap.size + 1 := ⟨_, rfl⟩
  have hWs : W.heap.size = w.heap.size + 1 := by rw [hW]; simp
  have HWs := Lib.hid hWs
  rw [← hW] at P0 HF HT H2
  have HBw := Lib.hid (show w.heap.size + 1 ≤ B by omega); have HBW := Lib.hid (show B ≤ W.heap.size by omega)
  have HBe := Lib.hid hB
  have HW := Lib.hid hW
  obtain ⟨hvf, hvt, hlen, h6, n1, n5⟩ := isQ_vert hQ
  have HLEN := Lib.hid hlen
  have HGB := Lib.hid (fun k => good_bfs n1 hvf hvt k)
  have HGA := Lib.hid (fun (c : Int) (L : List Int) (h : goodC N L) (i : Nat) (hi : i ≤ lf.length) => good_arr (f := lf) (t := lt) (c := c) h hvf hvt i hi)
  have HQ := Lib.hid hQ
  have HR := Lib.hid (show conQ N lf lt = decide (((bfsC lf lt (stopC lf lt 6 0)).length : Int) = N) by simp [conQ, hQ])
  clear hW hB hWs hlen hQ hvf hvt
  go_enter Try.func7, Try.ntmps7
  go_wp2
  rw [← HW.out]
  go_loopw [3, 4] (fun s v wr => ∃ (k : Nat), v = .int .i64 k ∧ Own wr B 3 .i64 s (bfsC lf lt k) ∧ Below B W wr ∧ B ≤ wr.heap.size ∧ k ≤ 5 ∧ ∀ j, j < k → j < (bfsC lf lt j).length) (fun _ v _ => 6 - (intOf v).toNat)
  case atStart => exact ⟨0, rfl, by rw [← HWs.out]; exact Own.one W 0 HBW.out, (Below.refl B W).alloc HBW.out _, by have := HBW.out; simp; omega, by omega, fun j hj => absurd hj (by omega)⟩
  case round =>
    obtain ⟨k, rfl, hown, hbel, hBr, hk5, hall⟩ := hrel
    have HALL := Lib.hid hall
    have HO := Lib.hid hown; have HBel := Lib.hid hbel
    have hi := (Ints.of_own hown).1
    obtain ⟨aL, cL, rfl, hlL, hmL⟩ := hi.shape
    obtain ⟨L, hL⟩ : ∃ L, L = bfsC lf lt k := ⟨_, rfl⟩
    have HL := Lib.hid hL
    have hg := HGB.out k
    rw [← hL] at hg hi HO hlL
    have HG := Lib.hid hg
    have hLn := good_len hg
    have HP := Lib.hid (P0.out.belowB hbel (by have := HBw.out; omega))
    have HFr := Lib.hid (HF.out.belowB hbel (fun q hq => by have := HLF.out q hq; have := HBw.out; omega))
    have HTr := Lib.hid (HT.out.belowB hbel (fun q hq => by have := HLT.out q hq; have := HBw.out; omega))
    have HLn := Lib.hid hLn
    clear hown hbel hall hi hL hg hLn
    obtain ⟨p0, p1, p2⟩ := blk3 HP.out
    have hll : (bfsC lf lt k).length = L.length := by rw [HL.out]
    rw [hll]
    clear hll
    by_cases hlt : k < L.length
    · go_wp2_with fail
      refine (s_IsQuiver _ _ _ lf lt _ HFr.out HTr.out).mono ?_; rintro e w1 ⟨rfl, b1⟩
      rw [HQ.out]
      have HO1 := Lib.hid (HO.out.below b1)
      have HBel1 := Lib.hid (HBel.out.trans (b1.mono hBr))
      have hBr1 : B ≤ w1.heap.size := Nat.le_trans hBr b1.size
      have HP1 := Lib.hid (HP.out.below b1)
      clear p0 p1 p2 b1
      obtain ⟨c, hc⟩ : ∃ c, L.getD k 0 = c := ⟨_, rfl⟩
      have HC := Lib.hid hc
      clear hc
      go_wp2
      go_loopw [3, 5] (fun s v wr => ∃ (i : Nat) (M : List Int), i ≤ lf.length ∧ v = .int .i64 i ∧ M = arrC lf lt c L i ∧ Own wr B 3 .i64 s M ∧ Below B W wr ∧ B ≤ wr.heap.size) (fun _ v _ => lf.length - (intOf v).toNat)
      case atStart => exact ⟨0, L, Nat.zero_le _, rfl, rfl, HO1.out, HBel1.out, hBr1⟩
      case round =>
        obtain ⟨i, M, hi, rfl, hM, hown, hbel, hBr'⟩ := hrel
        have HM := Lib.hid hM
        have HOm := Lib.hid hown; have HBelm := Lib.hid hbel; have HIM := Lib.hid (Ints.of_own hown).1
        obtain ⟨aM, cM, hs, hlM, hmM⟩ := HIM.out.shape
        subst hs
        obtain ⟨sfx, hpre⟩ := arrC_pre lf lt c L i
        have HKM := Lib.hid (show k < M.length by rw [hM, hpre]; simp; omega)
        have HMkM := Lib.hid (show M.getD k 0 = c by rw [hM, hpre, getD_pre hlt]; exact HC.out)
        have HMLM := Lib.hid (show M.length ≤ 5 by rw [hM]; have := good_len (HGA.out c L HG.out i hi); omega)
        clear hpre hM hown
        obtain ⟨p0, p1, p2⟩ := blk3 (P0.out.belowB hbel (by have := HBw.out; omega))
        by_cases hil : i < lf.length
        · have hil2 : i < lt.length := by have := HLEN.out; omega
          obtain ⟨g, off, rfl, hgs, hcx0, _⟩ := HF.out.cell hil
          obtain ⟨g', off', rfl, hgs', hcy0, _⟩ := HT.out.cell hil2
          obtain ⟨x, hx⟩ := elem_name lf i
          obtain ⟨y, hy⟩ := elem_name lt i
          rw [hx] at hcx0
          rw [hy] at hcy0
          have HX := Lib.hid hx; have HY := Lib.hid hy
          have HCX := Lib.hid hcx0; have HCY := Lib.hid hcy0
          have HgB := Lib.hid (show g < B by have := HBe.out; have := HWs.out; omega)
          have HgB' := Lib.hid (show g' < B by have := HBe.out; have := HWs.out; omega)
          have hcx := (hbel.cell (p := ⟨g, off + i, none⟩) HgB.out).trans hcx0
          have hcy := (hbel.cell (p := ⟨g', off' + i, none⟩) HgB'.out).trans hcy0
          obtain ⟨gM, oM, hgM, _, hcM, _⟩ := HIM.out.cell HKM.out
          subst hgM
          rw [HMkM.out] at hcM
          have hkMa : (k : Int) < (M.length : Int) := by have := HKM.out; omega
          have hi0 : (0 : Int) ≤ (i : Int) := by omega
          have hi1 : (i : Int) < (lf.length : Int) := by omega
          have hi2 : (i : Int) < (lt.length : Int) := by omega
          have hk0 : (0 : Int) ≤ (k : Int) := by omega
          clear hx hy hcx0 hcy0 hbel
          cases hx1 : (x == c)
          · have E1 := Lib.hid (st_ne (y := y) (L := M) hx1)
            go_wp2
            go_quiet ((go_at_call 17; (first | exact Calls.quiet_of_same ((s_l4Has _ M _ _ (Ints.drewN HIM.out _)).mono fun _ _ h => ⟨h.1, h.2.symm⟩) | exact quiet_two (s_l4Has _ M _ _ (Ints.drewN HIM.out _)))))
            cases hx2 : (y == c)
            · have E2 := Lib.hid (st_ne (y := x) (L := M) hx2)
              go_wp2
              go_quiet ((go_at_call 17; (first | exact Calls.quiet_of_same ((s_l4Has _ M _ _ (Ints.drewN HIM.out _)).mono fun _ _ h => ⟨h.1, h.2.symm⟩) | exact quiet_two (s_l4Has _ M _ _ (Ints.drewN HIM.out _)))))
              go_wp2
              go_roundw
              case rel => exact ⟨i + 1, _, by omega, by go_num, (show arrC lf lt c L (i + 1) = M from by simp only [arrC]; rw [HX.out, HY.out, ← HM.out, E1.out, E2.out]).symm, (HOm.out.drewN _), (below_drewN HBelm.out _), hBr'⟩
              case measure => simp [intOf]; omega
            · cases hm2 : memI x M
              · have E2 := Lib.hid (st_app hx2 hm2)
                go_wp2
                go_quiet ((go_at_call 17; (first | exact Calls.quiet_of_same ((s_l4Has _ M _ _ (Ints.drewN HIM.out _)).mono fun _ _ h => ⟨h.1, h.2.symm⟩) | exact quiet_two (s_l4Has _ M _ _ (Ints.drewN HIM.out _)))))
                go_wp2_with (at_builtin; refine app_int W _ rfl (.tmp 72) (.tmp 78) rfl B _ M rfl rfl (HOm.out.drewN _) (below_drewN HBelm.out _) hBr' (by have := HMLM.out; omega) ?_)
                intro v2 w2 hown2 hbel2 hB2
                have HO2 := Lib.hid hown2; have HBel2 := Lib.hid hbel2; have HI2 := Lib.hid (Ints.of_own hown2).1
                obtain ⟨M2, hM2⟩ : ∃ M2, M2 = M ++ [x] := ⟨_, rfl⟩
                rw [← hM2] at HO2 HI2
                have hMk2 : M2.getD k 0 = c := by rw [hM2, getD_pre HKM.out]; exact HMkM.out
                have HKM2 := Lib.hid (show k < M2.length by rw [hM2]; have := HKM.out; simp; omega)
                have HMkM2 := Lib.hid hMk2
                have HMLM2 := Lib.hid (show M2.length ≤ 300 by rw [hM2]; have := HMLM.out; simp; omega)
                have HEM2 := Lib.hid hM2
                clear hMk2 hM2 hown2 hbel2
                obtain ⟨aM2, cM2, hs2, hlM2, hmM2⟩ := HI2.out.shape
                subst hs2
                go_wp2
                go_roundw
                case rel => exact ⟨i + 1, _, by omega, by go_num, (show arrC lf lt c L (i + 1) = M2 from by simp only [arrC]; rw [HX.out, HY.out, ← HM.out, E1.out, E2.out, ← HEM2.out]).symm, HO2.out, HBel2.out, hB2⟩
                case measure => simp [intOf]; omega
              · have E2 := Lib.hid (st_mem (x := y) (c := c) hm2)
                go_wp2
                go_quiet ((go_at_call 17; (first | exact Calls.quiet_of_same ((s_l4Has _ M _ _ (Ints.drewN HIM.out _)).mono fun _ _ h => ⟨h.1, h.2.symm⟩) | exact quiet_two (s_l4Has _ M _ _ (Ints.drewN HIM.out _)))))
                go_wp2
                go_roundw
                case rel => exact ⟨i + 1, _, by omega, by go_num, (show arrC lf lt c L (i + 1) = M from by simp only [arrC]; rw [HX.out, HY.out, ← HM.out, E1.out, E2.out]).symm, (HOm.out.drewN _), (below_drewN HBelm.out _), hBr'⟩
                case measure => simp [intOf]; omega
          · cases hm1 : memI y M
            · have E1 := Lib.hid (st_app hx1 hm1)
              go_wp2
              go_quiet ((go_at_call 17; (first | exact Calls.quiet_of_same ((s_l4Has _ M _ _ (Ints.drewN HIM.out _)).mono fun _ _ h => ⟨h.1, h.2.symm⟩) | exact quiet_two (s_l4Has _ M _ _ (Ints.drewN HIM.out _)))))
              go_wp2_with (at_builtin; refine app_int W _ rfl (.tmp 44) (.tmp 50) rfl B _ M rfl rfl (HOm.out.drewN _) (below_drewN HBelm.out _) hBr' (by have := HMLM.out; omega) ?_)
              intro v1 w1 hown1 hbel1 hB1
              have HO1 := Lib.hid hown1; have HBel1 := Lib.hid hbel1; have HI1 := Lib.hid (Ints.of_own hown1).1
              obtain ⟨M1, hM1⟩ : ∃ M1, M1 = M ++ [y] := ⟨_, rfl⟩
              rw [← hM1] at HO1 HI1
              have hMk1 : M1.getD k 0 = c := by rw [hM1, getD_pre HKM.out]; exact HMkM.out
              have HKM1 := Lib.hid (show k < M1.length by rw [hM1]; have := HKM.out; simp; omega)
              have HMkM1 := Lib.hid hMk1
              have HMLM1 := Lib.hid (show M1.length ≤ 200 by rw [hM1]; have := HMLM.out; simp; omega)
              have HEM1 := Lib.hid hM1
              clear hMk1 hM1 hown1 hbel1
              obtain ⟨aM1, cM1, hs1, hlM1, hmM1⟩ := HI1.out.shape
              subst hs1
              obtain ⟨gM1, oM1, hg1, _, hcM1, _⟩ := HI1.out.cell HKM1.out
              subst hg1
              rw [HMkM1.out] at hcM1
              have hkM1a : (k : Int) < (M1.length : Int) := by have := HKM1.out; omega
              obtain ⟨p0, p1, p2⟩ := blk3 (P0.out.belowB HBel1.out (by have := HBw.out; omega))
              have hcx1 := (HBel1.out.cell (p := ⟨g, off + i, none⟩) HgB.out).trans HCX.out
              have hcy1 := (HBel1.out.cell (p := ⟨g', off' + i, none⟩) HgB'.out).trans HCY.out
              cases hx2 : (y == c)
              · have E2 := Lib.hid (st_ne (y := x) (L := M1) hx2)
                go_wp2
                go_quiet ((go_at_call 17; (first | exact Calls.quiet_of_same ((s_l4Has _ M1 _ _ (Ints.drewN HI1.out _)).mono fun _ _ h => ⟨h.1, h.2.symm⟩) | exact quiet_two (s_l4Has _ M1 _ _ (Ints.drewN HI1.out _)))))
                go_wp2
                go_roundw
                case rel => exact ⟨i + 1, _, by omega, by go_num, (show arrC lf lt c L (i + 1) = M1 from by simp only [arrC]; rw [HX.out, HY.out, ← HM.out, E1.out, ← HEM1.out, E2.out]).symm, (HO1.out.drewN _), (below_drewN HBel1.out _), hB1⟩
                case measure => simp [intOf]; omega
              · cases hm2 : memI x M1
                · have E2 := Lib.hid (st_app hx2 hm2)
                  go_wp2
                  go_quiet ((go_at_call 17; (first | exact Calls.quiet_of_same ((s_l4Has _ M1 _ _ (Ints.drewN HI1.out _)).mono fun _ _ h => ⟨h.1, h.2.symm⟩) | exact quiet_two (s_l4Has _ M1 _ _ (Ints.drewN HI1.out _)))))
                  go_wp2_with (at_builtin; refine app_int W _ rfl (.tmp 72) (.tmp 78) rfl B _ M1 rfl rfl (HO1.out.drewN _) (below_drewN HBel1.out _) hB1 (by have := HMLM1.out; omega) ?_)
                  intro v2 w2 hown2 hbel2 hB2
                  have HO2 := Lib.hid hown2; have HBel2 := Lib.hid hbel2; have HI2 := Lib.hid (Ints.of_own hown2).1
                  obtain ⟨M2, hM2⟩ : ∃ M2, M2 = M1 ++ [x] := ⟨_, rfl⟩
                  rw [← hM2] at HO2 HI2
                  have hMk2 : M2.getD k 0 = c := by rw [hM2, getD_pre HKM1.out]; exact HMkM1.out
                  have HKM2 := Lib.hid (show k < M2.length by rw [hM2]; have := HKM1.out; simp; omega)
                  have HMkM2 := Lib.hid hMk2
                  have HMLM2 := Lib.hid (show M2.length ≤ 300 by rw [hM2]; have := HMLM1.out; simp; omega)
                  have HEM2 := Lib.hid hM2
                  clear hMk2 hM2 hown2 hbel2
                  obtain ⟨aM2, cM2, hs2, hlM2, hmM2⟩ := HI2.out.shape
                  subst hs2
                  go_wp2
                  go_roundw
                  case rel => exact ⟨i + 1, _, by omega, by go_num, (show arrC lf lt c L (i + 1) = M2 from by simp only [arrC]; rw [HX.out, HY.out, ← HM.out, E1.out, ← HEM1.out, E2.out, ← HEM2.out]).symm, HO2.out, HBel2.out, hB2⟩
                  case measure => simp [intOf]; omega
                · have E2 := Lib.hid (st_mem (x := y) (c := c) hm2)
                  go_wp2
                  go_quiet ((go_at_call 17; (first | exact Calls.quiet_of_same ((s_l4Has _ M1 _ _ (Ints.drewN HI1.out _)).mono fun _ _ h => ⟨h.1, h.2.symm⟩) | exact quiet_two (s_l4Has _ M1 _ _ (Ints.drewN HI1.out _)))))
                  go_wp2
                  go_roundw
                  case rel => exact ⟨i + 1, _, by omega, by go_num, (show arrC lf lt c L (i + 1) = M1 from by simp only [arrC]; rw [HX.out, HY.out, ← HM.out, E1.out, ← HEM1.out, E2.out]).symm, (HO1.out.drewN _), (below_drewN HBel1.out _), hB1⟩
                  case measure => simp [intOf]; omega
            · have E1 := Lib.hid (st_mem (x := x) (c := c) hm1)
              go_wp2
              go_quiet ((go_at_call 17; (first | exact Calls.quiet_of_same ((s_l4Has _ M _ _ (Ints.drewN HIM.out _)).mono fun _ _ h => ⟨h.1, h.2.symm⟩) | exact quiet_two (s_l4Has _ M _ _ (Ints.drewN HIM.out _)))))
              cases hx2 : (y == c)
              · have E2 := Lib.hid (st_ne (y := x) (L := M) hx2)
                go_wp2
                go_quiet ((go_at_call 17; (first | exact Calls.quiet_of_same ((s_l4Has _ M _ _ (Ints.drewN HIM.out _)).mono fun _ _ h => ⟨h.1, h.2.symm⟩) | exact quiet_two (s_l4Has _ M _ _ (Ints.drewN HIM.out _)))))
                go_wp2
                go_roundw
                case rel => exact ⟨i + 1, _, by omega, by go_num, (show arrC lf lt c L (i + 1) = M from by simp only [arrC]; rw [HX.out, HY.out, ← HM.out, E1.out, E2.out]).symm, (HOm.out.drewN _), (below_drewN HBelm.out _), hBr'⟩
                case measure => simp [intOf]; omega
              · cases hm2 : memI x M
                · have E2 := Lib.hid (st_app hx2 hm2)
                  go_wp2
                  go_quiet ((go_at_call 17; (first | exact Calls.quiet_of_same ((s_l4Has _ M _ _ (Ints.drewN HIM.out _)).mono fun _ _ h => ⟨h.1, h.2.symm⟩) | exact quiet_two (s_l4Has _ M _ _ (Ints.drewN HIM.out _)))))
                  go_wp2_with (at_builtin; refine app_int W _ rfl (.tmp 72) (.tmp 78) rfl B _ M rfl rfl (HOm.out.drewN _) (below_drewN HBelm.out _) hBr' (by have := HMLM.out; omega) ?_)
                  intro v2 w2 hown2 hbel2 hB2
                  have HO2 := Lib.hid hown2; have HBel2 := Lib.hid hbel2; have HI2 := Lib.hid (Ints.of_own hown2).1
                  obtain ⟨M2, hM2⟩ : ∃ M2, M2 = M ++ [x] := ⟨_, rfl⟩
                  rw [← hM2] at HO2 HI2
                  have hMk2 : M2.getD k 0 = c := by rw [hM2, getD_pre HKM.out]; exact HMkM.out
                  have HKM2 := Lib.hid (show k < M2.length by rw [hM2]; have := HKM.out; simp; omega)
                  have HMkM2 := Lib.hid hMk2
                  have HMLM2 := Lib.hid (show M2.length ≤ 300 by rw [hM2]; have := HMLM.out; simp; omega)
                  have HEM2 := Lib.hid hM2
                  clear hMk2 hM2 hown2 hbel2
                  obtain ⟨aM2, cM2, hs2, hlM2, hmM2⟩ := HI2.out.shape
                  subst hs2
                  go_wp2
                  go_roundw
                  case rel => exact ⟨i + 1, _, by omega, by go_num, (show arrC lf lt c L (i + 1) = M2 from by simp only [arrC]; rw [HX.out, HY.out, ← HM.out, E1.out, E2.out, ← HEM2.out]).symm, HO2.out, HBel2.out, hB2⟩
                  case measure => simp [intOf]; omega
                · have E2 := Lib.hid (st_mem (x := y) (c := c) hm2)
                  go_wp2
                  go_quiet ((go_at_call 17; (first | exact Calls.quiet_of_same ((s_l4Has _ M _ _ (Ints.drewN HIM.out _)).mono fun _ _ h => ⟨h.1, h.2.symm⟩) | exact quiet_two (s_l4Has _ M _ _ (Ints.drewN HIM.out _)))))
                  go_wp2
                  go_roundw
                  case rel => exact ⟨i + 1, _, by omega, by go_num, (show arrC lf lt c L (i + 1) = M from by simp only [arrC]; rw [HX.out, HY.out, ← HM.out, E1.out, E2.out]).symm, (HOm.out.drewN _), (below_drewN HBelm.out _), hBr'⟩
                  case measure => simp [intOf]; omega
        · have HN := Lib.hid (show bfsC lf lt (k + 1) = M by simp only [bfsC]; rw [← HL.out, HC.out, HM.out, show i = lf.length by omega])
          have hdi : decide (i < lf.length) = false := by simpa using hil
          clear hbel hil
          go_wp2
          go_roundw
          case rel => exact ⟨k + 1, by go_num, by rw [HN.out]; exact HOm.out, HBelm.out, hBr', by have := HLn.out; omega, fun j hj => by
            by_cases h : j = k
            · rw [h, ← HL.out]; exact hlt
            · exact HALL.out j (by omega)⟩
          case measure => simp [intOf]; omega
    · have HS := Lib.hid (show conQ N lf lt = decide ((L.length : Int) = N) by rw [HR.out, stopC_at (k := 0) (u := 6) (K := k) (by omega) (by omega) HALL.out (by rw [← HL.out]; exact hlt), ← HL.out])
      have hd : decide (k < L.length) = false := by simpa using hlt
      go_wp2_with fail
      refine (s_IsQuiver _ _ _ lf lt _ HFr.out HTr.out).mono ?_; rintro e w1 ⟨rfl, b1⟩
      rw [HQ.out]
      have HBel1 := Lib.hid (HBel.out.trans (b1.mono hBr))
      have HP1 := Lib.hid (HP.out.below b1)
      clear p0 p1 p2 b1
      obtain ⟨p0, p1, p2⟩ := blk3 HP1.out
      by_cases hn : (L.length : Int) = N
      · have hnb : ((L.length : Int) == (N : Int)) = true := by simpa using hn
        have HA := Lib.hid (show conQ N lf lt = true by rw [HS.out]; simpa using hn)
        clear hn
        go_wp2
        go_ret
        exact ⟨ret_bool HA.out.symm, H2.out.trans (HBel1.out.mono (by have := HBw.out; omega))⟩
      · have hnb : ((L.length : Int) == (N : Int)) = false := by simpa using hn
        have HA := Lib.hid (show conQ N lf lt = false by rw [HS.out]; simpa using hn)
        clear hn
        go_wp2
        go_ret
        exact ⟨ret_bool HA.out.symm, H2.out.trans (HBel1.out.mono (by have := HBw.out; omega))⟩
set_option maxRecDepth 100000 in
set_option maxHeartbeats 4000000 in
theorem s_IsConnectedQuiver_no (n : Int) (vf vt : Value) (lf lt : List Int) (w : World) (hf : Ints w vf lf) (ht : Ints w vt lt) (hQ : isQ n lf lt = false) :
    Calls Try.prog 7 #[.agg #[.int .i64 n, vf, vt]] w (BoolAnsB (conQ n lf lt) w) := by
  have HLF := Lib.hid hf.lt; have HLT := Lib.hid ht.lt
  obtain ⟨a1, c1, rfl, hl1, hm1⟩ := hf.shape
  obtain ⟨a2, c2, rfl, hl2, hm2⟩ := ht.shape
  have h2 : Below w.heap.size w (w.alloc (.cells #[.int .i64 n, .slice a1 lf.length c1, .slice a2 lt.length c2] 27)) := (Below.refl _ w).alloc (Nat.le_refl _) _
  have P0 := Lib.hid (Blk.new w #[.int .i64 n, .slice a1 lf.length c1, .slice a2 lt.length c2] 27)
  have HF := Lib.hid (hf.below h2); have HT := Lib.hid (ht.below h2)
  have H2 := Lib.hid h2
  clear hf ht h2
  obtain ⟨W, hW⟩ : ∃ W, W = w.alloc (.cells #[.int .i64 n, .slice a1 lf.length c1, .slice a2 lt.length c2] 27) := ⟨_, rfl⟩
  obtain ⟨B, hB⟩ : ∃ B, B = w.heap.size + 1 := ⟨_, rfl⟩
  have hWs : W.heap.size = w.heap.size + 1 := by rw [hW]; simp
  have HWs := Lib.hid hWs
  rw [← hW] at P0 HF HT H2
  have HBw := Lib.hid (show w.heap.size + 1 ≤ B by omega); have HBW := Lib.hid (show B ≤ W.heap.size by omega)
  have HW := Lib.hid hW
  have HQ := Lib.hid hQ
  have HR := Lib.hid (show conQ n lf lt = false by simp [conQ, hQ])
  clear hW hB hWs hQ
  go_enter Try.func7, Try.ntmps7
  go_wp2
  rw [← HW.out]
  go_loopw [3, 4] (fun s v wr => ∃ a c, s = .slice a 1 c ∧ v = .int .i64 0 ∧ Below B W wr ∧ B ≤ wr.heap.size) (fun _ _ _ => 0)
  case atStart => exact ⟨_, _, rfl, rfl, (Below.refl B W).alloc HBW.out _, by have := HBW.out; simp; omega⟩
  case round =>
    obtain ⟨a, c, rfl, rfl, hbel, hBr⟩ := hrel
    have HBel := Lib.hid hbel
    have HP := Lib.hid (P0.out.belowB hbel (by have := HBw.out; omega))
    have HFr := Lib.hid (HF.out.belowB hbel (fun q hq => by have := HLF.out q hq; have := HBw.out; omega))
    have HTr := Lib.hid (HT.out.belowB hbel (fun q hq => by have := HLT.out q hq; have := HBw.out; omega))
    clear hbel
    obtain ⟨p0, p1, p2⟩ := blk3 HP.out
    go_wp2_with fail
    refine (s_IsQuiver _ _ _ lf lt _ HFr.out HTr.out).mono ?_; rintro e w1 ⟨rfl, b1⟩
    rw [HQ.out]
    have HBel1 := Lib.hid (HBel.out.trans (b1.mono hBr))
    have hBr1 : B ≤ w1.heap.size := Nat.le_trans hBr b1.size
    have HF1 := Lib.hid (HFr.out.below b1); have HT1 := Lib.hid (HTr.out.below b1)
    have HP1 := Lib.hid (HP.out.below b1)
    clear p0 p1 p2 b1
    obtain ⟨p0, p1, p2⟩ := blk3 HP1.out
    go_wp2_with fail
    refine (s_IsQuiver _ _ _ lf lt _ HF1.out HT1.out).mono ?_; rintro e w2 ⟨rfl, b2⟩
    rw [HQ.out]
    have HBel2 := Lib.hid (HBel1.out.trans (b2.mono hBr1))
    clear b2
    go_wp2
    go_ret
    exact ⟨ret_bool HR.out.symm, H2.out.trans (HBel2.out.mono (by have := HBw.out; omega))⟩
theorem s_IsConnectedQuiver (n : Int) (vf vt : Value) (lf lt : List Int) (w : World) (hf : Ints w vf lf) (ht : Ints w vt lt) :
    Calls Try.prog 7 #[.agg #[.int .i64 n, vf, vt]] w (BoolAnsB (conQ n lf lt) w) := by
  cases hQ : isQ n lf lt
  · exact s_IsConnectedQuiver_no n vf vt lf lt w hf ht hQ
  · obtain ⟨n1, n5⟩ := isQ_n' hQ
    obtain ⟨N, rfl⟩ := Int.eq_ofNat_of_zero_le (show 0 ≤ n by omega)
    exact s_IsConnectedQuiver_ok N vf vt lf lt w hf ht hQ

end Go.Proofs.Ytpenaobodcjimaa
