/- Slices of matrices: the laws' copy and comparison, the library's comparison. -/
import Derived.Test.YtmcjgaffecimlaaMs
import Derived.Test.YtmcjgaffecimlaaEqMat
namespace Go.Proofs.Ytmcjgaffecimlaa
open Go.RowKit
set_option linter.unusedVariables false
set_option linter.unusedSimpArgs false

theorem eqM_mt {a b : Mt} : eqM a.1 a.2.1 a.2.2 b.1 b.2.1 b.2.2 = decide (a = b) := by
  obtain ⟨a0, a1, a2⟩ := a; obtain ⟨b0, b1, b2⟩ := b
  simp [eqM]
set_option maxRecDepth 100000 in
set_option maxHeartbeats 2000000 in
theorem l_eqMatrixS (a b : Value) (la lb : List Mt) (w : World) (ha : MatS w a la) (hb : MatS w b lb) :
    Calls Try.prog 58 #[a, b] w (BoolAnsB (decide (la = lb)) w) := by
  obtain ⟨a, cap, rfl, hlc, hcm⟩ := ha.shape
  obtain ⟨b, cap', rfl, hlc', hcm'⟩ := hb.shape
  have HA := Lib.hid ha; have HB := Lib.hid hb
  clear ha hb
  by_cases hn : la.length = lb.length
  · have HN := Lib.hid hn
    have hnb : ((la.length : Int) != (lb.length : Int)) = false := by simp only [bne_eq_false_iff_eq]; omega
    have hnl : la.length ≤ lb.length := by omega
    clear hn
    go_enter Try.func58, Try.ntmps58
    go_wp2
    go_loopw [5] (fun i wr => ∃ k : Nat, k ≤ la.length ∧ i = .int .i64 k ∧ Hid (∀ j, j < k → mtG la j = mtG lb j) ∧ Hid (Below w.heap.size w wr)) (fun i _ => la.length - (intOf i).toNat)
    case atStart => exact ⟨0, Nat.zero_le _, rfl, fun j hj => absurd hj (by omega), Below.refl _ _⟩
    case round =>
      obtain ⟨k, hk, rfl, HE, HBW⟩ := hrel
      by_cases hlt : k < la.length
      · obtain ⟨g, off, x, rfl, hgs, ha0, ha1, ha2, hx⟩ := (HA.out.below HBW.out).cell hlt
        obtain ⟨g', off', y, rfl, hgs', hb0, hb1, hb2, hy⟩ := (HB.out.below HBW.out).cell (show k < lb.length by omega)
        have hk0 : (0 : Int) ≤ (k : Int) := by omega
        have hk1 : (k : Int) < (la.length : Int) := by omega
        have hk2 : (k : Int) < (lb.length : Int) := by omega
        obtain ⟨ma, hma⟩ : ∃ m, m = mtG la k := ⟨_, rfl⟩
        obtain ⟨mb, hmb⟩ : ∃ m, m = mtG lb k := ⟨_, rfl⟩
        rw [← hma] at ha0 ha1 hx; rw [← hmb] at hb0 hb1 hy
        have HX := Lib.hid (And.intro hx hy)
        have HMA := Lib.hid hma; have HMB := Lib.hid hmb
        have HSx := Lib.hid (fun (w' : World) (hb : Below wr.heap.size wr w') => (show w'.cell? ⟨g, off + k * 3, none⟩ = some (.int .i64 ma.1) ∧ w'.cell? ⟨g, off + k * 3 + 1, none⟩ = some (.int .i64 ma.2.1) ∧ w'.cell? ⟨g, off + k * 3 + 2, none⟩ = some x ∧ w'.cell? ⟨g', off' + k * 3, none⟩ = some (.int .i64 mb.1) ∧ w'.cell? ⟨g', off' + k * 3 + 1, none⟩ = some (.int .i64 mb.2.1) ∧ w'.cell? ⟨g', off' + k * 3 + 2, none⟩ = some y from
          ⟨(hb.cell (p := ⟨g, off + k * 3, none⟩) hgs).trans ha0, (hb.cell (p := ⟨g, off + k * 3 + 1, none⟩) hgs).trans ha1, (hb.cell (p := ⟨g, off + k * 3 + 2, none⟩) hgs).trans ha2, (hb.cell (p := ⟨g', off' + k * 3, none⟩) hgs').trans hb0, (hb.cell (p := ⟨g', off' + k * 3 + 1, none⟩) hgs').trans hb1, (hb.cell (p := ⟨g', off' + k * 3 + 2, none⟩) hgs').trans hb2⟩))
        have hcon := Lib.hid (fun wq (hq : Below wr.heap.size wr wq) => l_eqMatrix ma.1 ma.2.1 mb.1 mb.2.1 x y ma.2.2 mb.2.2 wq (HX.out.1.below hq) (HX.out.2.below hq))
        rw [eqM_mt] at hcon
        clear hx hy hma hmb
        by_cases hq : ma = mb
        · have hqd : decide (ma = mb) = true := by simpa using hq
          have HQ := Lib.hid (show mtG la k = mtG lb k by rw [← HMA.out, ← HMB.out, hq]); clear hq
          rw [hqd] at hcon
          go_wp2
          go_region_held3 (fun w' => w'.cell? ⟨g, off + k * 3, none⟩ = some (.int .i64 ma.1) ∧ w'.cell? ⟨g, off + k * 3 + 1, none⟩ = some (.int .i64 ma.2.1) ∧ w'.cell? ⟨g, off + k * 3 + 2, none⟩ = some x ∧ w'.cell? ⟨g', off' + k * 3, none⟩ = some (.int .i64 mb.1) ∧ w'.cell? ⟨g', off' + k * 3 + 1, none⟩ = some (.int .i64 mb.2.1) ∧ w'.cell? ⟨g', off' + k * 3 + 2, none⟩ = some y)
            (first
              | exact HSx.out _ (Below.refl _ _).drew
              | exact HSx.out _ (below_of_drew b1))
            (first
              | (go_at_call 11; (with_reducible refine (hcon.out _ (Below.refl _ _).drew).mono ?_); rintro e w1 ⟨rfl, b1⟩))
          have HB1 := Lib.hid (HBW.out.trans ((below_of_drew b1).mono HBW.out.size))
          clear b1 ha0 ha1 ha2 hb0 hb1 hb2 hcon
          go_wp2
          go_roundw
          case rel => exact ⟨k + 1, by omega, by go_num, fun j hj => by
            by_cases h : j = k
            · rw [h]; exact HQ.out
            · exact HE.out j (by omega), HB1⟩
          case measure => simp [intOf]; omega
        · have hqd : decide (ma = mb) = false := by simpa using hq
          have HQ := Lib.hid (show decide (la = lb) = false by simp only [decide_eq_false_iff_not]; exact fun h => hq (by rw [HMA.out, HMB.out, h])); clear hq
          rw [hqd] at hcon
          go_wp2
          go_region_held3 (fun w' => w'.cell? ⟨g, off + k * 3, none⟩ = some (.int .i64 ma.1) ∧ w'.cell? ⟨g, off + k * 3 + 1, none⟩ = some (.int .i64 ma.2.1) ∧ w'.cell? ⟨g, off + k * 3 + 2, none⟩ = some x ∧ w'.cell? ⟨g', off' + k * 3, none⟩ = some (.int .i64 mb.1) ∧ w'.cell? ⟨g', off' + k * 3 + 1, none⟩ = some (.int .i64 mb.2.1) ∧ w'.cell? ⟨g', off' + k * 3 + 2, none⟩ = some y)
            (first
              | exact HSx.out _ (Below.refl _ _).drew
              | exact HSx.out _ (below_of_drew b1))
            (first
              | (go_at_call 11; (with_reducible refine (hcon.out _ (Below.refl _ _).drew).mono ?_); rintro e w1 ⟨rfl, b1⟩))
          have HB1 := Lib.hid (HBW.out.trans ((below_of_drew b1).mono HBW.out.size))
          clear b1 ha0 ha1 ha2 hb0 hb1 hb2 hcon
          go_wp2
          go_ret
          exact ⟨ret_bool HQ.out.symm, HB1.out⟩
      · have HQ := Lib.hid (show decide (la = lb) = true by simp only [decide_eq_true_eq]; exact mt_eq HN.out (fun j hj => HE.out j (by omega)))
        go_wp2
        go_ret
        exact ⟨ret_bool HQ.out.symm, HBW.out⟩
  · have HV := Lib.hid (show decide (la = lb) = false by simp; exact fun h => hn (by rw [h]))
    have hnb : ((la.length : Int) != (lb.length : Int)) = true := by simp only [bne_iff_ne]; omega
    clear hn
    go_enter Try.func58, Try.ntmps58
    go_wp2
    go_ret
    exact ⟨ret_bool HV.out.symm, Below.refl _ _⟩
set_option maxRecDepth 100000 in
set_option maxHeartbeats 2000000 in
theorem EqualFunc_mats (a b : Value) (la lb : List Mt) (w : World) (ha : MatS w a la) (hb : MatS w b lb) :
    Calls Try.prog 55 #[a, b, .func (.func 56) #[] #[]] w (BoolAnsB (decide (la = lb)) w) := by
  obtain ⟨a, cap, rfl, hlc, hcm⟩ := ha.shape
  obtain ⟨b, cap', rfl, hlc', hcm'⟩ := hb.shape
  have HA := Lib.hid ha; have HB := Lib.hid hb
  clear ha hb
  by_cases hn : la.length = lb.length
  · have HN := Lib.hid hn
    have hnb : ((la.length : Int) != (lb.length : Int)) = false := by simp only [bne_eq_false_iff_eq]; omega
    have hnl : la.length ≤ lb.length := by omega
    clear hn
    go_enter Try.func55, Try.ntmps55
    go_wp2
    go_loopw [7, 8, 9, 17] (fun _ _ _ i wr => ∃ k : Nat, k ≤ la.length ∧ i = .int .i64 k ∧ Hid (∀ j, j < k → mtG la j = mtG lb j) ∧ Hid (Below w.heap.size w wr)) (fun _ _ _ i _ => la.length - (intOf i).toNat)
    case atStart => exact ⟨0, Nat.zero_le _, rfl, fun j hj => absurd hj (by omega), Below.refl _ _⟩
    case round =>
      obtain ⟨k, hk, rfl, HE, HBW⟩ := hrel
      by_cases hlt : k < la.length
      · obtain ⟨g, off, x, rfl, hgs, ha0, ha1, ha2, hx⟩ := (HA.out.below HBW.out).cell hlt
        have hk0 : (0 : Int) ≤ (k : Int) := by omega
        have hk1 : (k : Int) < (la.length : Int) := by omega
        have hk2 : (k : Int) < (lb.length : Int) := by omega
        obtain ⟨ma, hma⟩ : ∃ m, m = mtG la k := ⟨_, rfl⟩
        obtain ⟨mb, hmb⟩ : ∃ m, m = mtG lb k := ⟨_, rfl⟩
        rw [← hma] at ha0 ha1 hx
        have hbA : Below wr.heap.size wr (wr.alloc (.cells #[.int .i64 ma.1, .int .i64 ma.2.1, x] 26)) := (Below.refl _ wr).alloc (Nat.le_refl _) _
        have HBA := Lib.hid (HBW.out.trans (hbA.mono HBW.out.size))
        obtain ⟨g', off', y, rfl, hgs', hb0, hb1, hb2, hy⟩ := (HB.out.below HBA.out).cell (show k < lb.length by omega)
        rw [← hmb] at hb0 hb1 hy
        have hbC : Below (wr.alloc (.cells #[.int .i64 ma.1, .int .i64 ma.2.1, x] 26)).heap.size (wr.alloc (.cells #[.int .i64 ma.1, .int .i64 ma.2.1, x] 26)) ((wr.alloc (.cells #[.int .i64 ma.1, .int .i64 ma.2.1, x] 26)).alloc (.cells #[.int .i64 mb.1, .int .i64 mb.2.1, y] 26)) := (Below.refl _ _).alloc (Nat.le_refl _) _
        have HBC := Lib.hid (HBA.out.trans (hbC.mono HBA.out.size))
        have hcon := i_EqualMatrices ma.1 ma.2.1 mb.1 mb.2.1 x y ma.2.2 mb.2.2 _ ((hx.below hbA).below hbC) (hy.below hbC)
        rw [eqM_mt] at hcon
        obtain ⟨xa, xc, rfl, _, _⟩ := hx.shape
        obtain ⟨ya, yc, rfl, _, _⟩ := hy.shape
        have HMA := Lib.hid hma; have HMB := Lib.hid hmb
        clear hx hy hma hmb hbA hbC
        by_cases hq : ma = mb
        · have hqd : decide (ma = mb) = true := by simpa using hq
          have HQ := Lib.hid (show mtG la k = mtG lb k by rw [← HMA.out, ← HMB.out, hq]); clear hq
          rw [hqd] at hcon
          go_wp2_with fail
          refine hcon.mono ?_; rintro e w1 ⟨rfl, b1⟩
          have HB1 := Lib.hid (HBC.out.trans (b1.mono HBC.out.size))
          clear b1 ha0 ha1 ha2 hb0 hb1 hb2 hcon
          go_wp2
          go_roundw
          case rel => exact ⟨k + 1, by omega, by go_num, fun j hj => by
            by_cases h : j = k
            · rw [h]; exact HQ.out
            · exact HE.out j (by omega), HB1⟩
          case measure => simp [intOf]; omega
        · have hqd : decide (ma = mb) = false := by simpa using hq
          have HQ := Lib.hid (show decide (la = lb) = false by simp only [decide_eq_false_iff_not]; exact fun h => hq (by rw [HMA.out, HMB.out, h])); clear hq
          rw [hqd] at hcon
          go_wp2_with fail
          refine hcon.mono ?_; rintro e w1 ⟨rfl, b1⟩
          have HB1 := Lib.hid (HBC.out.trans (b1.mono HBC.out.size))
          clear b1 ha0 ha1 ha2 hb0 hb1 hb2 hcon
          go_wp2
          go_ret
          exact ⟨ret_bool HQ.out.symm, HB1.out⟩
      · have HQ := Lib.hid (show decide (la = lb) = true by simp only [decide_eq_true_eq]; exact mt_eq HN.out (fun j hj => HE.out j (by omega)))
        go_wp2
        go_ret
        exact ⟨ret_bool HQ.out.symm, HBW.out⟩
  · have HV := Lib.hid (show decide (la = lb) = false by simp; exact fun h => hn (by rw [h]))
    have hnb : ((la.length : Int) != (lb.length : Int)) = true := by simp only [bne_iff_ne]; omega
    clear hn
    go_enter Try.func55, Try.ntmps55
    go_wp2
    go_ret
    exact ⟨ret_bool HV.out.symm, Below.refl _ _⟩
end Go.Proofs.Ytmcjgaffecimlaa
