/- slices.Equal and l6Same at integers. -/
import Derived.Test.YtndooeffjkofdaaDoorMg2
namespace Go.Proofs.YtndooeffjkofdaaDoor
open Go.RowKit
set_option linter.unusedVariables false
set_option linter.unusedSimpArgs false

set_option maxRecDepth 100000 in
set_option maxHeartbeats 400000 in
theorem Equal_ints (a b : Value) (la lb : List Int) (w : World) (ha : Ints w a la) (hb : Ints w b lb) :
    Calls Tryd.prog 49 #[a, b] w (BoolAnsB (decide (la = lb)) w) := by
  obtain ⟨a, cap, rfl, hlc, hcm⟩ := ha.shape
  obtain ⟨b, cap', rfl, hlc', hcm'⟩ := hb.shape
  by_cases hn : la.length = lb.length
  · have HN := Lib.hid hn
    have hnb : ((la.length : Int) != (lb.length : Int)) = false := by simp only [bne_eq_false_iff_eq]; omega
    have hnl : la.length ≤ lb.length := by omega
    clear hn
    go_enter Tryd.func49, Tryd.ntmps49
    go_wp2
    go_loopw [13] (fun i wr => ∃ k : Nat, k ≤ la.length ∧ i = .int .i64 k ∧ (∀ j, j < k → la.getD j 0 = lb.getD j 0) ∧ Below w.heap.size w wr) (fun i _ => la.length - (intOf i).toNat)
    case atStart => exact ⟨0, Nat.zero_le _, rfl, fun j hj => absurd hj (by omega), Below.refl _ _⟩
    case round =>
      obtain ⟨k, hk, rfl, hno, hbel⟩ := hrel
      have HE := Lib.hid hno; clear hno
      by_cases hlt : k < la.length
      · obtain ⟨g, off, rfl, hgs, hc, _⟩ := ha.cell hlt
        obtain ⟨g', off', rfl, hgs', hc', _⟩ := hb.cell (show k < lb.length by omega)
        rw [← hbel.cell (p := ⟨g, off + k, none⟩) hgs] at hc
        rw [← hbel.cell (p := ⟨g', off' + k, none⟩) hgs'] at hc'
        obtain ⟨x, hx⟩ := elem_name la k
        obtain ⟨y, hy⟩ := elem_name lb k
        rw [hx] at hc
        rw [hy] at hc'
        have HX := Lib.hid hx; have HY := Lib.hid hy; clear hx hy
        have hk0 : (0 : Int) ≤ (k : Int) := by omega
        have hk1 : (k : Int) < (la.length : Int) := by omega
        have hk2 : (k : Int) < (lb.length : Int) := by omega
        by_cases hq : x = y
        · have hqb : (x != y) = false := by simp [hq]
          have HQ := Lib.hid hq; clear hq
          go_wp2
          go_quiet (fail)
          go_wp2
          go_roundw
          case rel => exact ⟨k + 1, by omega, by go_num, fun j hj => by
            by_cases h : j = k
            · rw [h, HX.out, HY.out]; exact HQ.out
            · exact HE.out j (by omega), below_drewN hbel _⟩
          case measure => simp [intOf]; omega
        · have hqb : (x != y) = true := by simpa using hq
          have HQ := Lib.hid hq; clear hq
          go_wp2
          go_quiet (fail)
          go_wp2
          go_ret
          exact ⟨ret_bool (by rw [eq_comm]; simp only [decide_eq_false_iff_not]; exact fun h => HQ.out (by rw [← HX.out, ← HY.out, h])), below_drewN hbel _⟩
      · go_wp2
        go_ret
        exact ⟨ret_bool (by rw [eq_comm]; simp only [decide_eq_true_eq]; exact list_eq_of HN.out (fun j hj => HE.out j (by omega))), hbel⟩
  · have HV : Hid (decide (la = lb) = false) := by unfold Hid; simp; exact fun h => hn (by rw [h])
    have hnb : ((la.length : Int) != (lb.length : Int)) = true := by simp only [bne_iff_ne]; omega
    clear hn
    go_enter Tryd.func49, Tryd.ntmps49
    go_wp2
    go_ret
    exact ⟨ret_bool HV.out.symm, Below.refl _ _⟩

set_option maxRecDepth 100000 in
set_option maxHeartbeats 400000 in
theorem s_l6Same (a b : Value) (la lb : List Int) (w : World) (ha : Ints w a la) (hb : Ints w b lb) :
    Calls Tryd.prog 36 #[a, b] w (BoolAnsB (decide (la = lb)) w) := by
  obtain ⟨a, cap, rfl, hlc, hcm⟩ := ha.shape
  obtain ⟨b, cap', rfl, hlc', hcm'⟩ := hb.shape
  by_cases hn : la.length = lb.length
  · have HN := Lib.hid hn
    have hnb : ((la.length : Int) != (lb.length : Int)) = false := by simp only [bne_eq_false_iff_eq]; omega
    have hnl : la.length ≤ lb.length := by omega
    clear hn
    go_enter Tryd.func36, Tryd.ntmps36
    go_wp2
    go_loopw [5] (fun i wr => ∃ k : Nat, k ≤ la.length ∧ i = .int .i64 k ∧ (∀ j, j < k → la.getD j 0 = lb.getD j 0) ∧ Below w.heap.size w wr) (fun i _ => la.length - (intOf i).toNat)
    case atStart => exact ⟨0, Nat.zero_le _, rfl, fun j hj => absurd hj (by omega), Below.refl _ _⟩
    case round =>
      obtain ⟨k, hk, rfl, hno, hbel⟩ := hrel
      have HE := Lib.hid hno; clear hno
      by_cases hlt : k < la.length
      · obtain ⟨g, off, rfl, hgs, hc, _⟩ := ha.cell hlt
        obtain ⟨g', off', rfl, hgs', hc', _⟩ := hb.cell (show k < lb.length by omega)
        rw [← hbel.cell (p := ⟨g, off + k, none⟩) hgs] at hc
        rw [← hbel.cell (p := ⟨g', off' + k, none⟩) hgs'] at hc'
        obtain ⟨x, hx⟩ := elem_name la k
        obtain ⟨y, hy⟩ := elem_name lb k
        rw [hx] at hc
        rw [hy] at hc'
        have HX := Lib.hid hx; have HY := Lib.hid hy; clear hx hy
        have hk0 : (0 : Int) ≤ (k : Int) := by omega
        have hk1 : (k : Int) < (la.length : Int) := by omega
        have hk2 : (k : Int) < (lb.length : Int) := by omega
        by_cases hq : x = y
        · have hqb : (x != y) = false := by simp [hq]
          have HQ := Lib.hid hq; clear hq
          go_wp2
          go_quiet (fail)
          go_wp2
          go_roundw
          case rel => exact ⟨k + 1, by omega, by go_num, fun j hj => by
            by_cases h : j = k
            · rw [h, HX.out, HY.out]; exact HQ.out
            · exact HE.out j (by omega), below_drewN hbel _⟩
          case measure => simp [intOf]; omega
        · have hqb : (x != y) = true := by simpa using hq
          have HQ := Lib.hid hq; clear hq
          go_wp2
          go_quiet (fail)
          go_wp2
          go_ret
          exact ⟨ret_bool (by rw [eq_comm]; simp only [decide_eq_false_iff_not]; exact fun h => HQ.out (by rw [← HX.out, ← HY.out, h])), below_drewN hbel _⟩
      · go_wp2
        go_ret
        exact ⟨ret_bool (by rw [eq_comm]; simp only [decide_eq_true_eq]; exact list_eq_of HN.out (fun j hj => HE.out j (by omega))), hbel⟩
  · have HV : Hid (decide (la = lb) = false) := by unfold Hid; simp; exact fun h => hn (by rw [h])
    have hnb : ((la.length : Int) != (lb.length : Int)) = true := by simp only [bne_iff_ne]; omega
    clear hn
    go_enter Tryd.func36, Tryd.ntmps36
    go_wp2
    go_ret
    exact ⟨ret_bool HV.out.symm, Below.refl _ _⟩

end Go.Proofs.YtndooeffjkofdaaDoor
