/- Comparisons of slices of slices of integers: the laws', the reference's and the program's. -/
import Derived.Test.YtjcgommdeplbbaaSS
import Derived.Test.YtjcgommdeplbbaaPathV
namespace Go.Proofs.Ytjcgommdeplbbaa
open Go.RowKit
set_option linter.unusedVariables false
set_option linter.unusedSimpArgs false

theorem rows_eq_of {la lb : List (List Int)} (h : la.length = lb.length) (hk : ∀ j, j < la.length → la.getD j [] = lb.getD j []) : la = lb := by
  apply List.ext_getElem h
  intro i h1 h2
  have := hk i h1
  rw [List.getD_eq_getElem?_getD, List.getD_eq_getElem?_getD, List.getElem?_eq_getElem h1, List.getElem?_eq_getElem h2] at this
  exact this

set_option maxRecDepth 100000 in
set_option maxHeartbeats 2000000 in
theorem l_eqIntSS (a b : Value) (la lb : List (List Int)) (w : World) (ha : IntsS w a la) (hb : IntsS w b lb) :
    Calls Try.prog 35 #[a, b] w (BoolAnsB (decide (la = lb)) w) := by
  obtain ⟨a, cap, rfl, hlc, hcm⟩ := ha.shape
  obtain ⟨b, cap', rfl, hlc', hcm'⟩ := hb.shape
  have HA := Lib.hid ha; have HB := Lib.hid hb
  clear ha hb
  by_cases hn : la.length = lb.length
  · have HN := Lib.hid hn
    have hnb : ((la.length : Int) != (lb.length : Int)) = false := by simp only [bne_eq_false_iff_eq]; omega
    have hnl : la.length ≤ lb.length := by omega
    clear hn
    go_enter Try.func35, Try.ntmps35
    go_wp2
    go_loopw [5] (fun i wr => ∃ k : Nat, k ≤ la.length ∧ i = .int .i64 k ∧ Hid (∀ j, j < k → la.getD j [] = lb.getD j []) ∧ Below w.heap.size w wr) (fun i _ => la.length - (intOf i).toNat)
    case atStart => exact ⟨0, Nat.zero_le _, rfl, fun j hj => absurd hj (by omega), Below.refl _ _⟩
    case round =>
      obtain ⟨k, hk, rfl, HE, hbel⟩ := hrel
      by_cases hlt : k < la.length
      · obtain ⟨g, off, x, rfl, hgs, hc, hx⟩ := (HA.out.below hbel).cell hlt
        obtain ⟨g', off', y, rfl, hgs', hc', hy⟩ := (HB.out.below hbel).cell (show k < lb.length by omega)
        have hk0 : (0 : Int) ≤ (k : Int) := by omega
        have hk1 : (k : Int) < (la.length : Int) := by omega
        have hk2 : (k : Int) < (lb.length : Int) := by omega
        have HX := Lib.hid (And.intro hx hy)
        clear hx hy
        obtain ⟨ra, hra⟩ : ∃ ra, la.getD k [] = ra := ⟨_, rfl⟩
        obtain ⟨rb, hrb⟩ : ∃ rb, lb.getD k [] = rb := ⟨_, rfl⟩
        rw [hra, hrb] at HX
        have HRA := Lib.hid hra; have HRB := Lib.hid hrb
        clear hra hrb
        by_cases hq : ra = rb
        · have hqd : decide (ra = rb) = true := by simpa using hq
          have HQ := Lib.hid (show la.getD k [] = lb.getD k [] by rw [HRA.out, HRB.out, hq]); clear hq
          go_wp2
          go_region_held3 (fun w' => w'.cell? ⟨g, off + k, none⟩ = some x ∧ w'.cell? ⟨g', off' + k, none⟩ = some y)
            (first
              | exact ⟨hc, hc'⟩
              | exact ⟨(b1.cell (p := ⟨g, off + k, none⟩) hgs).trans hc, (b1.cell (p := ⟨g', off' + k, none⟩) hgs').trans hc'⟩)
            (first
              | (go_at_call 49; (with_reducible refine (l_eqIntS x y ra rb _ HX.out.1.drew HX.out.2.drew).mono ?_); rintro e w1 ⟨rfl, b1⟩))
          have HB1 := Lib.hid (hbel.trans ((below_of_drew b1).mono hbel.size))
          clear b1 hc hc'
          go_wp2
          go_roundw
          case rel => exact ⟨k + 1, by omega, by go_num, fun j hj => by
            by_cases h : j = k
            · rw [h]; exact HQ.out
            · exact HE.out j (by omega), HB1.out⟩
          case measure => simp [intOf]; omega
        · have hqd : decide (ra = rb) = false := by simpa using hq
          have HQ := Lib.hid (show decide (la = lb) = false by simp only [decide_eq_false_iff_not]; exact fun h => hq (by rw [← HRA.out, ← HRB.out, h])); clear hq
          go_wp2
          go_region_held3 (fun w' => w'.cell? ⟨g, off + k, none⟩ = some x ∧ w'.cell? ⟨g', off' + k, none⟩ = some y)
            (first
              | exact ⟨hc, hc'⟩
              | exact ⟨(b1.cell (p := ⟨g, off + k, none⟩) hgs).trans hc, (b1.cell (p := ⟨g', off' + k, none⟩) hgs').trans hc'⟩)
            (first
              | (go_at_call 49; (with_reducible refine (l_eqIntS x y ra rb _ HX.out.1.drew HX.out.2.drew).mono ?_); rintro e w1 ⟨rfl, b1⟩))
          have HB1 := Lib.hid (hbel.trans ((below_of_drew b1).mono hbel.size))
          clear b1 hc hc'
          go_wp2
          go_ret
          exact ⟨ret_bool HQ.out.symm, HB1.out⟩
      · have HQ := Lib.hid (show decide (la = lb) = true by simp only [decide_eq_true_eq]; exact rows_eq_of HN.out (fun j hj => HE.out j (by omega)))
        go_wp2
        go_ret
        exact ⟨ret_bool HQ.out.symm, hbel⟩
  · have HV := Lib.hid (show decide (la = lb) = false by simp; exact fun h => hn (by rw [h]))
    have hnb : ((la.length : Int) != (lb.length : Int)) = true := by simp only [bne_iff_ne]; omega
    clear hn
    go_enter Try.func35, Try.ntmps35
    go_wp2
    go_ret
    exact ⟨ret_bool HV.out.symm, Below.refl _ _⟩



set_option maxRecDepth 100000 in
set_option maxHeartbeats 4000000 in
theorem s_l5Same (a b : Value) (la lb : List (List Int)) (w : World) (ha : IntsS w a la) (hb : IntsS w b lb) :
    Calls Try.prog 39 #[a, b] w (BoolAnsB (decide (la = lb)) w) := by
  obtain ⟨a, cap, rfl, hlc, hcm⟩ := ha.shape
  obtain ⟨b, cap', rfl, hlc', hcm'⟩ := hb.shape
  have HA := Lib.hid ha; have HB := Lib.hid hb
  clear ha hb
  by_cases hn : la.length = lb.length
  · have HN := Lib.hid hn
    have hnb : ((la.length : Int) != (lb.length : Int)) = false := by simp only [bne_eq_false_iff_eq]; omega
    have hnl : la.length ≤ lb.length := by omega
    clear hn
    go_enter Try.func39, Try.ntmps39
    go_wp2
    go_loopw [5, 6] (fun i _ wr => ∃ k : Nat, k ≤ la.length ∧ i = .int .i64 k ∧ Hid (∀ j, j < k → la.getD j [] = lb.getD j []) ∧ Below w.heap.size w wr) (fun i _ _ => la.length - (intOf i).toNat)
    case atStart => exact ⟨0, Nat.zero_le _, rfl, fun j hj => absurd hj (by omega), Below.refl _ _⟩
    case round =>
      obtain ⟨k, hk, rfl, HE, hbel⟩ := hrel
      by_cases hlt : k < la.length
      · obtain ⟨g, off, x, rfl, hgs, hc, hx⟩ := (HA.out.below hbel).cell hlt
        obtain ⟨g', off', y, rfl, hgs', hc', hy⟩ := (HB.out.below hbel).cell (show k < lb.length by omega)
        obtain ⟨xa, xc, rfl, hxl, hxm⟩ := hx.shape
        obtain ⟨ya, yc, rfl, hyl, hym⟩ := hy.shape
        have hk0 : (0 : Int) ≤ (k : Int) := by omega
        have hk1 : (k : Int) < (la.length : Int) := by omega
        have hk2 : (k : Int) < (lb.length : Int) := by omega
        have HX := Lib.hid (And.intro hx hy)
        clear hx hy
        obtain ⟨ra, hra⟩ : ∃ ra, la.getD k [] = ra := ⟨_, rfl⟩
        obtain ⟨rb, hrb⟩ : ∃ rb, lb.getD k [] = rb := ⟨_, rfl⟩
        rw [hra, hrb] at HX
        rw [hra] at hc hxl
        rw [hrb] at hc' hyl
        have HRA := Lib.hid hra; have HRB := Lib.hid hrb
        clear hra hrb
        by_cases hrl : ra.length = rb.length
        · have hrlb : ((ra.length : Int) != (rb.length : Int)) = false := by simp only [bne_eq_false_iff_eq]; omega
          have HRL := Lib.hid hrl
          have hrll : ra.length ≤ rb.length := by omega
          clear hrl
          go_wp2
          go_quiet (fail)
          go_wp2
          generalize hwq : wr.drewN nq = wq
          have hbq : Below wr.heap.size wr wq := by rw [← hwq]; exact below_drewN (Below.refl _ wr) nq
          have HBQ := Lib.hid hbq; have HBL := Lib.hid hbel
          have HCC := Lib.hid (And.intro hc hc')
          clear hwq hbq hbel hc hc'
          go_loopw [6] (fun i wr2 => ∃ m : Nat, m ≤ ra.length ∧ i = .int .i64 m ∧ Hid ((∀ j, j < m → ra.getD j 0 = rb.getD j 0) ∧ Below wr.heap.size wr wr2)) (fun i _ => ra.length - (intOf i).toNat)
          case atStart => exact ⟨0, Nat.zero_le _, rfl, fun j hj => absurd hj (by omega), HBQ.out⟩
          case round =>
            rename_i wr2 _
            obtain ⟨m, hm, rfl, HM⟩ := hrel
            have hc2 := (HM.out.2.cell (p := ⟨g, off + k, none⟩) hgs).trans HCC.out.1
            have hc2' := (HM.out.2.cell (p := ⟨g', off' + k, none⟩) hgs').trans HCC.out.2
            by_cases hmlt : m < ra.length
            · obtain ⟨g3, off3, rfl, hg3, hx3, _⟩ := HX.out.1.cell hmlt
              obtain ⟨g4, off4, rfl, hg4, hx4, _⟩ := HX.out.2.cell (show m < rb.length by omega)
              rw [← HM.out.2.cell (p := ⟨g3, off3 + m, none⟩) hg3] at hx3
              rw [← HM.out.2.cell (p := ⟨g4, off4 + m, none⟩) hg4] at hx4
              obtain ⟨x, hxx⟩ : ∃ x, ra.getD m 0 = x := ⟨_, rfl⟩
              obtain ⟨y, hyy⟩ : ∃ y, rb.getD m 0 = y := ⟨_, rfl⟩
              rw [hxx] at hx3
              rw [hyy] at hx4
              have HXX := Lib.hid (And.intro hxx hyy); clear hxx hyy
              have hm0 : (0 : Int) ≤ (m : Int) := by omega
              have hm1 : (m : Int) < (ra.length : Int) := by omega
              have hm2 : (m : Int) < (rb.length : Int) := by omega
              by_cases hq : x = y
              · have hqb : (x != y) = false := by simp [hq]
                have HQ := Lib.hid hq; clear hq
                go_wp2
                go_quiet (fail)
                go_wp2
                go_roundw
                case rel => exact ⟨m + 1, by omega, by go_num, fun j hj => by
                  by_cases h : j = m
                  · rw [h, HXX.out.1, HXX.out.2]; exact HQ.out
                  · exact HM.out.1 j (by omega), below_drewN HM.out.2 _⟩
                case measure => simp [intOf]; omega
              · have hqb : (x != y) = true := by simpa using hq
                have HQ := Lib.hid (show decide (la = lb) = false by simp only [decide_eq_false_iff_not]; exact fun h => hq (by rw [← HXX.out.1, ← HXX.out.2, ← HRA.out, ← HRB.out, h])); clear hq
                go_wp2
                go_quiet (fail)
                go_wp2
                go_ret
                exact ⟨ret_bool HQ.out.symm, HBL.out.trans (below_drewN (HM.out.2.mono HBL.out.size) _)⟩
            · have HQ := Lib.hid (show la.getD k [] = lb.getD k [] by rw [HRA.out, HRB.out]; exact list_eq_of HRL.out (fun j hj => HM.out.1 j (by omega)))
              have HB9 := Lib.hid (HBL.out.trans (HM.out.2.mono HBL.out.size))
              go_wp2
              go_roundw
              case rel => exact ⟨k + 1, by omega, by go_num, fun j hj => by
                by_cases h : j = k
                · rw [h]; exact HQ.out
                · exact HE.out j (by omega), HB9.out⟩
              case measure => simp [intOf]; omega
        · have hrlb : ((ra.length : Int) != (rb.length : Int)) = true := by simp only [bne_iff_ne]; omega
          have HQ := Lib.hid (show decide (la = lb) = false by simp only [decide_eq_false_iff_not]; exact fun h => hrl (by rw [← HRA.out, ← HRB.out, h]))
          clear hrl
          go_wp2
          go_quiet (fail)
          go_wp2
          go_ret
          exact ⟨ret_bool HQ.out.symm, below_drewN hbel _⟩
      · have HQ := Lib.hid (show decide (la = lb) = true by simp only [decide_eq_true_eq]; exact rows_eq_of HN.out (fun j hj => HE.out j (by omega)))
        go_wp2
        go_ret
        exact ⟨ret_bool HQ.out.symm, hbel⟩
  · have HV := Lib.hid (show decide (la = lb) = false by simp; exact fun h => hn (by rw [h]))
    have hnb : ((la.length : Int) != (lb.length : Int)) = true := by simp only [bne_iff_ne]; omega
    clear hn
    go_enter Try.func39, Try.ntmps39
    go_wp2
    go_ret
    exact ⟨ret_bool HV.out.symm, Below.refl _ _⟩

end Go.Proofs.Ytjcgommdeplbbaa
