/- l3Block of the reference: two matrices on the diagonal. -/
import Derived.Test.YtmcjgaffecimlaaBlk
import Derived.Test.YtmcjgaffecimlaaTr
namespace Go.Proofs.Ytmcjgaffecimlaa
open Go.RowKit
set_option linter.unusedVariables false
set_option linter.unusedSimpArgs false

set_option maxRecDepth 100000 in
set_option maxHeartbeats 4000000 in
theorem s_l3Block (ra ca rb cb : Nat) (va vb : Value) (la lb : List Int) (w : World) (ha : Ints w va la) (hb : Ints w vb lb) (hla : la.length = ra * ca) (hlb : lb.length = rb * cb) (hr8 : ra + rb ≤ 8) (hc8 : ca + cb ≤ 8) :
    Calls Try.prog 28 #[.agg #[.int .i64 ra, .int .i64 ca, va], .agg #[.int .i64 rb, .int .i64 cb, vb]] w (MatNew (ra + rb : Nat) (ca + cb : Nat) (blkL ra ca rb cb la lb) w) := by
  have hlta := Lib.hid ha.lt; have hltb := Lib.hid hb.lt
  obtain ⟨av, cpa, rfl, hlca, hmca⟩ := ha.shape
  obtain ⟨bv, cpb, rfl, hlcb, hmcb⟩ := hb.shape
  have HLA := Lib.hid hla; have HLB := Lib.hid hlb
  have M := Lib.hid ((((MB.start w).addI ha).addI hb).alloc #[.int .i64 ra, .int .i64 ca, .slice av la.length cpa] 26 |>.alloc #[.int .i64 rb, .int .i64 cb, .slice bv lb.length cpb] 26)
  obtain ⟨R, hR⟩ : ∃ R, R = ra + rb := ⟨_, rfl⟩
  obtain ⟨C, hC⟩ : ∃ C, C = ca + cb := ⟨_, rfl⟩
  rw [← hR, ← hC]
  have hR8 : R ≤ 8 := by omega
  have hC8 : C ≤ 8 := by omega
  have hwR : IntKind.i64.wrap ((ra : Int) + (rb : Int)) = (R : Int) := by rw [IntWalk.i64_in _ (by omega)]; omega
  have hwC : IntKind.i64.wrap ((ca : Int) + (cb : Int)) = (C : Int) := by rw [IntWalk.i64_in _ (by omega)]; omega
  obtain ⟨N, hN⟩ : ∃ N, N = R * C := ⟨_, rfl⟩
  have hN64 : N ≤ 64 := by rw [hN]; exact Nat.mul_le_mul hR8 hC8
  have HNN := Lib.hid hN
  have HR := Lib.hid hR; have HC := Lib.hid hC
  have kra : ra ≤ R := by omega
  have kca : ca ≤ C := by omega
  clear ha hb hla hlb hN hR hC
  have m0 := M.out.b0.cell 0; have m1 := M.out.b0.cell 1; have n0 := M.out.b1.cell 0; have n1 := M.out.b1.cell 1
  go_enter Try.func28, Try.ntmps28
  go_wp2_with fail
  refine (s_l3Zero R C (by omega) (by omega) _).mono ?_; rintro e w1 ⟨u, rfl, hu, hf, b1⟩
  clear hwR hwC m0 m1 n0 n1
  have M1 := M.out.call (((Below.refl _ _).alloc (Nat.le_refl _) (.cells #[.int .i64 0, .int .i64 0, .slice none 0 0] 26)).trans (b1.mono (by simp)))
  have hr1 : Blk w1 (w.heap.size + 2) #[.int .i64 0, .int .i64 0, .slice none 0 0] 26 := by
    have h := (Blk.new ((w.alloc (.cells #[.int .i64 ra, .int .i64 ca, .slice av la.length cpa] 26)).alloc (.cells #[.int .i64 rb, .int .i64 cb, .slice bv lb.length cpb] 26)) #[.int .i64 0, .int .i64 0, .slice none 0 0] 26).below b1
    rw [World.size_alloc, World.size_alloc] at h
    exact h
  have hlt1 := hr1.lt
  rw [← HNN.out] at hu
  obtain ⟨a, cap, rfl, hlc, hcm⟩ := hu.shape
  rw [List.length_replicate] at *
  have h2 : Below w1.heap.size w1 (w1.alloc (.cells #[.int .i64 R, .int .i64 C, .slice a N cap] 26)) := (Below.refl _ w1).alloc (Nat.le_refl _) _
  have hu2 := Lib.hid (hu.below h2)
  have hr2 := Lib.hid (hr1.below h2)
  have hs2 := Lib.hid (Blk.new w1 #[.int .i64 R, .int .i64 C, .slice a N cap] 26)
  have M2 := M1.call h2
  simp only [World.size_alloc] at M2
  have M2 := Lib.hid M2
  have hub := Lib.hid (fun q hq => (⟨by have := hf q hq; simp only [World.size_alloc] at this; omega, hu.lt q hq⟩ : w.heap.size + 3 ≤ q ∧ q < w1.heap.size))
  clear hu h2 hr1 b1 hf M1
  have m0 := M2.out.b1.cell 0; have m1 := M2.out.b1.cell 1
  go_wp2
  go_loopw [6] (fun i wr => ∃ k : Nat, k ≤ ra ∧ i = .int .i64 k ∧ Ints wr (.slice a N cap) (matL R C (bkA ca la k 0)) ∧ Blk wr w1.heap.size #[.int .i64 R, .int .i64 C, .slice a N cap] 26 ∧ Blk wr (w.heap.size + 2) #[.int .i64 0, .int .i64 0, .slice none 0 0] 26 ∧ MB w [(.slice bv lb.length cpb, lb), (.slice av la.length cpa, la)] [(w.heap.size + 1, #[.int .i64 rb, .int .i64 cb, .slice bv lb.length cpb], 26), (w.heap.size, #[.int .i64 ra, .int .i64 ca, .slice av la.length cpa], 26)] wr) (fun i _ => ra - (intOf i).toNat)
  case atStart => exact ⟨0, Nat.zero_le _, rfl, by rw [bkA_zero, ← HNN.out]; exact hu2.out, hs2.out, hr2.out, M2.out⟩
  case round =>
    obtain ⟨k, hk, rfl, hi, hs, hr, hm⟩ := hrel
    have HI := Lib.hid hi; have HS := Lib.hid hs; have HRR := Lib.hid hr; have HM := Lib.hid hm
    clear m0 m1
    obtain ⟨m0, m1, m2⟩ := blk3 HM.out.b1
    by_cases hlt : k < ra
    · clear hi hs hr hm
      go_wp2
      obtain ⟨wo, rfl⟩ : ∃ wo : World, wo = wr := ⟨_, rfl⟩
      go_loopw [7] (fun i wr => ∃ j : Nat, j ≤ ca ∧ i = .int .i64 j ∧ Ints wr (.slice a N cap) (matL R C (bkA ca la k j)) ∧ Blk wr w1.heap.size #[.int .i64 R, .int .i64 C, .slice a N cap] 26 ∧ Blk wr (w.heap.size + 2) #[.int .i64 0, .int .i64 0, .slice none 0 0] 26 ∧ MB w [(.slice bv lb.length cpb, lb), (.slice av la.length cpa, la)] [(w.heap.size + 1, #[.int .i64 rb, .int .i64 cb, .slice bv lb.length cpb], 26), (w.heap.size, #[.int .i64 ra, .int .i64 ca, .slice av la.length cpa], 26)] wr) (fun i _ => ca - (intOf i).toNat)
      case atStart => exact ⟨0, Nat.zero_le _, rfl, HI.out, HS.out, HRR.out, HM.out⟩
      case round =>
        obtain ⟨j, hj, rfl, hi, hs, hr, hm⟩ := hrel
        clear m0 m1 m2
        by_cases hltj : j < ca
        · have HRE := HR.out; have HCE := HC.out
          have hat := mat_at (show k < R by omega) (show j < C by omega)
          obtain ⟨q, hq⟩ : ∃ q, q = k * C := ⟨_, rfl⟩
          have hmq : (k : Int) * (C : Int) = (q : Int) := by rw [hq]; simp
          rw [← HNN.out, ← hq] at hat
          clear HRE HCE
          have hat2 := mat_at hlt hltj
          rw [← HLA.out] at hat2
          obtain ⟨q2, hq2⟩ : ∃ q, q = k * ca := ⟨_, rfl⟩
          have hmq2 : (k : Int) * (ca : Int) = (q2 : Int) := by rw [hq2]; simp
          rw [← hq2] at hat2
          have hix : q + j < (matL R C (bkA ca la k j)).length := by rw [matL_len, ← HNN.out]; exact hat
          obtain ⟨g, off, rfl, hgs3, hc, hfz⟩ := hi.cell hix
          obtain ⟨hst, hbk⟩ := hi.set hix (la.getD (k * ca + j) 0)
          have hstep := bkA_step (R := R) (C := C) (la := la) (show k < R by omega) kca hltj
          rw [← hq] at hstep
          rw [hstep, ← hq2] at hst
          obtain ⟨gv, ov, rfl, hgv, hcv, _⟩ := hm.i1.cell hat2
          obtain ⟨x, hx⟩ : ∃ x, la.getD (q2 + j) 0 = x := ⟨_, rfl⟩
          rw [hx] at hcv hst
          obtain ⟨hg1, hg2⟩ := hub.out g hbk
          obtain ⟨n0, n1, n2⟩ := blk3 hs
          obtain ⟨m0, m1, m2⟩ := blk3 hm.b1
          obtain ⟨p0, p1, p2⟩ := blk3 hm.b0
          have hgv2 : gv < w.heap.size := hlta.out gv (by
            have : 0 < la.length := by omega
            obtain ⟨z, hz⟩ : ∃ z, la.length = z + 1 := ⟨la.length - 1, by omega⟩
            rw [hz]; rfl)
          have HST := Lib.hid hst
          have HS' := Lib.hid (hs.setOther (p := ⟨g, off + (q + j), none⟩) (by simp; omega) (.int .i64 x))
          have HR' := Lib.hid (hr.setOther (p := ⟨g, off + (q + j), none⟩) (by simp; omega) (.int .i64 x))
          have HM' := Lib.hid (hm.chg ((Chg.refl (fun b => b = g) wr).setCell (p := ⟨g, off + (q + j), none⟩) rfl (.int .i64 x)) (fun b e => by omega) ⟨fun b hb e => by have := hltb.out b hb; omega, fun b hb e => by have := hlta.out b hb; omega, trivial⟩ ⟨by omega, by omega, trivial⟩)
          have HC' := Lib.hid (show (wr.setCell ⟨g, off + (q + j), none⟩ (.int .i64 x)).cell? ⟨gv, ov + (q2 + j), none⟩ = some (.int .i64 x) by rw [World.cell?_setCell_other _ _ _ _ (fun e => by have := congrArg Addr.block e; simp only at this; omega)]; exact hcv)
          have HKp := Lib.hid (show (wr.setCell ⟨g, off + (q + j), none⟩ (.int .i64 x)).drew.cell? ⟨w.heap.size, 0, none⟩ = some (.int .i64 ra) ∧ (wr.setCell ⟨g, off + (q + j), none⟩ (.int .i64 x)).drew.cell? ⟨w.heap.size, 1, none⟩ = some (.int .i64 ca) ∧ (wr.setCell ⟨g, off + (q + j), none⟩ (.int .i64 x)).drew.cell? ⟨w.heap.size, 2, none⟩ = some (.slice (some ⟨gv, ov, none⟩) la.length cpa) ∧ (wr.setCell ⟨g, off + (q + j), none⟩ (.int .i64 x)).drew.cell? ⟨w1.heap.size, 1, none⟩ = some (.int .i64 C) ∧ (wr.setCell ⟨g, off + (q + j), none⟩ (.int .i64 x)).drew.cell? ⟨w1.heap.size, 2, none⟩ = some (.slice (some ⟨g, off, none⟩) N cap) ∧ (wr.setCell ⟨g, off + (q + j), none⟩ (.int .i64 x)).drew.cell? ⟨gv, ov + (q2 + j), none⟩ = some (.int .i64 x) from
            ⟨HM'.out.b1.drew.cell 0, HM'.out.b1.drew.cell 1, HM'.out.b1.drew.cell 2, HS'.out.drew.cell 1, HS'.out.drew.cell 2, cell_drew HC'.out⟩)
          have hj0 : (0 : Int) ≤ (j : Int) := by omega
          have i1 : (0 : Int) ≤ (q : Int) + (j : Int) := by omega
          have i2 : (q : Int) + (j : Int) < (N : Int) := by omega
          have i3 : (0 : Int) ≤ (q2 : Int) + (j : Int) := by omega
          have i4 : (q2 : Int) + (j : Int) < (la.length : Int) := by omega
          have hw1 : IntKind.i64.wrap ((q : Int) + (j : Int)) = (q : Int) + (j : Int) := IntWalk.i64_in _ (by omega)
          have hw2 : IntKind.i64.wrap ((q2 : Int) + (j : Int)) = (q2 : Int) + (j : Int) := IntWalk.i64_in _ (by omega)
          have hw3 : IntKind.i64.wrap (q : Int) = (q : Int) := IntWalk.i64_in _ (by omega)
          have hw4 : IntKind.i64.wrap (q2 : Int) = (q2 : Int) := IntWalk.i64_in _ (by omega)
          have ht1 : ((q : Int) + (j : Int)).toNat = q + j := by omega
          have ht2 : ((q2 : Int) + (j : Int)).toNat = q2 + j := by omega
          clear hst hbk hstep hs hr hi hq hq2 hm hx
          go_wp2
          go_region_held3 (fun w' => w'.cell? ⟨w.heap.size, 0, none⟩ = some (.int .i64 ra) ∧ w'.cell? ⟨w.heap.size, 1, none⟩ = some (.int .i64 ca) ∧ w'.cell? ⟨w.heap.size, 2, none⟩ = some (.slice (some ⟨gv, ov, none⟩) la.length cpa) ∧ w'.cell? ⟨w1.heap.size, 1, none⟩ = some (.int .i64 C) ∧ w'.cell? ⟨w1.heap.size, 2, none⟩ = some (.slice (some ⟨g, off, none⟩) N cap) ∧ w'.cell? ⟨gv, ov + (q2 + j), none⟩ = some (.int .i64 x))
            (first
              | exact HKp.out
              | go_keep)
            (fail)
          clear hw1 hw2 hw3 hw4 ht1 ht2
          go_wp2
          go_roundw
          case rel => exact ⟨j + 1, by omega, by go_num, HST.out, HS'.out, HR'.out, HM'.out.drew⟩
          case measure => simp [intOf]; omega
        · have hj' : j = ca := by omega
          rw [hj', bkA_next] at hi
          have HI' := Lib.hid hi; have HS' := Lib.hid hs; have HR' := Lib.hid hr; have HM' := Lib.hid hm
          obtain ⟨m0, m1, m2⟩ := blk3 hm.b1
          clear hi hs hr hm hj'
          go_wp2
          go_roundw
          case rel => exact ⟨k + 1, by omega, by go_num, HI'.out, HS'.out, HR'.out, HM'.out⟩
          case measure => simp [intOf]; omega
    · have hk' : k = ra := by omega
      rw [hk', bkA_done (cb := cb) (lb := lb)] at hi
      have HI0 := Lib.hid hi; have HS0 := Lib.hid hs; have HR0 := Lib.hid hr; have HM0 := Lib.hid hm
      clear m0 m1 m2
      obtain ⟨m0, m1, m2⟩ := blk3 hm.b1
      clear hi hs hr hm hk' HI HS HRR HM
      go_wp2
      go_loopw [8] (fun i wr => ∃ k : Nat, k ≤ rb ∧ i = .int .i64 k ∧ Ints wr (.slice a N cap) (matL R C (bkB ra ca cb la lb k 0)) ∧ Blk wr w1.heap.size #[.int .i64 R, .int .i64 C, .slice a N cap] 26 ∧ Blk wr (w.heap.size + 2) #[.int .i64 0, .int .i64 0, .slice none 0 0] 26 ∧ MB w [(.slice bv lb.length cpb, lb), (.slice av la.length cpa, la)] [(w.heap.size + 1, #[.int .i64 rb, .int .i64 cb, .slice bv lb.length cpb], 26), (w.heap.size, #[.int .i64 ra, .int .i64 ca, .slice av la.length cpa], 26)] wr) (fun i _ => rb - (intOf i).toNat)
      case atStart => exact ⟨0, Nat.zero_le _, rfl, HI0.out, HS0.out, HR0.out, HM0.out⟩
      case round =>
        obtain ⟨k, hk, rfl, hi, hs, hr, hm⟩ := hrel
        have HI := Lib.hid hi; have HS := Lib.hid hs; have HRR := Lib.hid hr; have HM := Lib.hid hm
        clear m0 m1 m2
        obtain ⟨m0, m1, m2⟩ := blk3 HM.out.b0
        by_cases hlt : k < rb
        · clear hi hs hr hm
          go_wp2
          obtain ⟨wo, rfl⟩ : ∃ wo : World, wo = wr := ⟨_, rfl⟩
          go_loopw [9] (fun i wr => ∃ j : Nat, j ≤ cb ∧ i = .int .i64 j ∧ Ints wr (.slice a N cap) (matL R C (bkB ra ca cb la lb k j)) ∧ Blk wr w1.heap.size #[.int .i64 R, .int .i64 C, .slice a N cap] 26 ∧ Blk wr (w.heap.size + 2) #[.int .i64 0, .int .i64 0, .slice none 0 0] 26 ∧ MB w [(.slice bv lb.length cpb, lb), (.slice av la.length cpa, la)] [(w.heap.size + 1, #[.int .i64 rb, .int .i64 cb, .slice bv lb.length cpb], 26), (w.heap.size, #[.int .i64 ra, .int .i64 ca, .slice av la.length cpa], 26)] wr) (fun i _ => cb - (intOf i).toNat)
          case atStart => exact ⟨0, Nat.zero_le _, rfl, HI.out, HS.out, HRR.out, HM.out⟩
          case round =>
            obtain ⟨j, hj, rfl, hi, hs, hr, hm⟩ := hrel
            clear m0 m1 m2
            by_cases hltj : j < cb
            · have HRE := HR.out; have HCE := HC.out
              have hat := mat_at (show ra + k < R by omega) (show ca + j < C by omega)
              obtain ⟨q, hq⟩ : ∃ q, q = (ra + k) * C := ⟨_, rfl⟩
              have hmq : ((ra : Int) + (k : Int)) * (C : Int) = (q : Int) := by rw [hq]; simp
              rw [← HNN.out, ← hq] at hat
              clear HRE HCE
              have hat2 := mat_at hlt hltj
              rw [← HLB.out] at hat2
              obtain ⟨q2, hq2⟩ : ∃ q, q = k * cb := ⟨_, rfl⟩
              have hmq2 : (k : Int) * (cb : Int) = (q2 : Int) := by rw [hq2]; simp
              rw [← hq2] at hat2
              have hix : q + (ca + j) < (matL R C (bkB ra ca cb la lb k j)).length := by rw [matL_len, ← HNN.out]; exact hat
              obtain ⟨g, off, rfl, hgs3, hc, hfz⟩ := hi.cell hix
              obtain ⟨hst, hbk⟩ := hi.set hix (lb.getD (k * cb + j) 0)
              have hstep := bkB_step (R := R) (C := C) (ra := ra) (ca := ca) (cb := cb) (i := k) (k := j) (la := la) (lb := lb) (by have := HR.out; omega) (by have := HC.out; omega)
              rw [← hq] at hstep
              rw [hstep, ← hq2] at hst
              obtain ⟨gv, ov, rfl, hgv, hcv, _⟩ := hm.i0.cell hat2
              obtain ⟨x, hx⟩ : ∃ x, lb.getD (q2 + j) 0 = x := ⟨_, rfl⟩
              rw [hx] at hcv hst
              obtain ⟨hg1, hg2⟩ := hub.out g hbk
              obtain ⟨n0, n1, n2⟩ := blk3 hs
              obtain ⟨m0, m1, m2⟩ := blk3 hm.b1
              obtain ⟨p0, p1, p2⟩ := blk3 hm.b0
              have hgv2 : gv < w.heap.size := hltb.out gv (by
                have : 0 < lb.length := by omega
                obtain ⟨z, hz⟩ : ∃ z, lb.length = z + 1 := ⟨lb.length - 1, by omega⟩
                rw [hz]; rfl)
              have HST := Lib.hid hst
              have HS' := Lib.hid (hs.setOther (p := ⟨g, off + (q + (ca + j)), none⟩) (by simp; omega) (.int .i64 x))
              have HR' := Lib.hid (hr.setOther (p := ⟨g, off + (q + (ca + j)), none⟩) (by simp; omega) (.int .i64 x))
              have HM' := Lib.hid (hm.chg ((Chg.refl (fun b => b = g) wr).setCell (p := ⟨g, off + (q + (ca + j)), none⟩) rfl (.int .i64 x)) (fun b e => by omega) ⟨fun b hb e => by have := hltb.out b hb; omega, fun b hb e => by have := hlta.out b hb; omega, trivial⟩ ⟨by omega, by omega, trivial⟩)
              have HC' := Lib.hid (show (wr.setCell ⟨g, off + (q + (ca + j)), none⟩ (.int .i64 x)).cell? ⟨gv, ov + (q2 + j), none⟩ = some (.int .i64 x) by rw [World.cell?_setCell_other _ _ _ _ (fun e => by have := congrArg Addr.block e; simp only at this; omega)]; exact hcv)
              have HKp := Lib.hid (show (wr.setCell ⟨g, off + (q + (ca + j)), none⟩ (.int .i64 x)).drew.cell? ⟨w.heap.size, 0, none⟩ = some (.int .i64 ra) ∧ (wr.setCell ⟨g, off + (q + (ca + j)), none⟩ (.int .i64 x)).drew.cell? ⟨w.heap.size, 1, none⟩ = some (.int .i64 ca) ∧ (wr.setCell ⟨g, off + (q + (ca + j)), none⟩ (.int .i64 x)).drew.cell? ⟨w.heap.size + 1, 1, none⟩ = some (.int .i64 cb) ∧ (wr.setCell ⟨g, off + (q + (ca + j)), none⟩ (.int .i64 x)).drew.cell? ⟨w.heap.size + 1, 2, none⟩ = some (.slice (some ⟨gv, ov, none⟩) lb.length cpb) ∧ (wr.setCell ⟨g, off + (q + (ca + j)), none⟩ (.int .i64 x)).drew.cell? ⟨w1.heap.size, 1, none⟩ = some (.int .i64 C) ∧ (wr.setCell ⟨g, off + (q + (ca + j)), none⟩ (.int .i64 x)).drew.cell? ⟨w1.heap.size, 2, none⟩ = some (.slice (some ⟨g, off, none⟩) N cap) ∧ (wr.setCell ⟨g, off + (q + (ca + j)), none⟩ (.int .i64 x)).drew.cell? ⟨gv, ov + (q2 + j), none⟩ = some (.int .i64 x) from
                ⟨HM'.out.b1.drew.cell 0, HM'.out.b1.drew.cell 1, HM'.out.b0.drew.cell 1, HM'.out.b0.drew.cell 2, HS'.out.drew.cell 1, HS'.out.drew.cell 2, cell_drew HC'.out⟩)
              have hj0 : (0 : Int) ≤ (j : Int) := by omega
              have i1 : (0 : Int) ≤ (q : Int) + (ca : Int) + (j : Int) := by omega
              have i2 : (q : Int) + (ca : Int) + (j : Int) < (N : Int) := by omega
              have i3 : (0 : Int) ≤ (q2 : Int) + (j : Int) := by omega
              have i4 : (q2 : Int) + (j : Int) < (lb.length : Int) := by omega
              have hw1 : IntKind.i64.wrap ((q : Int) + (ca : Int) + (j : Int)) = (q : Int) + (ca : Int) + (j : Int) := IntWalk.i64_in _ (by omega)
              have hw2 : IntKind.i64.wrap ((q2 : Int) + (j : Int)) = (q2 : Int) + (j : Int) := IntWalk.i64_in _ (by omega)
              have hw3 : IntKind.i64.wrap (q : Int) = (q : Int) := IntWalk.i64_in _ (by omega)
              have hw4 : IntKind.i64.wrap (q2 : Int) = (q2 : Int) := IntWalk.i64_in _ (by omega)
              have ht1 : ((q : Int) + (ca : Int) + (j : Int)).toNat = q + (ca + j) := by omega
              have ht2 : ((q2 : Int) + (j : Int)).toNat = q2 + j := by omega
              have hw5 : IntKind.i64.wrap ((ra : Int) + (k : Int)) = (ra : Int) + (k : Int) := IntWalk.i64_in _ (by omega)
              have hw6 : IntKind.i64.wrap ((q : Int) + (ca : Int)) = (q : Int) + (ca : Int) := IntWalk.i64_in _ (by omega)
              clear hst hbk hstep hs hr hi hq hq2 hm hx
              go_wp2
              go_region_held3 (fun w' => w'.cell? ⟨w.heap.size, 0, none⟩ = some (.int .i64 ra) ∧ w'.cell? ⟨w.heap.size, 1, none⟩ = some (.int .i64 ca) ∧ w'.cell? ⟨w.heap.size + 1, 1, none⟩ = some (.int .i64 cb) ∧ w'.cell? ⟨w.heap.size + 1, 2, none⟩ = some (.slice (some ⟨gv, ov, none⟩) lb.length cpb) ∧ w'.cell? ⟨w1.heap.size, 1, none⟩ = some (.int .i64 C) ∧ w'.cell? ⟨w1.heap.size, 2, none⟩ = some (.slice (some ⟨g, off, none⟩) N cap) ∧ w'.cell? ⟨gv, ov + (q2 + j), none⟩ = some (.int .i64 x))
                (first
                  | exact HKp.out
                  | go_keep)
                (fail)
              clear hw1 hw2 hw3 hw4 ht1 ht2 hw5 hw6
              go_wp2
              go_roundw
              case rel => exact ⟨j + 1, by omega, by go_num, HST.out, HS'.out, HR'.out, HM'.out.drew⟩
              case measure => simp [intOf]; omega
            · have hj' : j = cb := by omega
              rw [hj', bkB_next HC.out] at hi
              have HI' := Lib.hid hi; have HS' := Lib.hid hs; have HR' := Lib.hid hr; have HM' := Lib.hid hm
              obtain ⟨m0, m1, m2⟩ := blk3 hm.b0
              clear hi hs hr hm hj'
              go_wp2
              go_roundw
              case rel => exact ⟨k + 1, by omega, by go_num, HI'.out, HS'.out, HR'.out, HM'.out⟩
              case measure => simp [intOf]; omega
        · have hk' : k = rb := by omega
          obtain ⟨n0, n1, n2⟩ := blk3 hs
          obtain ⟨q0, q1, q2⟩ := blk3 hr
          obtain ⟨f0, f1, f2⟩ := frz3 hr
          rw [hk', bkB_done HR.out HC.out] at hi
          have hB := set3_blk hr (.int .i64 R) (.int .i64 C) (.slice a N cap)
          have hV3 := set3_ints hi (b := w.heap.size + 2) (fun q hq => by have := (hub.out q hq).1; omega) (.int .i64 R) (.int .i64 C) (.slice a N cap)
          have hb3 := set3_below hm.bel (b := w.heap.size + 2) (by omega) (.int .i64 R) (.int .i64 C) (.slice a N cap)
          unfold set3 at hB hV3 hb3
          have H3 := Lib.hid hV3; have HB3 := Lib.hid hb3; have HK := Lib.hid hB
          clear hV3 hb3 hB hi hs hr hm hk' HI HS HRR HM
          go_wp2
          refine bodyPost_ret (v := .agg #[.int .i64 R, .int .i64 C, .slice a N cap]) (by simp [results, Try.results28, go_sem, HK.out.cell 0, HK.out.cell 1, HK.out.cell 2]) rfl ⟨_, rfl, H3.out, ?_, HB3.out⟩
          exact fun q hq => by have := (hub.out q hq).1; omega

end Go.Proofs.Ytmcjgaffecimlaa
