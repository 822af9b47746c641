/- The product of matrices, of the reference: l3Multiply. -/
import Derived.Test.YtmcjgaffecimlaaMul
namespace Go.Proofs.Ytmcjgaffecimlaa
open Go.RowKit
set_option linter.unusedVariables false
set_option linter.unusedSimpArgs false

/-- row by row, a matrix is laid: i rows and k numbers of the next one -/
def rwF (f : Nat → Nat → Int) (i k i' k' : Nat) : Int := if i' < i ∨ i' = i ∧ k' < k then f i' k' else 0
theorem rw_zero (r c : Nat) (f : Nat → Nat → Int) : matL r c (rwF f 0 0) = List.replicate (r * c) 0 := by
  rw [← matL_zero]
  apply matL_congr
  intro i k _ _
  unfold rwF
  rw [if_neg (by omega)]
theorem rw_step {r c i k : Nat} {f : Nat → Nat → Int} (hi : i < r) (hk : k < c) : (matL r c (rwF f i k)).set (i * c + k) (f i k) = matL r c (rwF f i (k + 1)) := by
  rw [matL_set _ hi hk]
  apply matL_congr
  intro i' k' _ _
  unfold rwF
  by_cases h : i' = i ∧ k' = k
  · obtain ⟨rfl, rfl⟩ := h
    rw [if_pos ⟨rfl, rfl⟩, if_pos (by omega)]
  · rw [if_neg h]
    by_cases h2 : i' < i ∨ i' = i ∧ k' < k
    · rw [if_pos h2, if_pos (by omega)]
    · rw [if_neg h2, if_neg (by omega)]
theorem rw_next {r c i : Nat} {f : Nat → Nat → Int} : matL r c (rwF f i c) = matL r c (rwF f (i + 1) 0) := by
  apply matL_congr
  intro i' k' _ h1
  unfold rwF
  by_cases h : i' < i + 1
  · rw [if_pos (by omega), if_pos (by omega)]
  · rw [if_neg (by omega), if_neg (by omega)]
theorem rw_done {r c : Nat} {f : Nat → Nat → Int} : matL r c (rwF f r 0) = matL r c f := by
  apply matL_congr
  intro i' k' h _
  unfold rwF
  rw [if_pos (by omega)]

set_option maxRecDepth 100000 in
set_option maxHeartbeats 8000000 in
theorem s_l3Multiply (p : Int) (ra ca cb : Nat) (va vb : Value) (la lb : List Int) (w : World) (hF : isF p = true) (ha : Ints w va la) (hb : Ints w vb lb) (hla : la.length = ra * ca) (hlb : lb.length = ca * cb)
    (ha4 : ∀ t, 0 ≤ la.getD t 0 ∧ la.getD t 0 ≤ 4) (hb4 : ∀ t, 0 ≤ lb.getD t 0 ∧ lb.getD t 0 ≤ 4) (h8a : ra ≤ 8) (h8b : ca ≤ 8) (h8c : cb ≤ 8) :
    Calls Try.prog 80 #[.int .i64 p, .agg #[.int .i64 ra, .int .i64 ca, va], .agg #[.int .i64 ca, .int .i64 cb, vb]] w (MatNew ra cb (mulL p ra ca cb la lb) w) := by
  have hlta := Lib.hid ha.lt; have hltb := Lib.hid hb.lt
  obtain ⟨aa, capa, rfl, hlca, hcma⟩ := ha.shape
  obtain ⟨ab, capb, rfl, hlcb, hcmb⟩ := hb.shape
  have M := Lib.hid (((((MB.start w).addI ha).addI hb).alloc #[.int .i64 ra, .int .i64 ca, .slice aa la.length capa] 26).alloc #[.int .i64 ca, .int .i64 cb, .slice ab lb.length capb] 26)
  have HLA := Lib.hid hla; have HLB := Lib.hid hlb; have HA4 := Lib.hid ha4; have HB4 := Lib.hid hb4; have HF := Lib.hid hF
  obtain ⟨N, hN⟩ : ∃ N, N = ra * cb := ⟨_, rfl⟩
  have hN64 : N ≤ 64 := by rw [hN]; exact Nat.mul_le_mul h8a h8c
  have HNN := Lib.hid hN
  clear ha hb hla hlb ha4 hb4 hN hF
  obtain ⟨p0, p1, p2⟩ := blk3 M.out.b1
  obtain ⟨r0, r1, r2⟩ := blk3 M.out.b0
  simp only [World.size_alloc] at r0 r1 r2
  go_enter Try.func80, Try.ntmps80
  go_wp2_with fail
  refine (s_l3Zero ra cb (by omega) (by omega) _).mono ?_; rintro e w1 ⟨u, rfl, hu, hf, b1⟩
  have M1 := M.out.call (((Below.refl _ _).alloc (Nat.le_refl _) (.cells #[.int .i64 0, .int .i64 0, .slice none 0 0] 26)).trans (b1.mono (by simp)))
  have hr1 : Blk w1 (w.heap.size + 2) #[.int .i64 0, .int .i64 0, .slice none 0 0] 26 := by
    have h := (Blk.new ((w.alloc (.cells #[.int .i64 ra, .int .i64 ca, .slice aa la.length capa] 26)).alloc (.cells #[.int .i64 ca, .int .i64 cb, .slice ab lb.length capb] 26)) #[.int .i64 0, .int .i64 0, .slice none 0 0] 26).below b1
    simp only [World.size_alloc] at h
    exact h
  simp only [World.size_alloc] at M1
  rw [← HNN.out] at hu
  obtain ⟨a, cap, rfl, hlc, hcm⟩ := hu.shape
  rw [List.length_replicate] at *
  have hub := Lib.hid (fun q hq => (⟨by have := hf q hq; simp only [World.size_alloc] at this; omega, hu.lt q hq⟩ : w.heap.size + 3 ≤ q ∧ q < w1.heap.size))
  have M2 := Lib.hid ((M1.addB hr1).alloc #[.int .i64 ra, .int .i64 cb, .slice a N cap] 26)
  have hu2 := Lib.hid (hu.below ((Below.refl _ w1).alloc (Nat.le_refl _) (.cells #[.int .i64 ra, .int .i64 cb, .slice a N cap] 26)))
  have hlt1 := hr1.lt
  clear hu hr1 b1 hf M1 p0 p1 p2 r0 r1 r2
  obtain ⟨p0, p1, p2⟩ := blk3 M2.out.b3
  go_wp2
  go_loopw [8] (fun v wr => ∃ k : Nat, k ≤ ra ∧ v = .int .i64 k ∧ Ints wr (.slice a N cap) (matL ra cb (rwF (fun i' k' => mulF p ca cb la lb ca i' k') k 0)) ∧ MB w [(.slice ab lb.length capb, lb), (.slice aa la.length capa, la)] [(w1.heap.size, #[.int .i64 ra, .int .i64 cb, .slice a N cap], 26), (w.heap.size + 2, #[.int .i64 0, .int .i64 0, .slice none 0 0], 26), (w.heap.size + 1, #[.int .i64 ca, .int .i64 cb, .slice ab lb.length capb], 26), (w.heap.size, #[.int .i64 ra, .int .i64 ca, .slice aa la.length capa], 26)] wr) (fun v _ => ra - (intOf v).toNat)
  case atStart => exact ⟨0, Nat.zero_le _, rfl, by rw [rw_zero, ← HNN.out]; exact hu2.out, M2.out⟩
  case round =>
    obtain ⟨i, hi, rfl, hV, hm⟩ := hrel
    have HM := Lib.hid hm; have HV := Lib.hid hV
    clear p0 p1 p2 hm hV
    obtain ⟨p0, p1, p2⟩ := blk3 HM.out.b3
    by_cases hlt : i < ra
    · go_wp2
      obtain ⟨wo, rfl⟩ : ∃ wo : World, wo = wr := ⟨_, rfl⟩
      go_loopw [9] (fun v wr => ∃ k : Nat, k ≤ cb ∧ v = .int .i64 k ∧ Ints wr (.slice a N cap) (matL ra cb (rwF (fun i' k' => mulF p ca cb la lb ca i' k') i k)) ∧ MB w [(.slice ab lb.length capb, lb), (.slice aa la.length capa, la)] [(w1.heap.size, #[.int .i64 ra, .int .i64 cb, .slice a N cap], 26), (w.heap.size + 2, #[.int .i64 0, .int .i64 0, .slice none 0 0], 26), (w.heap.size + 1, #[.int .i64 ca, .int .i64 cb, .slice ab lb.length capb], 26), (w.heap.size, #[.int .i64 ra, .int .i64 ca, .slice aa la.length capa], 26)] wr) (fun v _ => cb - (intOf v).toNat)
      case atStart => exact ⟨0, Nat.zero_le _, rfl, HV.out, HM.out⟩
      case round =>
        obtain ⟨k, hk, rfl, hV, hm⟩ := hrel
        have HM' := Lib.hid hm; have HV' := Lib.hid hV
        clear p0 p1 p2 hm hV
        obtain ⟨p0, p1, p2⟩ := blk3 HM'.out.b3
        obtain ⟨r0, r1, r2⟩ := blk3 HM'.out.b2
        by_cases hltk : k < cb
        · go_wp2
          obtain ⟨wo, rfl⟩ : ∃ wo : World, wo = wr := ⟨_, rfl⟩
          go_loopw [10, 11] (fun sv v wr => ∃ j : Nat, j ≤ ca ∧ v = .int .i64 j ∧ sv = .int .i64 (sumTo (fun t => la.getD (i * ca + t) 0 * lb.getD (t * cb + k) 0) j) ∧ Ints wr (.slice a N cap) (matL ra cb (rwF (fun i' k' => mulF p ca cb la lb ca i' k') i k)) ∧ MB w [(.slice ab lb.length capb, lb), (.slice aa la.length capa, la)] [(w1.heap.size, #[.int .i64 ra, .int .i64 cb, .slice a N cap], 26), (w.heap.size + 2, #[.int .i64 0, .int .i64 0, .slice none 0 0], 26), (w.heap.size + 1, #[.int .i64 ca, .int .i64 cb, .slice ab lb.length capb], 26), (w.heap.size, #[.int .i64 ra, .int .i64 ca, .slice aa la.length capa], 26)] wr) (fun _ v _ => ca - (intOf v).toNat)
          case atStart => exact ⟨0, Nat.zero_le _, rfl, rfl, HV'.out, HM'.out⟩
          case round =>
            obtain ⟨j, hj, rfl, rfl, hV, hm⟩ := hrel
            clear p0 p1 p2 r0 r1 r2
            obtain ⟨p0, p1, p2⟩ := blk3 hm.b3
            obtain ⟨r0, r1, r2⟩ := blk3 hm.b2
            have hsum := sumTo_bd (f := fun t => la.getD (i * ca + t) 0 * lb.getD (t * cb + k) 0) (n := j) (M := 16) (fun t _ => by
              have h1 := HA4.out (i * ca + t); have h2 := HB4.out (t * cb + k)
              have h3 := Int.mul_le_mul h1.2 h2.2 h2.1 (by omega)
              exact ⟨Int.mul_nonneg h1.1 h2.1, by omega⟩)
            obtain ⟨S, hS⟩ : ∃ S, sumTo (fun t => la.getD (i * ca + t) 0 * lb.getD (t * cb + k) 0) j = S := ⟨_, rfl⟩
            have HS := Lib.hid hS
            rw [hS] at hsum ⊢
            obtain ⟨hs0, hs1⟩ := hsum
            have hs2 : S ≤ 128 := by have : (j : Int) * 16 ≤ 8 * 16 := by omega
                                     omega
            clear hS
            by_cases hltj : j < ca
            · have hat1 := mat_at hlt hltj
              rw [← HLA.out] at hat1
              have hat2 := mat_at hltj hltk
              rw [← HLB.out] at hat2
              obtain ⟨g1, o1, rfl, _, hc1, _⟩ := hm.i1.cell hat1
              obtain ⟨g2, o2, rfl, _, hc2, _⟩ := hm.i0.cell hat2
              have hx := HA4.out (i * ca + j)
              have hy := HB4.out (j * cb + k)
              obtain ⟨x, hx'⟩ : ∃ x, la.getD (i * ca + j) 0 = x := ⟨_, rfl⟩
              obtain ⟨y, hy'⟩ : ∃ y, lb.getD (j * cb + k) 0 = y := ⟨_, rfl⟩
              rw [hx'] at hc1 hx
              rw [hy'] at hc2 hy
              have HN : Hid (sumTo (fun t => la.getD (i * ca + t) 0 * lb.getD (t * cb + k) 0) (j + 1) = S + x * y) := by
                unfold Hid
                simp only [sumTo]
                rw [HS.out, hx', hy']
              have hxy := Int.mul_le_mul hx.2 hy.2 hy.1 (by omega)
              have hxy0 := Int.mul_nonneg hx.1 hy.1
              obtain ⟨q1, hq1⟩ : ∃ q, q = i * ca := ⟨_, rfl⟩
              have hm1 : (i : Int) * (ca : Int) = (q1 : Int) := by rw [hq1]; simp
              obtain ⟨q2, hq2⟩ : ∃ q, q = j * cb := ⟨_, rfl⟩
              have hm2 : (j : Int) * (cb : Int) = (q2 : Int) := by rw [hq2]; simp
              rw [← hq1] at hc1 hat1
              rw [← hq2] at hc2 hat2
              obtain ⟨z, hz⟩ : ∃ z, x * y = z := ⟨_, rfl⟩
              have HZ := Lib.hid hz
              have hb1 : la.length ≤ 64 := by rw [HLA.out]; exact Nat.mul_le_mul h8a h8b
              have hb2 : lb.length ≤ 64 := by rw [HLB.out]; exact Nat.mul_le_mul h8b h8c
              have i1 : (0 : Int) ≤ (q1 : Int) + (j : Int) := by omega
              have i2 : (q1 : Int) + (j : Int) < (la.length : Int) := by omega
              have i3 : (0 : Int) ≤ (q2 : Int) + (k : Int) := by omega
              have i4 : (q2 : Int) + (k : Int) < (lb.length : Int) := by omega
              rw [hz] at hxy hxy0
              have hw1 : IntKind.i64.wrap ((q1 : Int) + (j : Int)) = (q1 : Int) + (j : Int) := IntWalk.i64_in _ (by omega)
              have hw2 : IntKind.i64.wrap ((q2 : Int) + (k : Int)) = (q2 : Int) + (k : Int) := IntWalk.i64_in _ (by omega)
              have hw3 : IntKind.i64.wrap (q1 : Int) = (q1 : Int) := IntWalk.i64_in _ (by omega)
              have hw4 : IntKind.i64.wrap (q2 : Int) = (q2 : Int) := IntWalk.i64_in _ (by omega)
              have hw5 : IntKind.i64.wrap z = z := IntWalk.i64_in _ (by omega)
              have hw6 : IntKind.i64.wrap (S + z) = S + z := IntWalk.i64_in _ (by omega)
              have ht1 : ((q1 : Int) + (j : Int)).toNat = q1 + j := by omega
              have ht2 : ((q2 : Int) + (k : Int)).toNat = q2 + k := by omega
              have HVj := Lib.hid hV; have HMj := Lib.hid hm
              clear hV hm hx' hy' hq1 hq2
              go_wp2
              go_region_held3 (fun w' => (w'.cell? ⟨w.heap.size, 0, none⟩ = some (.int .i64 ra) ∧ w'.cell? ⟨w.heap.size, 1, none⟩ = some (.int .i64 ca) ∧ w'.cell? ⟨w.heap.size, 2, none⟩ = some (.slice (some ⟨g1, o1, none⟩) la.length capa)) ∧ (w'.cell? ⟨w.heap.size + 1, 0, none⟩ = some (.int .i64 ca) ∧ w'.cell? ⟨w.heap.size + 1, 1, none⟩ = some (.int .i64 cb) ∧ w'.cell? ⟨w.heap.size + 1, 2, none⟩ = some (.slice (some ⟨g2, o2, none⟩) lb.length capb)) ∧ w'.cell? ⟨g1, o1 + (q1 + j), none⟩ = some (.int .i64 x) ∧ w'.cell? ⟨g2, o2 + (q2 + k), none⟩ = some (.int .i64 y))
                (first | exact ⟨⟨p0, p1, p2⟩, ⟨r0, r1, r2⟩, hc1, hc2⟩ | go_keep)
                (fail)
              clear hw1 hw2 hw3 hw4 hw5 hw6 ht1 ht2
              go_wp2
              go_roundw
              case rel => exact ⟨j + 1, by omega, by go_num, by rw [HN.out, HZ.out], HVj.out.drew, HMj.out.drew⟩
              case measure => simp [intOf]; omega
            · have hj' : j = ca := by omega
              have HS' := Lib.hid (show S % p = mulF p ca cb la lb ca i k by rw [← HS.out, hj']; rfl)
              have hat := mat_at hlt hltk
              rw [← HNN.out] at hat
              obtain ⟨q, hq⟩ : ∃ q, q = i * cb := ⟨_, rfl⟩
              have hmq : (i : Int) * (cb : Int) = (q : Int) := by rw [hq]; simp
              rw [← hq] at hat
              have hix : q + k < (matL ra cb (rwF (fun i' k' => mulF p ca cb la lb ca i' k') i k)).length := by rw [matL_len, ← HNN.out]; exact hat
              obtain ⟨g, off, rfl, hgs3, hc, hfz⟩ := hV.cell hix
              obtain ⟨hst, hbk⟩ := hV.set hix (mulF p ca cb la lb ca i k)
              have hstep := rw_step (f := (fun i' k' => mulF p ca cb la lb ca i' k')) hlt hltk
              rw [← hq] at hstep
              rw [hstep, ← HS'.out] at hst
              obtain ⟨eg1, eg2⟩ := hub.out g hbk
              have HMj := Lib.hid (hm.chg ((Chg.refl (fun b => b = g) wr).setCell (p := ⟨g, off + (q + k), none⟩) rfl (.int .i64 (S % p))) (fun b e => by omega) ⟨fun b hb e => by have := hltb.out b hb; omega, fun b hb e => by have := hlta.out b hb; omega, trivial⟩ ⟨by simp only; omega, by simp only; omega, by simp only; omega, by simp only; omega, trivial⟩)
              have HST := Lib.hid hst
              obtain ⟨n0, n1, n2⟩ := blk3 hm.b0
              have K0 := Lib.hid (And.intro n2 r1)
              have K1 := Lib.hid (show (wr.setCell ⟨g, off + (q + k), none⟩ (.int .i64 (S % p))).drew.cell? ⟨w1.heap.size, 2, none⟩ = some (.slice (some ⟨g, off, none⟩) N cap) ∧ (wr.setCell ⟨g, off + (q + k), none⟩ (.int .i64 (S % p))).drew.cell? ⟨w.heap.size + 1, 1, none⟩ = some (.int .i64 cb) from ⟨HMj.out.b0.drew.cell 2, HMj.out.b2.drew.cell 1⟩)
              have i1 : (0 : Int) ≤ (q : Int) + (k : Int) := by omega
              have i2 : (q : Int) + (k : Int) < (N : Int) := by omega
              have hw1 : IntKind.i64.wrap ((q : Int) + (k : Int)) = (q : Int) + (k : Int) := IntWalk.i64_in _ (by omega)
              have hw3 : IntKind.i64.wrap (q : Int) = (q : Int) := IntWalk.i64_in _ (by omega)
              have ht1 : ((q : Int) + (k : Int)).toNat = q + k := by omega
              clear hV hm hst hbk hstep hq hj'
              go_wp2
              go_region_held3 (fun w' => w'.cell? ⟨w1.heap.size, 2, none⟩ = some (.slice (some ⟨g, off, none⟩) N cap) ∧ w'.cell? ⟨w.heap.size + 1, 1, none⟩ = some (.int .i64 cb))
                (first | exact K0.out | exact K1.out | go_keep)
                ((go_at_call 89; refine (s_l2Mod _ _ HF.out _).mono ?_; rintro e wz ⟨rfl, rfl⟩))
              clear hw1 hw3 ht1
              go_wp2
              go_roundw
              case rel => exact ⟨k + 1, by omega, by go_num, HST.out.drew, HMj.out.drew⟩
              case measure => simp [intOf]; omega
        · have hk' : k = cb := by omega
          have hi' := HV'.out
          rw [hk', rw_next] at hi'
          have HI' := Lib.hid hi'
          clear hi' hk'
          go_wp2
          go_roundw
          case rel => exact ⟨i + 1, by omega, by go_num, HI'.out, HM'.out⟩
          case measure => simp [intOf]; omega
    · have hk' : i = ra := by omega
      have hi' := HV.out
      rw [hk', rw_done] at hi'
      obtain ⟨m0, m1, m2⟩ := blk3 HM.out.b0
      obtain ⟨q0, q1, q2⟩ := blk3 HM.out.b1
      obtain ⟨f0, f1, f2⟩ := frz3 HM.out.b1
      have hB := set3_blk HM.out.b1 (.int .i64 ra) (.int .i64 cb) (.slice a N cap)
      have hV3 := set3_ints hi' (b := w.heap.size + 2) (fun q hq => by have := (hub.out q hq).1; omega) (.int .i64 ra) (.int .i64 cb) (.slice a N cap)
      have hb3 := set3_below HM.out.bel (b := w.heap.size + 2) (by omega) (.int .i64 ra) (.int .i64 cb) (.slice a N cap)
      unfold set3 at hB hV3 hb3
      have H3 := Lib.hid hV3; have HB3 := Lib.hid hb3; have HK := Lib.hid hB
      clear hV3 hb3 hB hi' hk'
      go_wp2
      refine bodyPost_ret (v := .agg #[.int .i64 ra, .int .i64 cb, .slice a N cap]) (by simp [results, Try.results80, go_sem, HK.out.cell 0, HK.out.cell 1, HK.out.cell 2]) rfl ⟨_, rfl, H3.out, ?_, HB3.out⟩
      exact fun q hq => by have := (hub.out q hq).1; omega

end Go.Proofs.Ytmcjgaffecimlaa
