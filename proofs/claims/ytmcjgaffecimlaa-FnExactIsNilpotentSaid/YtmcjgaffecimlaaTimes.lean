/- The product of matrices, of the program: times. -/
import Derived.Test.YtmcjgaffecimlaaMul
namespace Go.Proofs.Ytmcjgaffecimlaa
open Go.RowKit
set_option linter.unusedVariables false
set_option linter.unusedSimpArgs false

theorem rowL_zero (i : Nat) (l : List Int) : rowL 0 i l = [] := by simp [rowL]
set_option maxRecDepth 100000 in
set_option maxHeartbeats 8000000 in
theorem i_times (p : Int) (ra ca cb : Nat) (va vb : Value) (la lb : List Int) (w : World) (hp : 2 ≤ p ∧ p ≤ 5) (ha : Ints w va la) (hb : Ints w vb lb) (hla : la.length = ra * ca) (hlb : lb.length = ca * cb)
    (ha4 : ∀ t, 0 ≤ la.getD t 0 ∧ la.getD t 0 ≤ 4) (hb4 : ∀ t, 0 ≤ lb.getD t 0 ∧ lb.getD t 0 ≤ 4) (h8a : ra ≤ 8) (h8b : ca ≤ 8) (h8c : cb ≤ 8) :
    Calls Try.prog 69 #[.int .i64 p, .agg #[.int .i64 ra, .int .i64 ca, va], .agg #[.int .i64 ca, .int .i64 cb, vb]] w (MatNew ra cb (mulL p ra ca cb la lb) w) := by
  have hlta := Lib.hid ha.lt; have hltb := Lib.hid hb.lt
  obtain ⟨hp2, hp5⟩ := hp
  have HP := Lib.hid (show 2 ≤ p ∧ p ≤ 5 from ⟨hp2, hp5⟩)
  obtain ⟨aa, capa, rfl, hlca, hcma⟩ := ha.shape
  obtain ⟨ab, capb, rfl, hlcb, hcmb⟩ := hb.shape
  have M := Lib.hid (((((MB.start w).addI ha).addI hb).alloc #[.int .i64 ra, .int .i64 ca, .slice aa la.length capa] 26).alloc #[.int .i64 ca, .int .i64 cb, .slice ab lb.length capb] 26)
  have HLA := Lib.hid hla; have HLB := Lib.hid hlb; have HA4 := Lib.hid ha4; have HB4 := Lib.hid hb4
  obtain ⟨N, hN⟩ : ∃ N, N = ra * cb := ⟨_, rfl⟩
  have hN64 : N ≤ 64 := by rw [hN]; exact Nat.mul_le_mul h8a h8c
  have HNN := Lib.hid hN
  clear ha hb hla hlb ha4 hb4 hN
  obtain ⟨p0, p1, p2⟩ := blk3 M.out.b1
  obtain ⟨r0, r1, r2⟩ := blk3 M.out.b0
  simp only [World.size_alloc] at r0 r1 r2
  go_enter Try.func69, Try.ntmps69
  go_wp2_with fail
  refine (i_zero ra cb (by omega) (by omega) _).mono ?_; rintro e w1 ⟨u, rfl, hu, hf, b1⟩
  have M1 := M.out.call (((Below.refl _ _).alloc (Nat.le_refl _) (.cells #[.int .i64 0, .int .i64 0, .slice none 0 0] 26)).trans (b1.mono (by simp)))
  have hr1 : Blk w1 (w.heap.size + 2) #[.int .i64 0, .int .i64 0, .slice none 0 0] 26 := by
    have h := (Blk.new ((w.alloc (.cells #[.int .i64 ra, .int .i64 ca, .slice aa la.length capa] 26)).alloc (.cells #[.int .i64 ca, .int .i64 cb, .slice ab lb.length capb] 26)) #[.int .i64 0, .int .i64 0, .slice none 0 0] 26).below b1
    simp only [World.size_alloc] at h
    exact h
  simp only [World.size_alloc] at M1
  rw [← HNN.out] at hu
  obtain ⟨a, cap, rfl, hlc, hcm⟩ := hu.shape
  rw [List.length_replicate] at *
  have hub := Lib.hid (fun q hq => (⟨by have := hf q hq; simp only [World.size_alloc] at this; omega, hu.lt q hq⟩ : w.heap.size + 3 ≤ q ∧ q < w1.heap.size))
  have M2 := Lib.hid ((M1.addB hr1).alloc #[.int .i64 ra, .int .i64 cb, .slice a N cap] 26)
  have hu2 := Lib.hid (hu.below ((Below.refl _ w1).alloc (Nat.le_refl _) (.cells #[.int .i64 ra, .int .i64 cb, .slice a N cap] 26)))
  have hlt1 := hr1.lt
  clear hu hr1 b1 hf M1 p0 p1 p2 r0 r1 r2
  obtain ⟨p0, p1, p2⟩ := blk3 M2.out.b3
  go_wp2
  go_loopw [18] (fun i wr => ∃ k : Nat, k ≤ ra ∧ i = .int .i64 k ∧ Ints wr (.slice a N cap) (matL ra cb (mulS p ca cb la lb k 0)) ∧
      MB w [(.slice ab lb.length capb, lb), (.slice aa la.length capa, la)] [(w1.heap.size, #[.int .i64 ra, .int .i64 cb, .slice a N cap], 26), (w.heap.size + 2, #[.int .i64 0, .int .i64 0, .slice none 0 0], 26), (w.heap.size + 1, #[.int .i64 ca, .int .i64 cb, .slice ab lb.length capb], 26), (w.heap.size, #[.int .i64 ra, .int .i64 ca, .slice aa la.length capa], 26)] wr) (fun i _ => ra - (intOf i).toNat)
  case atStart => exact ⟨0, Nat.zero_le _, rfl, by rw [mul_zero_, ← HNN.out]; exact hu2.out, M2.out⟩
  case round =>
    obtain ⟨i, hi, rfl, hV, hm⟩ := hrel
    have HM := Lib.hid hm; have HV := Lib.hid hV
    clear p0 p1 p2 hm hV
    obtain ⟨p0, p1, p2⟩ := blk3 HM.out.b3
    by_cases hlt : i < ra
    · go_wp2_with fail
      refine (i_row _ _ ra ca i rfl _ la _ HM.out.i1 HLA.out hlt (by omega) (by omega)).mono ?_; rintro e w3 ⟨v3, rfl, hv3, _, hbl3, b3⟩
      have hlr := rowL_len HLA.out hlt
      have M3 := Lib.hid ((HM.out.call b3).addI hv3)
      have HV3 := Lib.hid (HV.out.below b3)
      have HBL := Lib.hid hbl3
      have hs3 : w1.heap.size < w3.heap.size := by have := b3.size; have := HM.out.b0.lt; omega
      obtain ⟨a3, c3, rfl, hx3, hy3⟩ := hv3.shape
      have HLR := Lib.hid hlr
      rw [hlr] at hx3 HBL M3
      clear hv3 b3 hbl3 p0 p1 p2
      obtain ⟨p0, p1, p2⟩ := blk3 M3.out.b3
      rw [hlr]
      clear hlr
      go_wp2
      obtain ⟨wo, rfl⟩ : ∃ wo : World, wo = wr := ⟨_, rfl⟩
      go_loopw [25] (fun j wr => ∃ k : Nat, k ≤ ca ∧ j = .int .i64 k ∧ Ints wr (.slice a N cap) (matL ra cb (mulS p ca cb la lb i k)) ∧
          MB w [(.slice a3 ca c3, rowL ca i la), (.slice ab lb.length capb, lb), (.slice aa la.length capa, la)] [(w1.heap.size, #[.int .i64 ra, .int .i64 cb, .slice a N cap], 26), (w.heap.size + 2, #[.int .i64 0, .int .i64 0, .slice none 0 0], 26), (w.heap.size + 1, #[.int .i64 ca, .int .i64 cb, .slice ab lb.length capb], 26), (w.heap.size, #[.int .i64 ra, .int .i64 ca, .slice aa la.length capa], 26)] wr) (fun j _ => ca - (intOf j).toNat)
      case atStart => exact ⟨0, Nat.zero_le _, rfl, HV3.out, M3.out⟩
      case round =>
        obtain ⟨k, hk, rfl, hV, hm⟩ := hrel
        have HM' := Lib.hid hm; have HV' := Lib.hid hV
        clear p0 p1 p2 hm hV
        by_cases hltk : k < ca
        · obtain ⟨gr, or, rfl, hgr, hcr, _⟩ := HM'.out.i0.cell (i := k) (by rw [HLR.out]; exact hltk)
          rw [rowL_get hltk] at hcr
          obtain ⟨x, hx⟩ : ∃ x, la.getD (i * ca + k) 0 = x := ⟨_, rfl⟩
          rw [hx] at hcr
          have hx4 := HA4.out (i * ca + k)
          rw [hx] at hx4
          obtain ⟨hx0, hx4⟩ := hx4
          have HX := Lib.hid hx
          obtain ⟨m0, m1, m2⟩ := blk3 HM'.out.b0
          obtain ⟨r0, r1, r2⟩ := blk3 HM'.out.b2
          rcases Nat.eq_zero_or_pos cb with h0 | hpos
          · have H0 := Lib.hid h0
            clear h0
            go_wp2
            go_region_held3 (fun w' => (w'.cell? ⟨w1.heap.size, 0, none⟩ = some (.int .i64 ra) ∧ w'.cell? ⟨w1.heap.size, 1, none⟩ = some (.int .i64 cb) ∧ w'.cell? ⟨w1.heap.size, 2, none⟩ = some (.slice a N cap)) ∧ w'.cell? ⟨w.heap.size + 1, 0, none⟩ = some (.int .i64 ca) ∧ w'.cell? ⟨w.heap.size + 1, 1, none⟩ = some (.int .i64 cb) ∧ w'.cell? ⟨w.heap.size + 1, 2, none⟩ = some (.slice ab lb.length capb))
              (first | exact cells6 HM'.out.b0.drew HM'.out.b2.drew | exact cells6 (HM'.out.b0.below (below_of_drew b5)) (HM'.out.b2.below (below_of_drew b5)) | exact cells6 ((HM'.out.b0.below (below_of_drew b5)).below b6) ((HM'.out.b2.below (below_of_drew b5)).below b6))
              (first
                | (go_at_call 82; (with_reducible refine (i_row _ _ ra cb i rfl (.slice a N cap) (matL ra cb (mulS p ca cb la lb i k)) _ HV'.out.drew (matL_len _ _ _) hlt (by omega) (by omega)).mono ?_); rintro e w5 ⟨v5, rfl, hv5, hex5, hbl5, b5⟩; obtain ⟨a5, c5, rfl, _, _⟩ := hv5.shape)
                | (go_at_call 82; (with_reducible refine (i_row _ _ ca cb k rfl (.slice ab lb.length capb) lb _ ((HM'.out.i1.drew).below b5) HLB.out hltk (by omega) (by omega)).mono ?_); rintro e w6 ⟨v6, rfl, hv6, _, hbl6, b6⟩; obtain ⟨a6, c6, rfl, _, _⟩ := hv6.shape)
                | (go_at_call 83; (with_reducible refine (i_addMultiple_nil _ _ _ _ _ (by rw [H0.out, rowL_zero] at hv6 ⊢; exact hv6)).mono ?_); rintro e wz ⟨rfl, rfl⟩))
            have hV7 := (HV'.out.below (below_of_drew b5)).below b6
            have e7 : matL ra cb (mulS p ca cb la lb i k) = matL ra cb (mulS p ca cb la lb i (k + 1)) := by
              apply matL_congr
              intro _ _ _ h
              have := H0.out
              omega
            rw [e7] at hV7
            have HV7 := Lib.hid hV7
            have HM7 := Lib.hid ((HM'.out.drew.call b5).call b6)
            clear hV7 e7 hv5 hex5 hbl5 b5 hv6 hbl6 b6
            go_wp2
            go_roundw
            case rel => exact ⟨k + 1, by omega, by go_num, HV7.out, HM7.out⟩
            case measure => simp [intOf]; omega
          · have hat0 := mat_at hlt hpos
            rw [← HNN.out] at hat0
            obtain ⟨g, off, rfl, hg, _, _⟩ := HV'.out.cell (i := i * cb + 0) (by rw [matL_len, ← HNN.out]; exact hat0)
            obtain ⟨eg1, eg2⟩ := hub.out g (blk_slice (by omega))
            have hdn : i * cb + cb ≤ (matL ra cb (mulS p ca cb la lb i k)).length := by
              rw [matL_len]
              have : (i + 1) * cb ≤ ra * cb := Nat.mul_le_mul_right cb (by omega)
              rw [Nat.add_mul, Nat.one_mul] at this
              exact this
            have HDN := Lib.hid hdn
            have HRL := Lib.hid (rowL_len HLB.out hltk)
            have HBD := Lib.hid (fun j (hj : j < (rowL cb k lb).length) => (show 0 ≤ (matL ra cb (mulS p ca cb la lb i k)).getD (i * cb + j) 0 ∧ (matL ra cb (mulS p ca cb la lb i k)).getD (i * cb + j) 0 ≤ 1000000 ∧ 0 ≤ x * (rowL cb k lb).getD j 0 ∧ x * (rowL cb k lb).getD j 0 ≤ 1000000 from by
              have h1 := matL_bd (r := ra) (c := cb) (f := mulS p ca cb la lb i k) (M := 4) (fun i' k' => mulS_bd HP.out ca cb la lb i k i' k') (by omega) (i * cb + j)
              have h2 := HB4.out (k * cb + j)
              rw [rowL_get (by rw [← HRL.out]; exact hj)]
              have h3 := Int.mul_le_mul hx4 h2.2 h2.1 (by omega)
              have h4 := Int.mul_nonneg hx0 h2.1
              omega))
            have HOI : Hid (offI (fun b => b = g) [(.slice (some ⟨gr, or, none⟩) ca c3, rowL ca i la), (.slice ab lb.length capb, lb), (.slice aa la.length capa, la)]) := ⟨fun q hq h => by have := HBL.out q hq; have := hlta.out q this; omega, fun q hq h => by have := hltb.out q hq; omega, fun q hq h => by have := hlta.out q hq; omega, trivial⟩
            have HOB : Hid (offB (fun b => b = g) [(w1.heap.size, #[.int .i64 ra, .int .i64 cb, .slice (some ⟨g, off, none⟩) N cap], 26), (w.heap.size + 2, #[.int .i64 0, .int .i64 0, .slice none 0 0], 26), (w.heap.size + 1, #[.int .i64 ca, .int .i64 cb, .slice ab lb.length capb], 26), (w.heap.size, #[.int .i64 ra, .int .i64 ca, .slice aa la.length capa], 26)]) := ⟨by simp only; omega, by simp only; omega, by simp only; omega, by simp only; omega, trivial⟩
            clear hdn hat0
            go_wp2
            go_region_held3 (fun w' => (w'.cell? ⟨w1.heap.size, 0, none⟩ = some (.int .i64 ra) ∧ w'.cell? ⟨w1.heap.size, 1, none⟩ = some (.int .i64 cb) ∧ w'.cell? ⟨w1.heap.size, 2, none⟩ = some (.slice (some ⟨g, off, none⟩) N cap)) ∧ w'.cell? ⟨w.heap.size + 1, 0, none⟩ = some (.int .i64 ca) ∧ w'.cell? ⟨w.heap.size + 1, 1, none⟩ = some (.int .i64 cb) ∧ w'.cell? ⟨w.heap.size + 1, 2, none⟩ = some (.slice ab lb.length capb))
              (first | exact cells6 HM'.out.b0.drew HM'.out.b2.drew | exact cells6 (HM'.out.b0.below (below_of_drew b5)) (HM'.out.b2.below (below_of_drew b5)) | exact cells6 ((HM'.out.b0.below (below_of_drew b5)).below b6) ((HM'.out.b2.below (below_of_drew b5)).below b6) | exact cells6 M7.b0 M7.b2)
              (first
                | (go_at_call 82; (with_reducible refine (i_row _ _ ra cb i rfl (.slice (some ⟨g, off, none⟩) N cap) (matL ra cb (mulS p ca cb la lb i k)) _ HV'.out.drew (matL_len _ _ _) hlt (by omega) (by omega)).mono ?_); rintro e w5 ⟨v5, rfl, hv5, hex5, hbl5, b5⟩; obtain rfl := hex5 g off N cap hpos rfl)
                | (go_at_call 82; (with_reducible refine (i_row _ _ ca cb k rfl (.slice ab lb.length capb) lb _ ((HM'.out.i1.drew).below b5) HLB.out hltk (by omega) (by omega)).mono ?_); rintro e w6 ⟨v6, rfl, hv6, _, hbl6, b6⟩; obtain ⟨a6, c6, rfl, _, _⟩ := hv6.shape)
                | (go_at_call 83; (with_reducible refine (i_addMultiple p x g off N cap (off + i * cb) (i * cb) cb (cap - i * cb) (matL ra cb (mulS p ca cb la lb i k)) (rowL cb k lb) _ _ (by omega) (by omega) ((HV'.out.below (below_of_drew b5)).below b6) rfl HDN.out (by rw [HRL.out]; exact Nat.le_refl _) hv6 (fun q hq => by have := hltb.out q (hbl6 q hq); omega) HBD.out).mono ?_); rintro e w7 ⟨rfl, hV7, c7⟩; have M7 := ((HM'.out.drew.call b5).call b6).chg c7 (fun q h => by omega) HOI.out HOB.out))
            rw [← HX.out, mul_step hlt HRL.out] at hV7
            have HV7 := Lib.hid hV7
            have HM7 := Lib.hid M7
            clear hV7 M7 hv5 hex5 hbl5 b5 hv6 hbl6 b6 c7
            go_wp2
            go_roundw
            case rel => exact ⟨k + 1, by omega, by go_num, HV7.out, HM7.out⟩
            case measure => simp [intOf]; omega
        · have hk' : k = ca := by omega
          have hi' := HV'.out
          rw [hk', mul_next] at hi'
          have HI' := Lib.hid hi'
          have HM'' : Hid (MB w [(.slice ab lb.length capb, lb), (.slice aa la.length capa, la)] [(w1.heap.size, #[.int .i64 ra, .int .i64 cb, .slice a N cap], 26), (w.heap.size + 2, #[.int .i64 0, .int .i64 0, .slice none 0 0], 26), (w.heap.size + 1, #[.int .i64 ca, .int .i64 cb, .slice ab lb.length capb], 26), (w.heap.size, #[.int .i64 ra, .int .i64 ca, .slice aa la.length capa], 26)] wr) := Lib.hid ⟨HM'.out.bel, HM'.out.ins.2, HM'.out.bls⟩
          clear hi' hk'
          go_wp2
          go_roundw
          case rel => exact ⟨i + 1, by omega, by go_num, HI'.out, HM''.out⟩
          case measure => simp [intOf]; omega
    · have hk' : i = ra := by omega
      have hi' := HV.out
      rw [hk', mul_done] at hi'
      obtain ⟨m0, m1, m2⟩ := blk3 HM.out.b0
      obtain ⟨q0, q1, q2⟩ := blk3 HM.out.b1
      obtain ⟨f0, f1, f2⟩ := frz3 HM.out.b1
      have hB := set3_blk HM.out.b1 (.int .i64 ra) (.int .i64 cb) (.slice a N cap)
      have hV3 := set3_ints hi' (b := w.heap.size + 2) (fun q hq => by have := (hub.out q hq).1; omega) (.int .i64 ra) (.int .i64 cb) (.slice a N cap)
      have hb3 := set3_below HM.out.bel (b := w.heap.size + 2) (by omega) (.int .i64 ra) (.int .i64 cb) (.slice a N cap)
      unfold set3 at hB hV3 hb3
      have H3 := Lib.hid hV3; have HB3 := Lib.hid hb3; have HK := Lib.hid hB
      clear hV3 hb3 hB hi' hk'
      go_wp2
      refine bodyPost_ret (v := .agg #[.int .i64 ra, .int .i64 cb, .slice a N cap]) (by simp [results, Try.results69, go_sem, HK.out.cell 0, HK.out.cell 1, HK.out.cell 2]) rfl ⟨_, rfl, H3.out, ?_, HB3.out⟩
      exact fun q hq => by have := (hub.out q hq).1; omega

end Go.Proofs.Ytmcjgaffecimlaa
