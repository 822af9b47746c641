/- The transpose, of the reference. -/
import Derived.Test.YtcjjjejocnlhmaaMB
import Derived.Test.YtcjjjejocnlhmaaMat2
import Derived.Test.YtcjjjejocnlhmaaMatL
namespace Go.Proofs.Ytcjjjejocnlhmaa
open Go.RowKit
set_option linter.unusedVariables false
set_option linter.unusedSimpArgs false

/-- the transpose of a matrix of r rows and c columns, as far as it has been laid: i rows and k numbers of the next one -/
def trF (c : Nat) (l : List Int) (i k i' k' : Nat) : Int := if k' < i ∨ k' = i ∧ i' < k then l.getD (k' * c + i') 0 else 0
theorem tr_zero (r c : Nat) (l : List Int) : matL c r (trF c l 0 0) = List.replicate (c * r) 0 := by
  rw [← matL_zero]
  apply matL_congr
  intro i k _ _
  unfold trF
  rw [if_neg (by omega)]
theorem tr_step {r c i k : Nat} {l : List Int} (hi : i < r) (hk : k < c) : (matL c r (trF c l i k)).set (k * r + i) (l.getD (i * c + k) 0) = matL c r (trF c l i (k + 1)) := by
  rw [matL_set _ hk hi]
  apply matL_congr
  intro i' k' _ _
  unfold trF
  by_cases h : i' = k ∧ k' = i
  · obtain ⟨rfl, rfl⟩ := h
    rw [if_pos ⟨rfl, rfl⟩, if_pos (by omega)]
  · rw [if_neg h]
    by_cases h2 : k' < i ∨ k' = i ∧ i' < k
    · rw [if_pos h2, if_pos (by omega)]
    · rw [if_neg h2, if_neg (by omega)]
theorem tr_next {r c i : Nat} {l : List Int} : matL c r (trF c l i c) = matL c r (trF c l (i + 1) 0) := by
  apply matL_congr
  intro i' k' h1 _
  unfold trF
  by_cases h : k' < i + 1
  · rw [if_pos (by omega), if_pos (by omega)]
  · rw [if_neg (by omega), if_neg (by omega)]
theorem tr_done {r c : Nat} {l : List Int} : matL c r (trF c l r 0) = trL r c l := by
  apply matL_congr
  intro i' k' _ h
  unfold trF
  rw [if_pos (by omega)]

set_option maxRecDepth 100000 in
set_option maxHeartbeats 2000000 in
theorem s_l3Transpose (r c : Nat) (v : Value) (l : List Int) (w : World) (hv : Ints w v l) (hl : l.length = r * c) (hr8 : r ≤ 64) (hc8 : c ≤ 64) :
    Calls Try.prog 53 #[.agg #[.int .i64 r, .int .i64 c, v]] w (MatNew c r (trL r c l) w) := by
  have hltv := Lib.hid hv.lt
  obtain ⟨av, cv, rfl, hlv, hmv⟩ := hv.shape
  have HL := Lib.hid hl
  have M := Lib.hid (((MB.start w).addI hv).alloc #[.int .i64 r, .int .i64 c, .slice av l.length cv] 26)
  obtain ⟨N, hN⟩ : ∃ N, N = c * r := ⟨_, rfl⟩
  have hN64 : N ≤ 4096 := by rw [hN]; exact Nat.mul_le_mul hc8 hr8
  have HNN := Lib.hid hN
  clear hv hl hN
  go_enter Try.func53, Try.ntmps53
  go_wp2_with fail
  refine (s_l3Zero c r (by omega) (by omega) _).mono ?_; rintro e w1 ⟨u, rfl, hu, hf, b1⟩
  have M1 := M.out.call (((Below.refl _ _).alloc (Nat.le_refl _) (.cells #[.int .i64 0, .int .i64 0, .slice none 0 0] 26)).trans (b1.mono (by simp)))
  have hr1 : Blk w1 (w.heap.size + 1) #[.int .i64 0, .int .i64 0, .slice none 0 0] 26 := by
    have h := (Blk.new (w.alloc (.cells #[.int .i64 r, .int .i64 c, .slice av l.length cv] 26)) #[.int .i64 0, .int .i64 0, .slice none 0 0] 26).below b1
    rw [World.size_alloc] at h
    exact h
  have hlt1 := hr1.lt
  rw [← HNN.out] at hu
  obtain ⟨a, cap, rfl, hlc, hcm⟩ := hu.shape
  rw [List.length_replicate] at *
  have h2 : Below w1.heap.size w1 (w1.alloc (.cells #[.int .i64 c, .int .i64 r, .slice a N cap] 26)) := (Below.refl _ w1).alloc (Nat.le_refl _) _
  have hu2 := Lib.hid (hu.below h2)
  have hr2 := Lib.hid (hr1.below h2)
  have hs2 := Lib.hid (Blk.new w1 #[.int .i64 c, .int .i64 r, .slice a N cap] 26)
  have M2 := Lib.hid (M1.call h2)
  have hub := Lib.hid (fun q hq => (⟨by have := hf q hq; simp only [World.size_alloc] at this; omega, hu.lt q hq⟩ : w.heap.size + 2 ≤ q ∧ q < w1.heap.size))
  clear hu h2 hr1 b1 hf M1
  have m0 := M2.out.b0.cell 0; have m1 := M2.out.b0.cell 1
  go_wp2
  go_loopw [4] (fun i wr => ∃ k : Nat, k ≤ r ∧ i = .int .i64 k ∧ Ints wr (.slice a N cap) (matL c r (trF c l k 0)) ∧ Blk wr w1.heap.size #[.int .i64 c, .int .i64 r, .slice a N cap] 26 ∧ Blk wr (w.heap.size + 1) #[.int .i64 0, .int .i64 0, .slice none 0 0] 26 ∧ MB w [(.slice av l.length cv, l)] [(w.heap.size, #[.int .i64 r, .int .i64 c, .slice av l.length cv], 26)] wr) (fun i _ => r - (intOf i).toNat)
  case atStart => exact ⟨0, Nat.zero_le _, rfl, by rw [tr_zero, ← HNN.out]; exact hu2.out, hs2.out, hr2.out, M2.out⟩
  case round =>
    obtain ⟨k, hk, rfl, hi, hs, hr, hm⟩ := hrel
    have HI := Lib.hid hi; have HS := Lib.hid hs; have HR := Lib.hid hr; have HM := Lib.hid hm
    clear m0 m1
    obtain ⟨m0, m1, m2⟩ := blk3 HM.out.b0
    by_cases hlt : k < r
    · clear hi hs hr hm
      go_wp2
      obtain ⟨wo, rfl⟩ : ∃ wo : World, wo = wr := ⟨_, rfl⟩
      go_loopw [5] (fun i wr => ∃ j : Nat, j ≤ c ∧ i = .int .i64 j ∧ Ints wr (.slice a N cap) (matL c r (trF c l k j)) ∧ Blk wr w1.heap.size #[.int .i64 c, .int .i64 r, .slice a N cap] 26 ∧ Blk wr (w.heap.size + 1) #[.int .i64 0, .int .i64 0, .slice none 0 0] 26 ∧ MB w [(.slice av l.length cv, l)] [(w.heap.size, #[.int .i64 r, .int .i64 c, .slice av l.length cv], 26)] wr) (fun i _ => c - (intOf i).toNat)
      case atStart => exact ⟨0, Nat.zero_le _, rfl, HI.out, HS.out, HR.out, HM.out⟩
      case round =>
        obtain ⟨j, hj, rfl, hi, hs, hr, hm⟩ := hrel
        clear m0 m1 m2
        by_cases hltj : j < c
        · have hat := mat_at hltj hlt
          rw [← HNN.out] at hat
          obtain ⟨q, hq⟩ : ∃ q, q = j * r := ⟨_, rfl⟩
          have hmq : (j : Int) * (r : Int) = (q : Int) := by rw [hq]; simp
          rw [← hq] at hat
          have hat2 := mat_at hlt hltj
          rw [← HL.out] at hat2
          obtain ⟨q2, hq2⟩ : ∃ q, q = k * c := ⟨_, rfl⟩
          have hmq2 : (k : Int) * (c : Int) = (q2 : Int) := by rw [hq2]; simp
          rw [← hq2] at hat2
          have hix : q + k < (matL c r (trF c l k j)).length := by rw [matL_len, ← HNN.out]; exact hat
          obtain ⟨g, off, rfl, hgs3, hc, hfz⟩ := hi.cell hix
          obtain ⟨hst, hbk⟩ := hi.set hix (l.getD (k * c + j) 0)
          have hstep := tr_step (l := l) hlt hltj
          rw [← hq] at hstep
          rw [hstep, ← hq2] at hst
          obtain ⟨gv, ov, rfl, hgv, hcv, _⟩ := hm.i0.cell hat2
          obtain ⟨x, hx⟩ : ∃ x, l.getD (q2 + j) 0 = x := ⟨_, rfl⟩
          rw [hx] at hcv hst
          obtain ⟨hg1, hg2⟩ := hub.out g hbk
          obtain ⟨n0, n1, n2⟩ := blk3 hs
          obtain ⟨m0, m1, m2⟩ := blk3 hm.b0
          have hgv2 : gv < w.heap.size := hltv.out gv (by
            have : 0 < l.length := by omega
            obtain ⟨z, hz⟩ : ∃ z, l.length = z + 1 := ⟨l.length - 1, by omega⟩
            rw [hz]; rfl)
          have HST := Lib.hid hst
          have HS' := Lib.hid (hs.setOther (p := ⟨g, off + (q + k), none⟩) (by simp; omega) (.int .i64 x))
          have HR' := Lib.hid (hr.setOther (p := ⟨g, off + (q + k), none⟩) (by simp; omega) (.int .i64 x))
          have HM' := Lib.hid (hm.chg ((Chg.refl (fun b => b = g) wr).setCell (p := ⟨g, off + (q + k), none⟩) rfl (.int .i64 x)) (fun b e => by omega) ⟨fun b hb e => by have := hltv.out b hb; omega, trivial⟩ ⟨by omega, trivial⟩)
          have HC' := Lib.hid (show (wr.setCell ⟨g, off + (q + k), none⟩ (.int .i64 x)).cell? ⟨gv, ov + (q2 + j), none⟩ = some (.int .i64 x) by rw [World.cell?_setCell_other _ _ _ _ (fun e => by have := congrArg Addr.block e; simp only at this; omega)]; exact hcv)
          have HKp := Lib.hid (show (wr.setCell ⟨g, off + (q + k), none⟩ (.int .i64 x)).drew.cell? ⟨w.heap.size, 0, none⟩ = some (.int .i64 r) ∧ (wr.setCell ⟨g, off + (q + k), none⟩ (.int .i64 x)).drew.cell? ⟨w.heap.size, 1, none⟩ = some (.int .i64 c) ∧ (wr.setCell ⟨g, off + (q + k), none⟩ (.int .i64 x)).drew.cell? ⟨w.heap.size, 2, none⟩ = some (.slice (some ⟨gv, ov, none⟩) l.length cv) ∧ (wr.setCell ⟨g, off + (q + k), none⟩ (.int .i64 x)).drew.cell? ⟨w1.heap.size, 2, none⟩ = some (.slice (some ⟨g, off, none⟩) N cap) ∧ (wr.setCell ⟨g, off + (q + k), none⟩ (.int .i64 x)).drew.cell? ⟨gv, ov + (q2 + j), none⟩ = some (.int .i64 x) from
            ⟨HM'.out.b0.drew.cell 0, HM'.out.b0.drew.cell 1, HM'.out.b0.drew.cell 2, HS'.out.drew.cell 2, cell_drew HC'.out⟩)
          have hj0 : (0 : Int) ≤ (j : Int) := by omega
          have i1 : (0 : Int) ≤ (q : Int) + (k : Int) := by omega
          have i2 : (q : Int) + (k : Int) < (N : Int) := by omega
          have i3 : (0 : Int) ≤ (q2 : Int) + (j : Int) := by omega
          have i4 : (q2 : Int) + (j : Int) < (l.length : Int) := by omega
          have hw1 : IntKind.i64.wrap ((q : Int) + (k : Int)) = (q : Int) + (k : Int) := IntWalk.i64_in _ (by omega)
          have hw2 : IntKind.i64.wrap ((q2 : Int) + (j : Int)) = (q2 : Int) + (j : Int) := IntWalk.i64_in _ (by omega)
          have hw3 : IntKind.i64.wrap (q : Int) = (q : Int) := IntWalk.i64_in _ (by omega)
          have hw4 : IntKind.i64.wrap (q2 : Int) = (q2 : Int) := IntWalk.i64_in _ (by omega)
          have ht1 : ((q : Int) + (k : Int)).toNat = q + k := by omega
          have ht2 : ((q2 : Int) + (j : Int)).toNat = q2 + j := by omega
          clear hst hbk hstep hs hr hi hq hq2 hm hx
          go_wp2
          go_region_held3 (fun w' => w'.cell? ⟨w.heap.size, 0, none⟩ = some (.int .i64 r) ∧ w'.cell? ⟨w.heap.size, 1, none⟩ = some (.int .i64 c) ∧ w'.cell? ⟨w.heap.size, 2, none⟩ = some (.slice (some ⟨gv, ov, none⟩) l.length cv) ∧ w'.cell? ⟨w1.heap.size, 2, none⟩ = some (.slice (some ⟨g, off, none⟩) N cap) ∧ w'.cell? ⟨gv, ov + (q2 + j), none⟩ = some (.int .i64 x))
            (first
              | exact HKp.out
              | go_keep)
            (fail)
          clear hw1 hw2 hw3 hw4 ht1 ht2
          go_wp2
          go_roundw
          case rel => exact ⟨j + 1, by omega, by go_num, HST.out, HS'.out, HR'.out, HM'.out.drew⟩
          case measure => simp [intOf]; omega
        · have hj' : j = c := by omega
          rw [hj', tr_next] at hi
          have HI' := Lib.hid hi; have HS' := Lib.hid hs; have HR' := Lib.hid hr; have HM' := Lib.hid hm
          obtain ⟨m0, m1, m2⟩ := blk3 hm.b0
          clear hi hs hr hm hj'
          go_wp2
          go_roundw
          case rel => exact ⟨k + 1, by omega, by go_num, HI'.out, HS'.out, HR'.out, HM'.out⟩
          case measure => simp [intOf]; omega
    · have hk' : k = r := by omega
      obtain ⟨n0, n1, n2⟩ := blk3 hs
      obtain ⟨q0, q1, q2⟩ := blk3 hr
      obtain ⟨f0, f1, f2⟩ := frz3 hr
      rw [hk', tr_done] at hi
      have hB := set3_blk hr (.int .i64 c) (.int .i64 r) (.slice a N cap)
      have hV3 := set3_ints hi (b := w.heap.size + 1) (fun q hq => by have := (hub.out q hq).1; omega) (.int .i64 c) (.int .i64 r) (.slice a N cap)
      have hb3 := set3_below hm.bel (b := w.heap.size + 1) (by omega) (.int .i64 c) (.int .i64 r) (.slice a N cap)
      unfold set3 at hB hV3 hb3
      have H3 := Lib.hid hV3; have HB3 := Lib.hid hb3; have HK := Lib.hid hB
      clear hV3 hb3 hB hi hs hr hm hk' HI HS HR HM
      go_wp2
      refine bodyPost_ret (v := .agg #[.int .i64 c, .int .i64 r, .slice a N cap]) (by simp [results, Try.results53, go_sem, HK.out.cell 0, HK.out.cell 1, HK.out.cell 2]) rfl ⟨_, rfl, H3.out, ?_, HB3.out⟩
      exact fun q hq => by have := (hub.out q hq).1; omega

end Go.Proofs.Ytcjjjejocnlhmaa
