/- fromColumns of the program; transposes. -/
import Derived.Test.YtmcjgaffecimlaaCols
namespace Go.Proofs.Ytmcjgaffecimlaa
open Go.RowKit
set_option linter.unusedVariables false
set_option linter.unusedSimpArgs false

/-- the cells of the columns ll, as far as they have been laid: k columns and j numbers of the next one -/
def fcF (ll : List (List Int)) (k j i' k' : Nat) : Int := if k' < k ∨ k' = k ∧ i' < j then (ll.getD k' []).getD i' 0 else 0
def fcL (R : Nat) (ll : List (List Int)) : List Int := matL R ll.length (fun i k => (ll.getD k []).getD i 0)
theorem fc_zero (R n : Nat) (ll : List (List Int)) : matL R n (fcF ll 0 0) = List.replicate (R * n) 0 := by
  rw [← matL_zero]
  apply matL_congr
  intro i k _ _
  unfold fcF
  rw [if_neg (by omega)]
theorem fc_step {R n k j : Nat} {ll : List (List Int)} (hj : j < R) (hk : k < n) : (matL R n (fcF ll k j)).set (j * n + k) ((ll.getD k []).getD j 0) = matL R n (fcF ll k (j + 1)) := by
  rw [matL_set _ hj hk]
  apply matL_congr
  intro i' k' _ _
  unfold fcF
  by_cases h : i' = j ∧ k' = k
  · obtain ⟨rfl, rfl⟩ := h
    rw [if_pos ⟨rfl, rfl⟩, if_pos (by omega)]
  · rw [if_neg h]
    by_cases h2 : k' < k ∨ k' = k ∧ i' < j
    · rw [if_pos h2, if_pos (by omega)]
    · rw [if_neg h2, if_neg (by omega)]
theorem fc_next {R n k : Nat} {ll : List (List Int)} : matL R n (fcF ll k R) = matL R n (fcF ll (k + 1) 0) := by
  apply matL_congr
  intro i' k' h1 _
  unfold fcF
  by_cases h : k' < k + 1
  · rw [if_pos (by omega), if_pos (by omega)]
  · rw [if_neg (by omega), if_neg (by omega)]
theorem fc_done {R : Nat} {ll : List (List Int)} : matL R ll.length (fcF ll ll.length 0) = fcL R ll := by
  apply matL_congr
  intro i' k' _ h
  unfold fcF
  rw [if_pos (by omega)]

set_option maxRecDepth 100000 in
set_option maxHeartbeats 2000000 in
theorem i_fromColumns (R : Nat) (v : Value) (ll : List (List Int)) (w : World) (hv : Rws 0 w v ll) (hR : R ≤ 64) (hn : ll.length ≤ 64) (hlen : ∀ k, k < ll.length → (ll.getD k []).length = R) :
    Calls Try.prog 77 #[.int .i64 R, v] w (MatNew R ll.length (fcL R ll) w) := by
  have HLEN := Lib.hid hlen; clear hlen
  have HV := Lib.hid hv
  obtain ⟨av, cv, rfl, hlv, hmv⟩ := hv.shape
  clear hv
  obtain ⟨n, hn'⟩ : ∃ n, n = ll.length := ⟨_, rfl⟩
  have HN := Lib.hid hn'
  rw [← hn'] at hn hlv ⊢
  clear hn'
  obtain ⟨N, hN⟩ : ∃ N, N = R * n := ⟨_, rfl⟩
  have hN64 : N ≤ 4096 := by rw [hN]; exact Nat.mul_le_mul hR hn
  have HNN := Lib.hid hN; clear hN
  go_enter Try.func77, Try.ntmps77
  go_wp2_with fail
  refine (i_zero R n (by omega) (by omega) _).mono ?_; rintro e w1 ⟨u, rfl, hu, hf, b1⟩
  have hr1 : Blk w1 w.heap.size #[.int .i64 0, .int .i64 0, .slice none 0 0] 26 := (Blk.new w _ _).below b1
  have hb01 : Below w.heap.size w w1 := ((Below.refl _ w).alloc (Nat.le_refl _) _).trans (b1.mono (by simp))
  have hlt1 := hr1.lt
  rw [← HNN.out] at hu
  obtain ⟨a, cap, rfl, hlc, hcm⟩ := hu.shape
  rw [List.length_replicate] at *
  have h2 : Below w1.heap.size w1 (w1.alloc (.cells #[.int .i64 R, .int .i64 n, .slice a N cap] 26)) := (Below.refl _ w1).alloc (Nat.le_refl _) _
  have hu2 := Lib.hid (hu.below h2)
  have hr2 := Lib.hid (hr1.below h2)
  have hs2 := Lib.hid (Blk.new w1 #[.int .i64 R, .int .i64 n, .slice a N cap] 26)
  have hb2 := Lib.hid (hb01.trans (h2.mono (by omega)))
  have hub := Lib.hid (fun q hq => (⟨hf q hq, hu.lt q hq⟩ : (w.alloc (.cells #[.int .i64 0, .int .i64 0, .slice none 0 0] 26)).heap.size ≤ q ∧ q < w1.heap.size))
  clear hu h2 hr1 hb01 b1 hf
  go_wp2
  go_loopw [16] (fun i wr => ∃ k : Nat, k ≤ n ∧ i = .int .i64 k ∧ Ints wr (.slice a N cap) (matL R n (fcF ll k 0)) ∧ Blk wr w1.heap.size #[.int .i64 R, .int .i64 n, .slice a N cap] 26 ∧ Blk wr w.heap.size #[.int .i64 0, .int .i64 0, .slice none 0 0] 26 ∧ Below w.heap.size w wr) (fun i _ => n - (intOf i).toNat)
  case atStart => exact ⟨0, Nat.zero_le _, rfl, by rw [fc_zero, ← HNN.out]; exact hu2.out, hs2.out, hr2.out, hb2.out⟩
  case round =>
    obtain ⟨k, hk, rfl, hi, hs, hr, hbel⟩ := hrel
    have HI := Lib.hid hi; have HS := Lib.hid hs; have HR := Lib.hid hr; have HB := Lib.hid hbel
    by_cases hlt : k < n
    · obtain ⟨gc, oc, vk, rfl, _, hgs, hcc, hvk, _⟩ := HV.out.cell (i := k) (by rw [← HN.out]; exact hlt)
      have hcr := (hbel.cell (p := ⟨gc, oc + k, none⟩) hgs).trans hcc
      have hlk := HLEN.out k (by rw [← HN.out]; exact hlt)
      have HVK := Lib.hid hvk
      obtain ⟨lk, hlk'⟩ : ∃ lk, ll.getD k [] = lk := ⟨_, rfl⟩
      rw [hlk'] at HVK hlk
      have HLK := Lib.hid hlk'
      obtain ⟨ak, ck, rfl, hxk, hyk⟩ := HVK.out.shape
      rw [hlk] at hcr hxk HVK
      have HLL := Lib.hid hlk
      clear hi hs hr hbel hcc hvk hlk' hlk
      go_wp2
      obtain ⟨wo, rfl⟩ : ∃ wo : World, wo = wr := ⟨_, rfl⟩
      go_loopw [23] (fun i wr => ∃ j : Nat, j ≤ R ∧ i = .int .i64 j ∧ Ints wr (.slice a N cap) (matL R n (fcF ll k j)) ∧ Blk wr w1.heap.size #[.int .i64 R, .int .i64 n, .slice a N cap] 26 ∧ Blk wr w.heap.size #[.int .i64 0, .int .i64 0, .slice none 0 0] 26 ∧ Below w.heap.size w wr) (fun i _ => R - (intOf i).toNat)
      case atStart => exact ⟨0, Nat.zero_le _, rfl, HI.out, HS.out, HR.out, HB.out⟩
      case round =>
        obtain ⟨j, hj, rfl, hi, hs, hr, hbel⟩ := hrel
        by_cases hltj : j < R
        · have hat := mat_at hltj hlt
          rw [← HNN.out] at hat
          obtain ⟨q, hq⟩ : ∃ q, q = j * n := ⟨_, rfl⟩
          have hm : (j : Int) * (n : Int) = (q : Int) := by rw [hq]; simp
          rw [← hq] at hat
          have hix : q + k < (matL R n (fcF ll k j)).length := by rw [matL_len, ← HNN.out]; exact hat
          obtain ⟨g, off, rfl, hgs3, hc, hfz⟩ := hi.cell hix
          obtain ⟨hst, hbk⟩ := hi.set hix ((ll.getD k []).getD j 0)
          have hstep := fc_step (ll := ll) hltj hlt
          rw [← hq] at hstep
          rw [hstep] at hst
          obtain ⟨gk, ok, rfl, hgk, hck, _⟩ := HVK.out.cell (i := j) (by rw [HLL.out]; exact hltj)
          have hckr := (hbel.cell (p := ⟨gk, ok + j, none⟩) hgk).trans hck
          rw [HLK.out] at hst
          obtain ⟨x, hx⟩ : ∃ x, lk.getD j 0 = x := ⟨_, rfl⟩
          rw [hx] at hckr hst
          obtain ⟨hg1, hg2⟩ := hub.out g hbk
          rw [World.size_alloc] at hg1
          have hc0 : wr.cell? ⟨w1.heap.size, 2, none⟩ = some (.slice (some ⟨g, off, none⟩) N cap) := hs.cell 2
          have hc1 : wr.cell? ⟨w1.heap.size, 1, none⟩ = some (.int .i64 n) := hs.cell 1
          have HST := Lib.hid hst
          have HS' := Lib.hid (hs.setOther (p := ⟨g, off + (q + k), none⟩) (by simp; omega) (.int .i64 x))
          have HR' := Lib.hid (hr.setOther (p := ⟨g, off + (q + k), none⟩) (by simp; omega) (.int .i64 x))
          have HB' := Lib.hid (hbel.setCell (p := ⟨g, off + (q + k), none⟩) (by show w.heap.size ≤ g; omega) (.int .i64 x))
          clear hst hbk hstep hs hr hi hq hbel hck hx
          go_wp2
          go_roundw
          case rel => exact ⟨j + 1, by omega, by go_num, HST.out, HS'.out, HR'.out, HB'.out⟩
          case measure => simp [intOf]; omega
        · have hj' : j = R := by omega
          rw [hj', fc_next] at hi
          have HI' := Lib.hid hi; have HS' := Lib.hid hs; have HR' := Lib.hid hr; have HB' := Lib.hid hbel
          clear hi hs hr hbel hj'
          go_wp2
          go_roundw
          case rel => exact ⟨k + 1, by omega, by go_num, HI'.out, HS'.out, HR'.out, HB'.out⟩
          case measure => simp [intOf]; omega
    · have hk' : k = n := by omega
      have hc0 : wr.cell? ⟨w1.heap.size, 0, none⟩ = some (.int .i64 R) := hs.cell 0
      have hc1 : wr.cell? ⟨w1.heap.size, 1, none⟩ = some (.int .i64 n) := hs.cell 1
      have hc2 : wr.cell? ⟨w1.heap.size, 2, none⟩ = some (.slice a N cap) := hs.cell 2
      have hd0 : wr.cell? ⟨w.heap.size, 0, none⟩ = some (.int .i64 0) := hr.cell 0
      have hd1 : wr.cell? ⟨w.heap.size, 1, none⟩ = some (.int .i64 0) := hr.cell 1
      have hd2 : wr.cell? ⟨w.heap.size, 2, none⟩ = some (.slice none 0 0) := hr.cell 2
      have hf0 := hr.frozen 0
      have hf1 := hr.frozen 1
      have hf2 := hr.frozen 2
      rw [hk', HN.out, fc_done] at hi
      have hB := set3_blk hr (.int .i64 R) (.int .i64 n) (.slice a N cap)
      have hV3 := set3_ints hi (b := w.heap.size) (fun q hq => by have := (hub.out q hq).1; rw [World.size_alloc] at this; omega) (.int .i64 R) (.int .i64 n) (.slice a N cap)
      have hb3 := set3_below hbel (Nat.le_refl _) (.int .i64 R) (.int .i64 n) (.slice a N cap)
      unfold set3 at hB hV3 hb3
      have H3 := Lib.hid hV3; have HB3 := Lib.hid hb3; have HK := Lib.hid hB
      clear hV3 hb3 hB hi hs hr hbel hk' HI HS HR HB
      go_wp2
      refine bodyPost_ret (v := .agg #[.int .i64 R, .int .i64 n, .slice a N cap]) (by simp [results, Try.results77, go_sem, HK.out.cell 0, HK.out.cell 1, HK.out.cell 2]) rfl ⟨_, rfl, H3.out, ?_, HB3.out⟩
      exact fun q hq => by have := (hub.out q hq).1; rw [World.size_alloc] at this; omega

end Go.Proofs.Ytmcjgaffecimlaa
