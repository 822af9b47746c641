/- Matrices: their values in memory; zero, ZeroMatrix, identity, IdentityMatrix. -/
import Derived.Test.YtmcjgaffecimlaaVecOps
namespace Go.Proofs.Ytmcjgaffecimlaa
open Go.RowKit
set_option linter.unusedVariables false
set_option linter.unusedSimpArgs false

/-- a new matrix: rows, columns, cells -/
def MatNew (r c : Int) (l : List Int) (w : World) (e : Ending) (w' : World) : Prop :=
  ∃ v, e = .returned (.agg #[.int .i64 r, .int .i64 c, v]) ∧ Ints w' v l ∧ FreshV w.heap.size v ∧ Below w.heap.size w w'
/-- a new matrix and a word -/
def MatOK (r c : Int) (l : List Int) (ok : Bool) (w : World) (e : Ending) (w' : World) : Prop :=
  ∃ v, e = .returned (.tuple #[.agg #[.int .i64 r, .int .i64 c, v], .bool ok]) ∧ Ints w' v l ∧ FreshV w.heap.size v ∧ Below w.heap.size w w'

/-- the matrix of zeros that a local variable or a result starts as -/
def zM : Obj := .cells #[.int .i64 0, .int .i64 0, .slice none 0 0] 26
theorem res_pre {w w1 : World} (hb : Below (w.alloc (.cells #[.int .i64 0, .int .i64 0, .slice none 0 0] 26)).heap.size (w.alloc (.cells #[.int .i64 0, .int .i64 0, .slice none 0 0] 26)) w1) :
    w1.cell? ⟨w.heap.size, 0, none⟩ = some (.int .i64 0) ∧ w1.cell? ⟨w.heap.size, 1, none⟩ = some (.int .i64 0) ∧ w1.cell? ⟨w.heap.size, 2, none⟩ = some (.slice none 0 0) ∧
    w1.frozen? ⟨w.heap.size, 0, none⟩ = false ∧ w1.frozen? ⟨w.heap.size, 1, none⟩ = false ∧ w1.frozen? ⟨w.heap.size, 2, none⟩ = false := by
  have h := (Blk.new w #[.int .i64 0, .int .i64 0, .slice none 0 0] 26).below hb
  exact ⟨h.cell 0, h.cell 1, h.cell 2, h.frozen 0, h.frozen 1, h.frozen 2⟩
theorem mat_tail {w w1 : World} {v : Value} {l : List Int} (r c : Int) (hb : Below (w.alloc (.cells #[.int .i64 0, .int .i64 0, .slice none 0 0] 26)).heap.size (w.alloc (.cells #[.int .i64 0, .int .i64 0, .slice none 0 0] 26)) w1)
    (hv : Ints w1 v l) (hf : FreshV (w.alloc (.cells #[.int .i64 0, .int .i64 0, .slice none 0 0] 26)).heap.size v) :
    (Ints (((w1.setCell ⟨w.heap.size, 0, none⟩ (.int .i64 r)).setCell ⟨w.heap.size, 1, none⟩ (.int .i64 c)).setCell ⟨w.heap.size, 2, none⟩ v) v l ∧ FreshV w.heap.size v ∧
      Below w.heap.size w (((w1.setCell ⟨w.heap.size, 0, none⟩ (.int .i64 r)).setCell ⟨w.heap.size, 1, none⟩ (.int .i64 c)).setCell ⟨w.heap.size, 2, none⟩ v)) ∧
    (((w1.setCell ⟨w.heap.size, 0, none⟩ (.int .i64 r)).setCell ⟨w.heap.size, 1, none⟩ (.int .i64 c)).setCell ⟨w.heap.size, 2, none⟩ v).cell? ⟨w.heap.size, 0, none⟩ = some (.int .i64 r) ∧
    (((w1.setCell ⟨w.heap.size, 0, none⟩ (.int .i64 r)).setCell ⟨w.heap.size, 1, none⟩ (.int .i64 c)).setCell ⟨w.heap.size, 2, none⟩ v).cell? ⟨w.heap.size, 1, none⟩ = some (.int .i64 c) ∧
    (((w1.setCell ⟨w.heap.size, 0, none⟩ (.int .i64 r)).setCell ⟨w.heap.size, 1, none⟩ (.int .i64 c)).setCell ⟨w.heap.size, 2, none⟩ v).cell? ⟨w.heap.size, 2, none⟩ = some v := by
  have h := (Blk.new w #[.int .i64 0, .int .i64 0, .slice none 0 0] 26).below hb
  have hB := set3_blk h (.int .i64 r) (.int .i64 c) v
  have hfr : ∀ k, blk v = some k → k ≠ w.heap.size := fun k hk => by have := hf k hk; rw [World.size_alloc] at this; omega
  have hbw : Below w.heap.size w w1 := ((Below.refl _ w).alloc (Nat.le_refl _) _).trans (hb.mono (by simp))
  exact ⟨⟨set3_ints hv hfr _ _ _, hf.mono (by simp), set3_below hbw (Nat.le_refl _) _ _ _⟩, hB.cell 0, hB.cell 1, hB.cell 2⟩

set_option maxRecDepth 100000 in
set_option maxHeartbeats 1000000 in
theorem i_zero (r c : Nat) (hr : r ≤ 64) (hc : c ≤ 64) (w : World) :
    Calls Try.prog 32 #[.int .i64 r, .int .i64 c] w (MatNew r c (List.replicate (r * c) 0) w) := by
  have hrc : r * c ≤ 4096 := Nat.mul_le_mul hr hc
  obtain ⟨n, hn⟩ : ∃ n, n = r * c := ⟨_, rfl⟩
  have hm : (r : Int) * (c : Int) = (n : Int) := by rw [hn]; simp
  rw [← hn] at hrc
  have hmk := run_make_ints n (by omega)
  have HN := Lib.hid hn; clear hn
  go_enter Try.func32, Try.ntmps32
  go_wp2
  have hz := Ints.of_own (own_zeros (w.alloc (.cells #[.int .i64 r, .int .i64 c, .slice (some ⟨w.heap.size + 1, 0, none⟩) n n] 26)) w.heap.size n (by simp) (by omega))
  rw [World.size_alloc] at hz
  refine bodyPost_ret (v := .agg #[.int .i64 r, .int .i64 c, .slice (some ⟨w.heap.size + 1, 0, none⟩) n n]) (by simp [results, Try.results32, go_sem]) rfl ⟨_, rfl, ?_, hz.2, ((Below.refl _ _).alloc (Nat.le_refl _) _).alloc (by simp) _⟩
  show Ints _ _ (List.replicate (r * c) 0)
  rw [← HN.out]
  exact hz.1

set_option maxRecDepth 100000 in
set_option maxHeartbeats 1000000 in
theorem s_l3Zero (r c : Nat) (hr : r ≤ 64) (hc : c ≤ 64) (w : World) :
    Calls Try.prog 61 #[.int .i64 r, .int .i64 c] w (MatNew r c (List.replicate (r * c) 0) w) := by
  have hrc : r * c ≤ 4096 := Nat.mul_le_mul hr hc
  obtain ⟨n, hn⟩ : ∃ n, n = r * c := ⟨_, rfl⟩
  have hm : (r : Int) * (c : Int) = (n : Int) := by rw [hn]; simp
  rw [← hn] at hrc
  have hmk := run_make_ints n (by omega)
  have HN := Lib.hid hn; clear hn
  go_enter Try.func61, Try.ntmps61
  go_wp2
  have hz := Ints.of_own (own_zeros (w.alloc (.cells #[.int .i64 r, .int .i64 c, .slice (some ⟨w.heap.size + 1, 0, none⟩) n n] 26)) w.heap.size n (by simp) (by omega))
  rw [World.size_alloc] at hz
  refine bodyPost_ret (v := .agg #[.int .i64 r, .int .i64 c, .slice (some ⟨w.heap.size + 1, 0, none⟩) n n]) (by simp [results, Try.results61, go_sem]) rfl ⟨_, rfl, ?_, hz.2, ((Below.refl _ _).alloc (Nat.le_refl _) _).alloc (by simp) _⟩
  show Ints _ _ (List.replicate (r * c) 0)
  rw [← HN.out]
  exact hz.1

/-- the cells of the identity of n rows, up to the row k -/
def idL (n k : Nat) : List Int := (List.range (n * n)).map fun (t : Nat) => if t / n = t % n ∧ t / n < k then (1 : Int) else 0
theorem idL_len (n k : Nat) : (idL n k).length = n * n := by simp [idL]
theorem idL_zero (n : Nat) : idL n 0 = List.replicate (n * n) 0 := by
  apply List.ext_getElem (by simp [idL])
  intro t h1 h2
  simp [idL]
theorem idL_at {n k : Nat} (hk : k < n) : k * n + k < n * n := by
  have : (k + 1) * n ≤ n * n := Nat.mul_le_mul_right n (by omega)
  rw [Nat.add_mul] at this; omega
theorem idL_step (n k : Nat) (hk : k < n) : (idL n k).set (k * n + k) 1 = idL n (k + 1) := by
  apply List.ext_getElem (by simp [idL])
  intro t h1 h2
  rw [List.getElem_set]
  simp only [idL, List.getElem_map, List.getElem_range]
  have e1 : (k * n + k) / n = k := by rw [Nat.mul_comm, Nat.mul_add_div (by omega), Nat.div_eq_of_lt hk]; rfl
  have e2 : (k * n + k) % n = k := by rw [Nat.mul_comm, Nat.mul_add_mod, Nat.mod_eq_of_lt hk]
  by_cases h : k * n + k = t
  · subst h
    rw [if_pos rfl, e1, e2, if_pos ⟨rfl, by omega⟩]
  · rw [if_neg h]
    have h3 : ¬ (t / n = t % n ∧ t / n = k) := by
      rintro ⟨h4, h5⟩
      have := Nat.div_add_mod t n
      rw [← h4, h5, Nat.mul_comm] at this
      exact h this
    by_cases h4 : t / n = t % n ∧ t / n < k
    · rw [if_pos h4, if_pos ⟨h4.1, by omega⟩]
    · rw [if_neg h4, if_neg (fun h5 => by
        rcases Nat.lt_or_ge (t / n) k with h6 | h6
        · exact h4 ⟨h5.1, h6⟩
        · exact h3 ⟨h5.1, by omega⟩)]

set_option maxRecDepth 100000 in
set_option maxHeartbeats 1000000 in
theorem i_identity (n : Nat) (hn : n ≤ 8) (w : World) :
    Calls Try.prog 68 #[.int .i64 n] w (MatNew n n (idL n n) w) := by
  obtain ⟨N, hN⟩ : ∃ N, N = n * n := ⟨_, rfl⟩
  have hN64 : N ≤ 64 := by rw [hN]; exact Nat.mul_le_mul hn hn
  have HN := Lib.hid hN; clear hN
  go_enter Try.func68, Try.ntmps68
  go_wp2_with fail
  refine (i_zero n n (by omega) (by omega) _).mono ?_; rintro e w1 ⟨v, rfl, hv, hf, b1⟩
  have hr1 : Blk w1 w.heap.size #[.int .i64 0, .int .i64 0, .slice none 0 0] 26 := (Blk.new w _ _).below b1
  have hb01 : Below w.heap.size w w1 := ((Below.refl _ w).alloc (Nat.le_refl _) _).trans (b1.mono (by simp))
  have hlt1 := hr1.lt
  rw [← HN.out] at hv
  obtain ⟨a, cap, rfl, hlc, hcm⟩ := hv.shape
  rw [List.length_replicate] at *
  have h2 : Below w1.heap.size w1 (w1.alloc (.cells #[.int .i64 n, .int .i64 n, .slice a N cap] 26)) := (Below.refl _ w1).alloc (Nat.le_refl _) _
  have hv2 := Lib.hid (hv.below h2)
  have hr2 := Lib.hid (hr1.below h2)
  have hs2 := Lib.hid (Blk.new w1 #[.int .i64 n, .int .i64 n, .slice a N cap] 26)
  have hb2 := Lib.hid (hb01.trans (h2.mono (by omega)))
  have hvb := Lib.hid (fun q hq => (⟨hf q hq, hv.lt q hq⟩ : (w.alloc (.cells #[.int .i64 0, .int .i64 0, .slice none 0 0] 26)).heap.size ≤ q ∧ q < w1.heap.size))
  clear hv h2 hr1 hb01 b1 hf
  go_wp2
  go_loopw [9] (fun i wr => ∃ k : Nat, k ≤ n ∧ i = .int .i64 k ∧ Ints wr (.slice a N cap) (idL n k) ∧ Blk wr w1.heap.size #[.int .i64 n, .int .i64 n, .slice a N cap] 26 ∧ Blk wr w.heap.size #[.int .i64 0, .int .i64 0, .slice none 0 0] 26 ∧ Below w.heap.size w wr) (fun i _ => n - (intOf i).toNat)
  case atStart => exact ⟨0, Nat.zero_le _, rfl, by rw [idL_zero, ← HN.out]; exact hv2.out, hs2.out, hr2.out, hb2.out⟩
  case round =>
    obtain ⟨k, hk, rfl, hv, hs, hr, hbel⟩ := hrel
    by_cases hlt : k < n
    · have hat := idL_at hlt
      rw [← HN.out] at hat
      obtain ⟨q, hq⟩ : ∃ q, q = k * n := ⟨_, rfl⟩
      have hm : (k : Int) * (n : Int) = (q : Int) := by rw [hq]; simp
      rw [← hq] at hat
      have hix : q + k < (idL n k).length := by rw [idL_len, ← HN.out]; exact hat
      obtain ⟨g, off, rfl, hgs, hc, hfz⟩ := hv.cell hix
      obtain ⟨hst, hbk⟩ := hv.set hix 1
      have hstep := idL_step n k hlt
      rw [← hq] at hstep
      rw [hstep] at hst
      obtain ⟨hg1, hg2⟩ := hvb.out g hbk
      rw [World.size_alloc] at hg1
      have hc0 : wr.cell? ⟨w1.heap.size, 2, none⟩ = some (.slice (some ⟨g, off, none⟩) N cap) := hs.cell 2
      have HST := Lib.hid hst
      have HS := Lib.hid (hs.setOther (p := ⟨g, off + (q + k), none⟩) (by simp; omega) (.int .i64 1))
      have HR := Lib.hid (hr.setOther (p := ⟨g, off + (q + k), none⟩) (by simp; omega) (.int .i64 1))
      clear hst hbk hstep hs hr hv hq
      go_wp2
      go_roundw
      case rel => exact ⟨k + 1, by omega, by go_num, HST.out, HS.out, HR.out, hbel.setCell (by show w.heap.size ≤ g; omega) _⟩
      case measure => simp [intOf]; omega
    · have hk' : k = n := by omega
      have hc0 : wr.cell? ⟨w1.heap.size, 0, none⟩ = some (.int .i64 n) := hs.cell 0
      have hc1 : wr.cell? ⟨w1.heap.size, 1, none⟩ = some (.int .i64 n) := hs.cell 1
      have hc2 : wr.cell? ⟨w1.heap.size, 2, none⟩ = some (.slice a N cap) := hs.cell 2
      have hd0 : wr.cell? ⟨w.heap.size, 0, none⟩ = some (.int .i64 0) := hr.cell 0
      have hd1 : wr.cell? ⟨w.heap.size, 1, none⟩ = some (.int .i64 0) := hr.cell 1
      have hd2 : wr.cell? ⟨w.heap.size, 2, none⟩ = some (.slice none 0 0) := hr.cell 2
      have hf0 := hr.frozen 0
      have hf1 := hr.frozen 1
      have hf2 := hr.frozen 2
      have HV : Hid (Ints wr (.slice a N cap) (idL n n)) := by rw [hk'] at hv; exact hv
      have HR := Lib.hid hr
      clear hv hk' hs hr
      have hB := set3_blk HR.out (.int .i64 n) (.int .i64 n) (.slice a N cap)
      have hV3 := set3_ints HV.out (b := w.heap.size) (fun q hq => by have := (hvb.out q hq).1; rw [World.size_alloc] at this; omega) (.int .i64 n) (.int .i64 n) (.slice a N cap)
      have hb3 := set3_below hbel (Nat.le_refl _) (.int .i64 n) (.int .i64 n) (.slice a N cap)
      have hk0 := hB.cell 0
      have hk1 := hB.cell 1
      have hk2 := hB.cell 2
      unfold set3 at hB hV3 hb3 hk0 hk1 hk2
      have H3 := Lib.hid hV3; have HB3 := Lib.hid hb3; have HK0 := Lib.hid hk0; have HK1 := Lib.hid hk1; have HK2 := Lib.hid hk2
      clear hV3 hb3 hk0 hk1 hk2 hB
      go_wp2
      refine bodyPost_ret (v := .agg #[.int .i64 n, .int .i64 n, .slice a N cap]) (by simp [results, Try.results68, go_sem, HK0.out, HK1.out, HK2.out]) rfl ⟨_, rfl, H3.out, ?_, HB3.out⟩
      exact fun q hq => by have := (hvb.out q hq).1; rw [World.size_alloc] at this; omega

set_option maxRecDepth 100000 in
set_option maxHeartbeats 1000000 in
theorem s_l3Identity (n : Nat) (hn : n ≤ 8) (w : World) :
    Calls Try.prog 79 #[.int .i64 n] w (MatNew n n (idL n n) w) := by
  obtain ⟨N, hN⟩ : ∃ N, N = n * n := ⟨_, rfl⟩
  have hN64 : N ≤ 64 := by rw [hN]; exact Nat.mul_le_mul hn hn
  have HN := Lib.hid hN; clear hN
  go_enter Try.func79, Try.ntmps79
  go_wp2_with fail
  refine (s_l3Zero n n (by omega) (by omega) _).mono ?_; rintro e w1 ⟨v, rfl, hv, hf, b1⟩
  have hr1 : Blk w1 w.heap.size #[.int .i64 0, .int .i64 0, .slice none 0 0] 26 := (Blk.new w _ _).below b1
  have hb01 : Below w.heap.size w w1 := ((Below.refl _ w).alloc (Nat.le_refl _) _).trans (b1.mono (by simp))
  have hlt1 := hr1.lt
  rw [← HN.out] at hv
  obtain ⟨a, cap, rfl, hlc, hcm⟩ := hv.shape
  rw [List.length_replicate] at *
  have h2 : Below w1.heap.size w1 (w1.alloc (.cells #[.int .i64 n, .int .i64 n, .slice a N cap] 26)) := (Below.refl _ w1).alloc (Nat.le_refl _) _
  have hv2 := Lib.hid (hv.below h2)
  have hr2 := Lib.hid (hr1.below h2)
  have hs2 := Lib.hid (Blk.new w1 #[.int .i64 n, .int .i64 n, .slice a N cap] 26)
  have hb2 := Lib.hid (hb01.trans (h2.mono (by omega)))
  have hvb := Lib.hid (fun q hq => (⟨hf q hq, hv.lt q hq⟩ : (w.alloc (.cells #[.int .i64 0, .int .i64 0, .slice none 0 0] 26)).heap.size ≤ q ∧ q < w1.heap.size))
  clear hv h2 hr1 hb01 b1 hf
  go_wp2
  go_loopw [4] (fun i wr => ∃ k : Nat, k ≤ n ∧ i = .int .i64 k ∧ Ints wr (.slice a N cap) (idL n k) ∧ Blk wr w1.heap.size #[.int .i64 n, .int .i64 n, .slice a N cap] 26 ∧ Blk wr w.heap.size #[.int .i64 0, .int .i64 0, .slice none 0 0] 26 ∧ Below w.heap.size w wr) (fun i _ => n - (intOf i).toNat)
  case atStart => exact ⟨0, Nat.zero_le _, rfl, by rw [idL_zero, ← HN.out]; exact hv2.out, hs2.out, hr2.out, hb2.out⟩
  case round =>
    obtain ⟨k, hk, rfl, hv, hs, hr, hbel⟩ := hrel
    by_cases hlt : k < n
    · have hat := idL_at hlt
      rw [← HN.out] at hat
      obtain ⟨q, hq⟩ : ∃ q, q = k * n := ⟨_, rfl⟩
      have hm : (k : Int) * (n : Int) = (q : Int) := by rw [hq]; simp
      rw [← hq] at hat
      have hix : q + k < (idL n k).length := by rw [idL_len, ← HN.out]; exact hat
      obtain ⟨g, off, rfl, hgs, hc, hfz⟩ := hv.cell hix
      obtain ⟨hst, hbk⟩ := hv.set hix 1
      have hstep := idL_step n k hlt
      rw [← hq] at hstep
      rw [hstep] at hst
      obtain ⟨hg1, hg2⟩ := hvb.out g hbk
      rw [World.size_alloc] at hg1
      have hc0 : wr.cell? ⟨w1.heap.size, 2, none⟩ = some (.slice (some ⟨g, off, none⟩) N cap) := hs.cell 2
      have HST := Lib.hid hst
      have HS := Lib.hid (hs.setOther (p := ⟨g, off + (q + k), none⟩) (by simp; omega) (.int .i64 1))
      have HR := Lib.hid (hr.setOther (p := ⟨g, off + (q + k), none⟩) (by simp; omega) (.int .i64 1))
      clear hst hbk hstep hs hr hv hq
      go_wp2
      go_roundw
      case rel => exact ⟨k + 1, by omega, by go_num, HST.out, HS.out, HR.out, hbel.setCell (by show w.heap.size ≤ g; omega) _⟩
      case measure => simp [intOf]; omega
    · have hk' : k = n := by omega
      have hc0 : wr.cell? ⟨w1.heap.size, 0, none⟩ = some (.int .i64 n) := hs.cell 0
      have hc1 : wr.cell? ⟨w1.heap.size, 1, none⟩ = some (.int .i64 n) := hs.cell 1
      have hc2 : wr.cell? ⟨w1.heap.size, 2, none⟩ = some (.slice a N cap) := hs.cell 2
      have hd0 : wr.cell? ⟨w.heap.size, 0, none⟩ = some (.int .i64 0) := hr.cell 0
      have hd1 : wr.cell? ⟨w.heap.size, 1, none⟩ = some (.int .i64 0) := hr.cell 1
      have hd2 : wr.cell? ⟨w.heap.size, 2, none⟩ = some (.slice none 0 0) := hr.cell 2
      have hf0 := hr.frozen 0
      have hf1 := hr.frozen 1
      have hf2 := hr.frozen 2
      have HV : Hid (Ints wr (.slice a N cap) (idL n n)) := by rw [hk'] at hv; exact hv
      have HR := Lib.hid hr
      clear hv hk' hs hr
      have hB := set3_blk HR.out (.int .i64 n) (.int .i64 n) (.slice a N cap)
      have hV3 := set3_ints HV.out (b := w.heap.size) (fun q hq => by have := (hvb.out q hq).1; rw [World.size_alloc] at this; omega) (.int .i64 n) (.int .i64 n) (.slice a N cap)
      have hb3 := set3_below hbel (Nat.le_refl _) (.int .i64 n) (.int .i64 n) (.slice a N cap)
      have hk0 := hB.cell 0
      have hk1 := hB.cell 1
      have hk2 := hB.cell 2
      unfold set3 at hB hV3 hb3 hk0 hk1 hk2
      have H3 := Lib.hid hV3; have HB3 := Lib.hid hb3; have HK0 := Lib.hid hk0; have HK1 := Lib.hid hk1; have HK2 := Lib.hid hk2
      clear hV3 hb3 hk0 hk1 hk2 hB
      go_wp2
      refine bodyPost_ret (v := .agg #[.int .i64 n, .int .i64 n, .slice a N cap]) (by simp [results, Try.results79, go_sem, HK0.out, HK1.out, HK2.out]) rfl ⟨_, rfl, H3.out, ?_, HB3.out⟩
      exact fun q hq => by have := (hvb.out q hq).1; rw [World.size_alloc] at this; omega

/-- what ZeroMatrix and IdentityMatrix give -/
def zerOK (r c : Int) : Bool := inR r 0 8 && inR c 0 8
def zerR (r c : Int) : Int := if zerOK r c = true then r else 0
def zerC (r c : Int) : Int := if zerOK r c = true then c else 0
def zerL (r c : Int) : List Int := if zerOK r c = true then List.replicate (r.toNat * c.toNat) 0 else []
def ideR (n : Int) : Int := if inR n 0 8 = true then n else 0
def ideL (n : Int) : List Int := if inR n 0 8 = true then idL n.toNat n.toNat else []





end Go.Proofs.Ytmcjgaffecimlaa
