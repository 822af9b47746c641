/- Powers of a square matrix: powerOf of the program, l4Power of the reference. -/
import Derived.Test.YtmcjgaffecimlaaMat6
namespace Go.Proofs.Ytmcjgaffecimlaa
open Go.RowKit
set_option linter.unusedVariables false
set_option linter.unusedSimpArgs false

def powM (p : Int) (n : Nat) (l : List Int) : Nat → List Int
  | 0 => idL n n
  | k + 1 => mulL p n n n (powM p n l k) l
theorem powM_len (p : Int) (n : Nat) (l : List Int) (k : Nat) : (powM p n l k).length = n * n := by
  cases k with
  | zero => exact idL_len n n
  | succ k => exact matL_len _ _ _
theorem idL_bd (n k t : Nat) : 0 ≤ (idL n k).getD t 0 ∧ (idL n k).getD t 0 ≤ 4 := by
  rcases Nat.lt_or_ge t (n * n) with h | h
  · simp only [idL, List.getD, List.getElem?_map, List.getElem?_range h, Option.map_some, Option.getD_some]
    split <;> omega
  · rw [List.getD, List.getElem?_eq_none (by rw [idL_len]; exact h)]; exact ⟨by simp, by simp⟩
theorem powM_bd {p : Int} (hp : 2 ≤ p ∧ p ≤ 5) (n : Nat) (l : List Int) (k t : Nat) : 0 ≤ (powM p n l k).getD t 0 ∧ (powM p n l k).getD t 0 ≤ 4 := by
  cases k with
  | zero => exact idL_bd n n t
  | succ k =>
    show 0 ≤ (mulL p n n n (powM p n l k) l).getD t 0 ∧ (mulL p n n n (powM p n l k) l).getD t 0 ≤ 4
    unfold mulL
    exact matL_bd (M := 4) (fun i j => mulF_bd hp n n (powM p n l k) l n i j) (by omega) t

set_option maxRecDepth 100000 in
set_option maxHeartbeats 4000000 in
theorem i_powerOf (p : Int) (n : Nat) (v : Value) (l : List Int) (K : Nat) (w : World) (hp : 2 ≤ p ∧ p ≤ 5) (hF : isF p = true) (hv : Ints w v l) (hl : l.length = n * n) (hb4 : ∀ t, 0 ≤ l.getD t 0 ∧ l.getD t 0 ≤ 4) (hn : n ≤ 8) (hK : K ≤ 100) :
    Calls Try.prog 38 #[.int .i64 p, .agg #[.int .i64 n, .int .i64 n, v], .int .i64 K] w (MatNew n n (powM p n l K) w) := by
  have hltv := Lib.hid hv.lt
  obtain ⟨av, cv, rfl, hlv, hmv⟩ := hv.shape
  have HL := Lib.hid hl; have HP := Lib.hid hp; have H4 := Lib.hid hb4; have HFF := Lib.hid hF
  have M := Lib.hid ((((MB.start w).addI hv).alloc #[.int .i64 n, .int .i64 n, .slice av l.length cv] 26).alloc #[.int .i64 0, .int .i64 0, .slice none 0 0] 26)
  obtain ⟨N, hN⟩ : ∃ N, N = n * n := ⟨_, rfl⟩
  have hN64 : N ≤ 64 := by rw [hN]; exact Nat.mul_le_mul hn hn
  have HNN := Lib.hid hN
  clear hv hl hp hb4 hN hF
  go_enter Try.func38, Try.ntmps38
  go_wp2_with fail
  refine (i_identity n hn _).mono ?_; rintro e w1 ⟨u, rfl, hu, hf, b1⟩
  have M1 := M.out.call b1
  simp only [World.size_alloc] at M1
  have hs1 : w.heap.size + 2 ≤ w1.heap.size := by have := b1.size; simp only [World.size_alloc] at this; omega
  have hfu : ∀ q, blk u = some q → w.heap.size + 2 ≤ q ∧ q ≠ w1.heap.size := fun q hq => by have a := hf q hq; have b := hu.lt q hq; simp only [World.size_alloc] at a; omega
  have HFu := Lib.hid hfu
  obtain ⟨a, cap, rfl, hlc, hcm⟩ := hu.shape
  have hlen0 : (idL n n).length = N := by rw [idL_len]; exact HNN.out.symm
  rw [hlen0] at hlc hu hf hfu HFu ⊢
  clear hlen0
  have hal : Below w1.heap.size w1 (w1.alloc (.cells #[.int .i64 n, .int .i64 n, .slice a N cap] 26)) := (Below.refl _ w1).alloc (Nat.le_refl _) _
  have HU := Lib.hid (hu.below hal)
  have HO := Lib.hid (Blk.new w1 #[.int .i64 n, .int .i64 n, .slice a N cap] 26)
  have M2 := Lib.hid (M1.call hal)
  clear hu hf hfu b1 M1 hal
  go_wp2
  go_loopw [12] (fun i wr => ∃ (k : Nat) (ak : Option Addr) (ck : Nat), k ≤ K ∧ i = .int .i64 k ∧ Blk wr w1.heap.size #[.int .i64 n, .int .i64 n, .slice ak N ck] 26 ∧ Ints wr (.slice ak N ck) (powM p n l k) ∧ (∀ q, blk (.slice ak N ck) = some q → w.heap.size + 2 ≤ q ∧ q ≠ w1.heap.size) ∧
      MB w [(.slice av l.length cv, l)] [(w.heap.size + 1, #[.int .i64 0, .int .i64 0, .slice none 0 0], 26), (w.heap.size, #[.int .i64 n, .int .i64 n, .slice av l.length cv], 26)] wr) (fun i _ => K - (intOf i).toNat)
  case atStart => exact ⟨0, a, cap, Nat.zero_le _, rfl, HO.out, HU.out, HFu.out, M2.out⟩
  case round =>
    obtain ⟨k, ak, ck, hk, rfl, ho, hi, hf, hm⟩ := hrel
    have HM := Lib.hid hm; have HI := Lib.hid hi; have HB := Lib.hid ho; have HFk := Lib.hid hf
    clear hm hi ho hf
    obtain ⟨p0, p1, p2⟩ := blk3 HM.out.b1
    obtain ⟨o0, o1, o2⟩ := blk3 HB.out
    by_cases hlt : k < K
    · have hPL := powM_len p n l k
      have HPL := Lib.hid hPL
      go_wp2_with fail
      refine (i_times p n n n _ _ (powM p n l k) l _ HP.out HI.out HM.out.i0 HPL.out HL.out (powM_bd HP.out n l k) H4.out hn hn hn).mono ?_; rintro e w3 ⟨v3, rfl, hv3, hf3, b3⟩
      have M3 := HM.out.call b3
      have B3 := HB.out.below b3
      have hlen3 : (mulL p n n n (powM p n l k) l).length = N := by rw [HNN.out]; exact matL_len _ _ _
      obtain ⟨a3, c3, rfl, hx3, hy3⟩ := hv3.shape
      rw [hlen3] at hx3 hv3 hf3 ⊢
      have ho1 := HB.out.lt
      have c4 : Chg (fun b => b = w1.heap.size) w3 (((w3.setCell ⟨w1.heap.size, 0, none⟩ (.int .i64 n)).setCell ⟨w1.heap.size, 1, none⟩ (.int .i64 n)).setCell ⟨w1.heap.size, 2, none⟩ (.slice a3 N c3)) := (((Chg.refl (fun b => b = w1.heap.size) w3).setCell (p := ⟨w1.heap.size, 0, none⟩) rfl _).setCell (p := ⟨w1.heap.size, 1, none⟩) rfl _).setCell (p := ⟨w1.heap.size, 2, none⟩) rfl _
      have hoI : offI (fun b => b = w1.heap.size) [(.slice av l.length cv, l)] := ⟨fun q hq e => by have := hltv.out q hq; omega, trivial⟩
      have hoB : offB (fun b => b = w1.heap.size) [(w.heap.size + 1, #[.int .i64 0, .int .i64 0, .slice none 0 0], 26), (w.heap.size, #[.int .i64 n, .int .i64 n, .slice av l.length cv], 26)] := ⟨by simp only; omega, by simp only; omega, trivial⟩
      have M4 := Lib.hid (M3.chg c4 (fun b e => by omega) hoI hoB)
      have B4 := Lib.hid (set3_blk B3 (.int .i64 n) (.int .i64 n) (.slice a3 N c3))
      have I4 := Lib.hid (hv3.chg c4 (fun q hq e => by have := hf3 q hq; omega))
      have F4 : Hid (∀ q, blk (.slice a3 N c3) = some q → w.heap.size + 2 ≤ q ∧ q ≠ w1.heap.size) := fun q hq => by have := hf3 q hq; omega
      obtain ⟨n0, n1, n2⟩ := blk3 B3
      obtain ⟨f0, f1, f2⟩ := frz3 B3
      clear M3 B3 c4 hoI hoB hv3 hf3 b3 hlen3 hPL p0 p1 p2 o0 o1 o2
      go_wp2
      go_roundw
      case rel => exact ⟨k + 1, _, _, by omega, by go_num, B4.out, I4.out, F4.out, M4.out⟩
      case measure => simp [intOf]; omega
    · have hk' : k = K := by omega
      have hi' := HI.out
      rw [hk'] at hi'
      obtain ⟨q0, q1, q2⟩ := blk3 HM.out.b0
      obtain ⟨f0, f1, f2⟩ := frz3 HM.out.b0
      have hl' : (powM p n l K).length = N := by rw [HNN.out]; exact powM_len _ _ _ _
      have HT := Lib.hid (mat_end HM.out (by omega) hi' (fun q hq => by have := HFk.out q hq; have := hs1; exact ⟨by omega, fun e => by omega⟩) (.int .i64 n) (.int .i64 n))
      clear hi' hk' hl'
      go_wp2
      exact bodyPost_ret (v := .agg #[.int .i64 n, .int .i64 n, .slice ak N ck]) (by simp [results, Try.results38, go_sem, HT.out.2.1, HT.out.2.2.1, HT.out.2.2.2]) rfl ⟨_, rfl, HT.out.1⟩

set_option maxRecDepth 100000 in
set_option maxHeartbeats 4000000 in
theorem s_l4Power (p : Int) (n : Nat) (v : Value) (l : List Int) (K : Nat) (w : World) (hp : 2 ≤ p ∧ p ≤ 5) (hF : isF p = true) (hv : Ints w v l) (hl : l.length = n * n) (hb4 : ∀ t, 0 ≤ l.getD t 0 ∧ l.getD t 0 ≤ 4) (hn : n ≤ 8) (hK : K ≤ 100) :
    Calls Try.prog 66 #[.int .i64 p, .agg #[.int .i64 n, .int .i64 n, v], .int .i64 K] w (MatNew n n (powM p n l K) w) := by
  have hltv := Lib.hid hv.lt
  obtain ⟨av, cv, rfl, hlv, hmv⟩ := hv.shape
  have HL := Lib.hid hl; have HP := Lib.hid hp; have H4 := Lib.hid hb4; have HFF := Lib.hid hF
  have M := Lib.hid ((((MB.start w).addI hv).alloc #[.int .i64 n, .int .i64 n, .slice av l.length cv] 26).alloc #[.int .i64 0, .int .i64 0, .slice none 0 0] 26)
  obtain ⟨N, hN⟩ : ∃ N, N = n * n := ⟨_, rfl⟩
  have hN64 : N ≤ 64 := by rw [hN]; exact Nat.mul_le_mul hn hn
  have HNN := Lib.hid hN
  clear hv hl hp hb4 hN hF
  go_enter Try.func66, Try.ntmps66
  go_wp2_with fail
  refine (s_l3Identity n hn _).mono ?_; rintro e w1 ⟨u, rfl, hu, hf, b1⟩
  have M1 := M.out.call b1
  simp only [World.size_alloc] at M1
  have hs1 : w.heap.size + 2 ≤ w1.heap.size := by have := b1.size; simp only [World.size_alloc] at this; omega
  have hfu : ∀ q, blk u = some q → w.heap.size + 2 ≤ q ∧ q ≠ w1.heap.size := fun q hq => by have a := hf q hq; have b := hu.lt q hq; simp only [World.size_alloc] at a; omega
  have HFu := Lib.hid hfu
  obtain ⟨a, cap, rfl, hlc, hcm⟩ := hu.shape
  have hlen0 : (idL n n).length = N := by rw [idL_len]; exact HNN.out.symm
  rw [hlen0] at hlc hu hf hfu HFu ⊢
  clear hlen0
  have hal : Below w1.heap.size w1 (w1.alloc (.cells #[.int .i64 n, .int .i64 n, .slice a N cap] 26)) := (Below.refl _ w1).alloc (Nat.le_refl _) _
  have HU := Lib.hid (hu.below hal)
  have HO := Lib.hid (Blk.new w1 #[.int .i64 n, .int .i64 n, .slice a N cap] 26)
  have M2 := Lib.hid (M1.call hal)
  clear hu hf hfu b1 M1 hal
  go_wp2
  go_loopw [8] (fun i wr => ∃ (k : Nat) (ak : Option Addr) (ck : Nat), k ≤ K ∧ i = .int .i64 k ∧ Blk wr w1.heap.size #[.int .i64 n, .int .i64 n, .slice ak N ck] 26 ∧ Ints wr (.slice ak N ck) (powM p n l k) ∧ (∀ q, blk (.slice ak N ck) = some q → w.heap.size + 2 ≤ q ∧ q ≠ w1.heap.size) ∧
      MB w [(.slice av l.length cv, l)] [(w.heap.size + 1, #[.int .i64 0, .int .i64 0, .slice none 0 0], 26), (w.heap.size, #[.int .i64 n, .int .i64 n, .slice av l.length cv], 26)] wr) (fun i _ => K - (intOf i).toNat)
  case atStart => exact ⟨0, a, cap, Nat.zero_le _, rfl, HO.out, HU.out, HFu.out, M2.out⟩
  case round =>
    obtain ⟨k, ak, ck, hk, rfl, ho, hi, hf, hm⟩ := hrel
    have HM := Lib.hid hm; have HI := Lib.hid hi; have HB := Lib.hid ho; have HFk := Lib.hid hf
    clear hm hi ho hf
    obtain ⟨p0, p1, p2⟩ := blk3 HM.out.b1
    obtain ⟨o0, o1, o2⟩ := blk3 HB.out
    by_cases hlt : k < K
    · have hPL := powM_len p n l k
      have HPL := Lib.hid hPL
      go_wp2_with fail
      refine (s_l3Multiply p n n n _ _ (powM p n l k) l _ HFF.out HI.out HM.out.i0 HPL.out HL.out (powM_bd HP.out n l k) H4.out hn hn hn).mono ?_; rintro e w3 ⟨v3, rfl, hv3, hf3, b3⟩
      have M3 := HM.out.call b3
      have B3 := HB.out.below b3
      have hlen3 : (mulL p n n n (powM p n l k) l).length = N := by rw [HNN.out]; exact matL_len _ _ _
      obtain ⟨a3, c3, rfl, hx3, hy3⟩ := hv3.shape
      rw [hlen3] at hx3 hv3 hf3 ⊢
      have ho1 := HB.out.lt
      have c4 : Chg (fun b => b = w1.heap.size) w3 (((w3.setCell ⟨w1.heap.size, 0, none⟩ (.int .i64 n)).setCell ⟨w1.heap.size, 1, none⟩ (.int .i64 n)).setCell ⟨w1.heap.size, 2, none⟩ (.slice a3 N c3)) := (((Chg.refl (fun b => b = w1.heap.size) w3).setCell (p := ⟨w1.heap.size, 0, none⟩) rfl _).setCell (p := ⟨w1.heap.size, 1, none⟩) rfl _).setCell (p := ⟨w1.heap.size, 2, none⟩) rfl _
      have hoI : offI (fun b => b = w1.heap.size) [(.slice av l.length cv, l)] := ⟨fun q hq e => by have := hltv.out q hq; omega, trivial⟩
      have hoB : offB (fun b => b = w1.heap.size) [(w.heap.size + 1, #[.int .i64 0, .int .i64 0, .slice none 0 0], 26), (w.heap.size, #[.int .i64 n, .int .i64 n, .slice av l.length cv], 26)] := ⟨by simp only; omega, by simp only; omega, trivial⟩
      have M4 := Lib.hid (M3.chg c4 (fun b e => by omega) hoI hoB)
      have B4 := Lib.hid (set3_blk B3 (.int .i64 n) (.int .i64 n) (.slice a3 N c3))
      have I4 := Lib.hid (hv3.chg c4 (fun q hq e => by have := hf3 q hq; omega))
      have F4 : Hid (∀ q, blk (.slice a3 N c3) = some q → w.heap.size + 2 ≤ q ∧ q ≠ w1.heap.size) := fun q hq => by have := hf3 q hq; omega
      obtain ⟨n0, n1, n2⟩ := blk3 B3
      obtain ⟨f0, f1, f2⟩ := frz3 B3
      clear M3 B3 c4 hoI hoB hv3 hf3 b3 hlen3 hPL p0 p1 p2 o0 o1 o2
      go_wp2
      go_roundw
      case rel => exact ⟨k + 1, _, _, by omega, by go_num, B4.out, I4.out, F4.out, M4.out⟩
      case measure => simp [intOf]; omega
    · have hk' : k = K := by omega
      have hi' := HI.out
      rw [hk'] at hi'
      obtain ⟨q0, q1, q2⟩ := blk3 HM.out.b0
      obtain ⟨f0, f1, f2⟩ := frz3 HM.out.b0
      have hl' : (powM p n l K).length = N := by rw [HNN.out]; exact powM_len _ _ _ _
      have HT := Lib.hid (mat_end HM.out (by omega) hi' (fun q hq => by have := HFk.out q hq; have := hs1; exact ⟨by omega, fun e => by omega⟩) (.int .i64 n) (.int .i64 n))
      clear hi' hk' hl'
      go_wp2
      exact bodyPost_ret (v := .agg #[.int .i64 n, .int .i64 n, .slice ak N ck]) (by simp [results, Try.results66, go_sem, HT.out.2.1, HT.out.2.2.1, HT.out.2.2.2]) rfl ⟨_, rfl, HT.out.1⟩

end Go.Proofs.Ytmcjgaffecimlaa
