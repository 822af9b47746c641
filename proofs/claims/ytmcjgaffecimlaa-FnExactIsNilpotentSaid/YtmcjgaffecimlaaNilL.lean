/- IsNilpotent: plain: a power of a matrix is a matrix; what the reference's reduction is asked for. -/
import Derived.Test.YtmcjgaffecimlaaNil
namespace Go.Proofs.Ytmcjgaffecimlaa
open Go.RowKit
set_option linter.unusedVariables false
set_option linter.unusedSimpArgs false

theorem isM_mk {p r c : Int} {l : List Int} (h1 : 0 ≤ r) (h2 : r ≤ 8) (h3 : 0 ≤ c) (h4 : c ≤ 8) (h5 : (l.length : Int) = r * c) (h6 : isV p l = true) : isM p r c l = true := by
  unfold isM
  rw [inR_mk h1 h2, inR_mk h3 h4, decide_eq_true h5, h6]; rfl
theorem powM_isM {p r : Int} {l : List Int} (h : isM p r r l = true) (k : Nat) : isM p r r (powM p r.toNat l k) = true := by
  obtain ⟨r0, r8, _, _, _, hV⟩ := isM_true h
  have hp := isM_p h
  obtain ⟨R, rfl⟩ := Int.eq_ofNat_of_zero_le r0
  have hlen := powM_len p R l k
  have hRR : R * R ≤ 64 := Nat.mul_le_mul (show R ≤ 8 by omega) (show R ≤ 8 by omega)
  refine isM_mk r0 r8 r0 r8 (by rw [Int.toNat_natCast, hlen]; simp) ?_
  rw [Int.toNat_natCast]
  unfold isV
  rw [isV_F hV, decide_eq_true (show (powM p R l k).length ≤ 64 by rw [hlen]; exact hRR), Bool.true_and, Bool.true_and]
  refine okV_of fun j hj => ?_
  rw [hlen] at hj
  cases k with
  | zero =>
    show inR ((idL R R).getD j 0) 0 (p - 1) = true
    have : (idL R R).getD j 0 = 0 ∨ (idL R R).getD j 0 = 1 := by
      simp only [idL, List.getD, List.getElem?_map, List.getElem?_range hj, Option.map_some, Option.getD_some]
      split
      · exact .inr rfl
      · exact .inl rfl
    rcases this with h | h <;> rw [h] <;> exact inR_mk (by omega) (by omega)
  | succ k =>
    show inR ((mulL p R R R (powM p R l k) l).getD j 0) 0 (p - 1) = true
    have e : (mulL p R R R (powM p R l k) l).getD j 0 = mulF p R R (powM p R l k) l R (j / R) (j % R) := by
      unfold mulL matL
      simp [List.getD, hj]
    rw [e]
    unfold mulF
    have h0 := Int.emod_nonneg (sumTo (fun j' => (powM p R l k).getD (j / R * R + j') 0 * l.getD (j' * R + j % R) 0) R) (show p ≠ 0 by omega)
    have h1 := Int.emod_lt_of_pos (sumTo (fun j' => (powM p R l k).getD (j / R * R + j') 0 * l.getD (j' * R + j % R) 0) R) (show 0 < p by omega)
    exact inR_mk h0 (by omega)
/-- what is asked of the reduction: some matrix, and how many leading ones there are is 0 just at the zero matrix -/
def RedAns (r c : Int) (l : List Int) (w : World) (e : Ending) (w' : World) : Prop :=
  ∃ (x : Option Addr) (n m : Nat) (y : Option Addr) (k cap : Nat), e = .returned (.tuple #[.agg #[.int .i64 r, .int .i64 c, .slice x n m], .slice y k cap]) ∧ k ≤ 64 ∧ (k = 0 ↔ zeroB l = true) ∧ Below w.heap.size w w'
def RrAns (r c : Int) (l : List Int) (w : World) (e : Ending) (w' : World) : Prop :=
  ∃ (x : Option Addr) (n m : Nat) (y : Option Addr) (k cap : Nat), e = .returned (.tuple #[.agg #[.int .i64 r, .int .i64 c, .slice x n m], .slice y k cap, .bool true]) ∧ k ≤ 64 ∧ (k = 0 ↔ zeroB l = true) ∧ Below w.heap.size w w'
/-- the contract of the reduction -/
def RedCon : Prop := ∀ (p r c : Int) (v : Value) (l : List Int) (w : World), Ints w v l → isM p r c l = true → Calls Try.prog 81 #[.int .i64 p, .agg #[.int .i64 r, .int .i64 c, v]] w (RedAns r c l w)
set_option maxRecDepth 100000 in
set_option maxHeartbeats 2000000 in
theorem s_RowReduce (hred : RedCon) (p ra ca : Int) (va : Value) (la : List Int) (w : World) (ha : Ints w va la) (hM : isM p ra ca la = true) :
    Calls Try.prog 67 #[.int .i64 p, .agg #[.int .i64 ra, .int .i64 ca, va]] w (RrAns ra ca la w) := by
  obtain ⟨aa, capa, rfl, hlca, hcma⟩ := ha.shape
  have M := Lib.hid ((((MB.start w).addI ha).alloc #[.int .i64 ra, .int .i64 ca, .slice aa la.length capa] 26).alloc #[.int .i64 0, .int .i64 0, .slice none 0 0] 26)
  have HM := Lib.hid hM
  clear ha hM
  go_enter Try.func67, Try.ntmps67
  go_wp2_with fail
  refine (s_IsMatrix _ _ _ _ la _ M.out.i0).mono ?_; rintro e w1 ⟨rfl, b1⟩
  rw [HM.out]
  have M1 := Lib.hid (M.out.call b1)
  have hsz1 : w.heap.size + 2 ≤ w1.heap.size := by have := b1.size; (try simp only [World.size_alloc] at this); omega
  clear b1
  obtain ⟨pa0, pa1, pa2⟩ := blk3 M1.out.b1
  obtain ⟨q0, q1, q2⟩ := blk3 M1.out.b0
  simp only [World.size_alloc] at pa0 pa1 pa2 q0 q1 q2
  go_wp2_with fail
  refine (hred _ _ _ _ la _ M1.out.i0 HM.out).mono ?_; rintro e w2 ⟨x, n, m, y, k, cap, rfl, hk, hz, b2⟩
  have HZ := Lib.hid (And.intro hk hz)
  have M2 := Lib.hid (M1.out.call b2)
  have hsz2 : w.heap.size + 2 ≤ w2.heap.size := Nat.le_trans hsz1 b2.size
  have M3 := Lib.hid (M2.out.call ((Below.refl _ w2).alloc (Nat.le_refl _) (.cells #[.int .i64 ra, .int .i64 ca, .slice x n m] 26)))
  clear hk hz b2 pa0 pa1 pa2 q0 q1 q2
  obtain ⟨q0, q1, q2⟩ := blk3 M3.out.b0
  obtain ⟨z0, z1, z2⟩ := frz3 M3.out.b0
  have HT0 := mat_zero M3.out (by simp) (.int .i64 ra) (.int .i64 ca) (.slice x n m)
  simp only [World.size_alloc] at q0 q1 q2 z0 z1 z2 HT0
  have HT := Lib.hid HT0
  clear HT0
  go_wp2
  exact bodyPost_ret (v := .tuple #[.agg #[.int .i64 ra, .int .i64 ca, .slice x n m], .slice y k cap, .bool true]) (by simp [results, Try.results67, go_sem, HT.out.2.1, HT.out.2.2.1, HT.out.2.2.2]) rfl ⟨x, n, m, y, k, cap, rfl, HZ.out.1, HZ.out.2, HT.out.1⟩
set_option maxRecDepth 100000 in
set_option maxHeartbeats 2000000 in
theorem s_RankOf (hred : RedCon) (p ra ca : Int) (va : Value) (la : List Int) (w : World) (ha : Ints w va la) (hM : isM p ra ca la = true) :
    Calls Try.prog 37 #[.int .i64 p, .agg #[.int .i64 ra, .int .i64 ca, va]] w (fun e w' => ∃ k : Nat, e = .returned (.int .i64 k) ∧ (k = 0 ↔ zeroB la = true) ∧ Below w.heap.size w w') := by
  obtain ⟨aa, capa, rfl, hlca, hcma⟩ := ha.shape
  have hb : Below w.heap.size w (w.alloc (.cells #[.int .i64 ra, .int .i64 ca, .slice aa la.length capa] 26)) := (Below.refl _ _).alloc (Nat.le_refl _) _
  have HA := Lib.hid (ha.below hb)
  have HB := Lib.hid hb
  have HM := Lib.hid hM
  clear ha hb hM
  go_enter Try.func37, Try.ntmps37
  go_wp2_with fail
  refine (s_RowReduce hred _ _ _ _ la _ HA.out HM.out).mono ?_; rintro e w1 ⟨x, n, m, y, k, cap, rfl, hk, hz, b1⟩
  have HB1 := Lib.hid (below_call HB.out b1 HB.out.size)
  have HZ := Lib.hid hz
  have HB2 := Lib.hid (HB1.out.alloc HB1.out.size (.cells #[.int .i64 ra, .int .i64 ca, .slice x n m] 26))
  clear hz b1
  go_wp2
  go_ret
  exact ⟨k, rfl, HZ.out, HB2.out⟩
set_option maxRecDepth 100000 in
set_option maxHeartbeats 2000000 in
theorem s_IsNilpotent (hred : RedCon) (p ra ca : Int) (va : Value) (la : List Int) (w : World) (ha : Ints w va la) :
    Calls Try.prog 14 #[.int .i64 p, .agg #[.int .i64 ra, .int .i64 ca, va]] w (BoolAnsB (nilM p ra ca la) w) := by
  obtain ⟨aa, capa, rfl, hlca, hcma⟩ := ha.shape
  have hb : Below w.heap.size w (w.alloc (.cells #[.int .i64 ra, .int .i64 ca, .slice aa la.length capa] 26)) := (Below.refl _ _).alloc (Nat.le_refl _) _
  have HA := Lib.hid (ha.below hb)
  have HB := Lib.hid hb
  clear ha hb
  cases hok : powMOK p ra ca 8 la
  · have HR := Lib.hid (show nilM p ra ca la = false by
      unfold powMOK at hok
      rw [show inR 8 0 100 = true from by decide, Bool.and_true] at hok
      unfold nilM; rw [hok]; rfl)
    have HC := Lib.hid (fun wq h => (show Calls Try.prog 36 #[.int .i64 p, .agg #[.int .i64 ra, .int .i64 ca, .slice aa la.length capa], .int .i64 8] wq (MatOK 0 0 [] false wq) from (s_PowerOf p ra ca _ la 8 wq h).mono fun _ _ h => by simpa [hok, mR, mL] using h))
    clear hok
    go_enter Try.func14, Try.ntmps14
    go_wp2_with fail
    refine (HC.out _ HA.out).mono ?_; rintro e w1 ⟨v1, rfl, hv1, hf1, b1⟩
    have HB1 := Lib.hid (below_call HB.out b1 HB.out.size)
    obtain ⟨a1, cap1, rfl, _, _⟩ := hv1.shape
    have HB2 := Lib.hid (HB1.out.alloc HB1.out.size (.cells #[.int .i64 0, .int .i64 0, .slice a1 ([] : List Int).length cap1] 26))
    clear hv1 hf1 b1
    go_wp2
    go_ret
    exact ⟨ret_bool HR.out.symm, HB2.out⟩
  · have hpm := hok
    unfold powMOK at hpm
    simp only [Bool.and_eq_true, decide_eq_true_eq] at hpm
    obtain ⟨⟨hM, hr⟩, _⟩ := hpm
    subst hr
    have HR := Lib.hid (show nilM p ra ra la = zeroB (powM p ra.toNat la 8) by unfold nilM; rw [hM]; simp)
    have HP := Lib.hid (powM_isM hM 8)
    have HC := Lib.hid (fun wq h => (show Calls Try.prog 36 #[.int .i64 p, .agg #[.int .i64 ra, .int .i64 ra, .slice aa la.length capa], .int .i64 8] wq (MatOK ra ra (powM p ra.toNat la 8) true wq) from (s_PowerOf p ra ra _ la 8 wq h).mono fun _ _ h => by simpa [hok, mR, mL] using h))
    generalize powM p ra.toNat la 8 = P at HR HP HC
    clear hok hM
    go_enter Try.func14, Try.ntmps14
    go_wp2_with fail
    refine (HC.out _ HA.out).mono ?_; rintro e w1 ⟨v1, rfl, hv1, hf1, b1⟩
    have HB1 := Lib.hid (below_call HB.out b1 HB.out.size)
    obtain ⟨a1, cap1, rfl, _, _⟩ := hv1.shape
    have hal : Below w1.heap.size w1 (w1.alloc (.cells #[.int .i64 ra, .int .i64 ra, .slice a1 P.length cap1] 26)) := (Below.refl _ w1).alloc (Nat.le_refl _) _
    have HV := Lib.hid (hv1.below hal)
    have HB2 := Lib.hid (below_call HB1.out hal HB1.out.size)
    clear hv1 hf1 b1 hal
    go_wp2_with fail
    refine (s_RankOf hred _ _ _ _ P _ HV.out HP.out).mono ?_; rintro e w3 ⟨k, rfl, hz, b3⟩
    have HB3 := Lib.hid (below_call HB2.out b3 HB2.out.size)
    have HZ := Lib.hid hz
    clear hz b3
    by_cases h0 : k = 0
    · subst h0
      have HE := Lib.hid (HZ.out.1 rfl)
      go_wp2
      go_ret
      exact ⟨ret_bool (by rw [HR.out, HE.out]), HB3.out⟩
    · have hkb : ((k : Int) == 0) = false := by simp; omega
      have HE := Lib.hid (show zeroB P = false by cases h : zeroB P; rfl; exact absurd (HZ.out.2 h) h0)
      clear h0
      go_wp2
      go_ret
      exact ⟨ret_bool (by rw [HR.out, HE.out]), HB3.out⟩
end Go.Proofs.Ytmcjgaffecimlaa
