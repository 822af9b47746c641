/- CodeOf and VectorOf, of the program and of the reference. -/
import Derived.Test.YtogilgennpmdhaaScaleVec
import Derived.Test.YtogilgennpmdhaaPower
namespace Go.Proofs.Ytogilgennpmdhaa
open Go.RowKit
set_option linter.unusedVariables false
set_option linter.unusedSimpArgs false

/-- the number that digits are, the first one counts most -/
def codeN (p : Int) (l : List Int) : Int := l.foldl (fun n x => n * p + x) 0
theorem codeN_snoc (p : Int) (l : List Int) (x : Int) : codeN p (l ++ [x]) = codeN p l * p + x := by simp [codeN]
theorem take_snocI (l : List Int) (k : Nat) (h : k < l.length) : l.take (k + 1) = l.take k ++ [l.getD k 0] := by
  rw [List.take_succ_eq_append_getElem h]; simp [List.getD, h]
theorem codeN_bd {p : Int} {l : List Int} (h : isV p l = true) : ∀ k, k ≤ l.length → 0 ≤ codeN p (l.take k) ∧ codeN p (l.take k) < 5 ^ k := by
  intro k
  have hp := isF_cases (isV_F h)
  induction k with
  | zero => intro _; simp [codeN]
  | succ k ih =>
    intro hk
    obtain ⟨h0, h1⟩ := ih (by omega)
    obtain ⟨h2, h3⟩ := isV_elem h (show k < l.length by omega)
    rw [take_snocI l k (by omega), codeN_snoc, Int.pow_succ]
    rcases hp with rfl | rfl | rfl <;> omega
theorem codeN_bd8 {p : Int} {l : List Int} (h : isV p l = true) {k : Nat} (hk : k ≤ l.length) (h8 : k ≤ 8) : 0 ≤ codeN p (l.take k) ∧ codeN p (l.take k) ≤ 390625 ∧ 0 ≤ codeN p (l.take k) * p ∧ codeN p (l.take k) * p ≤ 1953125 := by
  obtain ⟨h0, h1⟩ := codeN_bd h k hk
  have h2 : (5 : Int) ^ k ≤ 390625 := by
    have : k = 0 ∨ k = 1 ∨ k = 2 ∨ k = 3 ∨ k = 4 ∨ k = 5 ∨ k = 6 ∨ k = 7 ∨ k = 8 := by omega
    rcases this with rfl | rfl | rfl | rfl | rfl | rfl | rfl | rfl | rfl <;> decide
  have h3 : codeN p (l.take k) ≤ 390625 := by omega
  rcases isF_cases (isV_F h) with rfl | rfl | rfl <;> omega
theorem codeN_step {p : Int} {l : List Int} {k : Nat} (hk : k < l.length) : codeN p (l.take k) * p + l.getD k 0 = codeN p (l.take (k + 1)) := by
  rw [take_snocI l k hk, codeN_snoc]

def codV (p : Int) (l : List Int) : Int := if isV p l = true ∧ l.length ≤ 8 then codeN p l else -1
theorem codV_no {p : Int} {l : List Int} (h : isV p l = false ∨ 8 < l.length) : codV p l = -1 := by
  unfold codV; rw [if_neg]; rintro ⟨h1, h2⟩; rcases h with h | h
  · simp [h] at h1
  · omega
theorem codV_yes {p : Int} {l : List Int} (h : isV p l = true) (h8 : l.length ≤ 8) : codV p l = codeN p (l.take l.length) := by
  unfold codV; rw [if_pos ⟨h, h8⟩, List.take_length]

def IntAnsB (r : Int) (w : World) (e : Ending) (w' : World) : Prop := e = .returned (.int .i64 r) ∧ Below w.heap.size w w'

set_option maxRecDepth 100000 in
set_option maxHeartbeats 1000000 in
theorem s_CodeOf (p : Int) (v : Value) (l : List Int) (w : World) (hv : Ints w v l) :
    Calls Try.prog 27 #[.int .i64 p, v] w (IntAns (codV p l) w) := by
  have HV := Lib.hid hv
  obtain ⟨a, cap, rfl, hlc, hcm⟩ := hv.shape
  clear hv
  by_cases h1 : isV p l = true
  · by_cases h8 : l.length ≤ 8
    · have HR := Lib.hid (codV_yes h1 h8)
      have hd : decide (8 < l.length) = false := by simp; omega
      have hp5 : 2 ≤ p ∧ p ≤ 5 := by have := isF_cases (isV_F h1); omega
      obtain ⟨hp2, hp5⟩ := hp5
      go_enter Try.func27, Try.ntmps27
      go_wp2_with fail
      refine (s_IsVector _ _ l _ HV.out).mono ?_; rintro e w' ⟨rfl, rfl⟩
      go_wp2
      go_loop [5, 6] (fun n i => ∃ k : Nat, k ≤ l.length ∧ i = .int .i64 k ∧ n = .int .i64 (codeN p (l.take k))) (fun _ i => l.length - (intOf i).toNat)
      case atStart => exact ⟨0, Nat.zero_le _, rfl, rfl⟩
      case round =>
        obtain ⟨k, hk, rfl, rfl⟩ := hrel
        obtain ⟨h0, h3, h4, h5⟩ := codeN_bd8 h1 hk (by omega)
        by_cases hlt : k < l.length
        · obtain ⟨g, off, rfl, hgs, hc, _⟩ := HV.out.cell hlt
          obtain ⟨hx0, hx1⟩ := isV_elem h1 hlt
          have hst := codeN_step (p := p) hlt
          obtain ⟨x, hx⟩ := elem_name l k
          rw [hx] at hc hx0 hx1 hst
          have HST := Lib.hid hst
          clear hst hx
          go_wp2
          go_round
          case rel => exact ⟨k + 1, by omega, by go_num, by rw [HST.out]⟩
          case measure => simp [intOf]; omega
        · obtain rfl : k = l.length := by omega
          go_wp2
          go_ret
          exact ⟨ret_int (by rw [HR.out, List.take_length]), rfl⟩
    · have HR := Lib.hid (codV_no (p := p) (l := l) (.inr (by omega)))
      have hd : decide (8 < l.length) = true := by simp; omega
      go_enter Try.func27, Try.ntmps27
      go_wp2_with fail
      refine (s_IsVector _ _ l _ HV.out).mono ?_; rintro e w' ⟨rfl, rfl⟩
      go_wp2
      go_ret
      exact ⟨ret_int HR.out.symm, rfl⟩
  · have h1 : isV p l = false := by simpa using h1
    have HR := Lib.hid (codV_no (p := p) (l := l) (.inl h1))
    go_enter Try.func27, Try.ntmps27
    go_wp2_with fail
    refine (s_IsVector _ _ l _ HV.out).mono ?_; rintro e w' ⟨rfl, rfl⟩
    go_wp2
    go_ret
    exact ⟨ret_int HR.out.symm, rfl⟩

set_option maxRecDepth 100000 in
set_option maxHeartbeats 1000000 in
theorem i_CodeOf (p : Int) (v : Value) (l : List Int) (w : World) (hv : Ints w v l) :
    Calls Try.prog 15 #[.int .i64 p, v] w (IntAnsB (codV p l) w) := by
  have HV := Lib.hid hv
  obtain ⟨a, cap, rfl, hlc, hcm⟩ := hv.shape
  clear hv
  by_cases h1 : isV p l = true
  · by_cases h8 : l.length ≤ 8
    · have HR := Lib.hid (codV_yes h1 h8)
      have hd : decide (8 < l.length) = false := by simp; omega
      have hp5 : 2 ≤ p ∧ p ≤ 5 := by have := isF_cases (isV_F h1); omega
      obtain ⟨hp2, hp5⟩ := hp5
      go_enter Try.func15, Try.ntmps15
      go_wp2_with fail
      refine (i_IsVector _ _ l _ HV.out).mono ?_; rintro e w1 ⟨rfl, b1⟩
      have HV1 := Lib.hid (HV.out.below b1)
      go_wp2
      go_loop [5, 19] (fun n i => ∃ k : Nat, k ≤ l.length ∧ i = .int .i64 k ∧ n = .int .i64 (codeN p (l.take k))) (fun _ i => l.length - (intOf i).toNat)
      case atStart => exact ⟨0, Nat.zero_le _, rfl, rfl⟩
      case round =>
        obtain ⟨k, hk, rfl, rfl⟩ := hrel
        obtain ⟨h0, h3, h4, h5⟩ := codeN_bd8 h1 hk (by omega)
        by_cases hlt : k < l.length
        · obtain ⟨g, off, rfl, hgs, hc, _⟩ := HV1.out.cell hlt
          obtain ⟨hx0, hx1⟩ := isV_elem h1 hlt
          have hst := codeN_step (p := p) hlt
          obtain ⟨x, hx⟩ := elem_name l k
          rw [hx] at hc hx0 hx1 hst
          have HST := Lib.hid hst
          clear hst hx
          go_wp2
          go_round
          case rel => exact ⟨k + 1, by omega, by go_num, by rw [HST.out]⟩
          case measure => simp [intOf]; omega
        · obtain rfl : k = l.length := by omega
          go_wp2
          go_ret
          exact ⟨ret_int (by rw [HR.out, List.take_length]), b1⟩
    · have HR := Lib.hid (codV_no (p := p) (l := l) (.inr (by omega)))
      have hd : decide (8 < l.length) = true := by simp; omega
      go_enter Try.func15, Try.ntmps15
      go_wp2_with fail
      refine (i_IsVector _ _ l _ HV.out).mono ?_; rintro e w1 ⟨rfl, b1⟩
      go_wp2
      go_ret
      exact ⟨ret_int HR.out.symm, b1⟩
  · have h1 : isV p l = false := by simpa using h1
    have HR := Lib.hid (codV_no (p := p) (l := l) (.inl h1))
    go_enter Try.func15, Try.ntmps15
    go_wp2_with fail
    refine (i_IsVector _ _ l _ HV.out).mono ?_; rintro e w1 ⟨rfl, b1⟩
    go_wp2
    go_ret
    exact ⟨ret_int HR.out.symm, b1⟩

end Go.Proofs.Ytogilgennpmdhaa
