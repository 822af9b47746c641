/- SpacesOf of the program. Walk of the law SpacesOf. -/
import Derived.Test.YtjcgommdeplbbaaSpi
import Derived.Test.YtjcgommdeplbbaaMg5
import Derived.Test.YtjcgommdeplbbaaMg6
namespace Go.Proofs.Ytjcgommdeplbbaa
open Go.RowKit
set_option linter.unusedVariables false
set_option linter.unusedSimpArgs false

theorem szR_small {B : List (List Int)} (h : ∀ b ∈ B, b.length ≤ 4) : szR B ≤ B.length * 4 := by
  induction B with
  | nil => simp [szR]
  | cons b B ih =>
    have h0 := h b (by simp)
    have h1 := ih (fun x hx => h x (by simp [hx]))
    simp only [szR, List.length_cons]
    omega
theorem szX_small {L : List Sp} (h : ∀ x ∈ L, szR x.2 ≤ 16) : szX L ≤ L.length * 17 := by
  induction L with
  | nil => simp [szX]
  | cons p L ih =>
    have h0 := h p (by simp)
    have h1 := ih (fun x hx => h x (by simp [hx]))
    simp only [szX, List.length_cons]
    omega
theorem spcL_small (p n k : Int) : (spcL p n k).length ≤ 6250000 ∧ szX (spcL p n k) ≤ 106250000 := by
  cases hok : spcOK p n k with
  | false =>
    unfold spcL; rw [hok]; simp [szX]
  | true =>
    obtain ⟨hF, h2, h3, h4, h5, h6, h7⟩ := spcOK_true hok
    obtain ⟨N, rfl⟩ := Int.eq_ofNat_of_zero_le h2
    obtain ⟨K, rfl⟩ := Int.eq_ofNat_of_zero_le h4
    have h9 := isF_cases hF
    have hp : 2 ≤ p := by omega
    have e : spcL p N K = outS N (refL p N (p ^ N).toNat K) := by unfold spcL; rw [if_pos hok]; simp
    have hN : N ≤ 4 := by omega
    have hlen := rawL_len (k := K) hF hN
    have hM16 : 2 ^ N ≤ 16 := Nat.le_trans (Nat.pow_le_pow_right (by omega) hN) (by decide)
    have h10 : (rawL p N K (2 ^ N)).length ≤ 6250000 := by
      rcases Nat.lt_or_ge (2 ^ N) 16 with h | h
      · have := hlen _ h; omega
      · have hm : 2 ^ N = 15 + 1 := by omega
        have h1 := hlen 15 (by omega)
        have h2 := rawS_len (k := K) hF hN (show 15 < 16 by omega)
        rw [hm, rawL, List.length_append]; omega
    have h11 : (spcL p N K).length ≤ 6250000 := by rw [e, outS_len, ← (raw_perm hp (k := K) hN).length_eq]; exact h10
    refine ⟨h11, ?_⟩
    have h12 := szX_small (L := spcL p N K) (fun x hx => by
      rw [e] at hx
      unfold outS at hx
      simp only [List.mem_map] at hx
      obtain ⟨B, hB, rfl⟩ := hx
      obtain ⟨g1, g2, _⟩ := refL_iff.1 hB
      have := szR_small (B := B) (fun b hb => by
        have g3 := g2 b hb
        unfold vecs at g3
        simp only [List.mem_map] at g3
        obtain ⟨c, _, rfl⟩ := g3
        rw [vecL_len]; exact hN)
      show szR B ≤ 16
      omega)
    omega
def SpxOK (L : List Sp) (ok : Bool) (w : World) (e : Ending) (w' : World) : Prop := ∃ v, e = .returned (.tuple #[v, .bool ok]) ∧ OwnX (fun q => w.heap.size ≤ q ∧ q < w'.heap.size) w' v L ∧ Below w.heap.size w w'
set_option maxRecDepth 100000 in
set_option maxHeartbeats 1000000 in
theorem i_SpacesOf (p n k : Int) (w : World) : Calls Try.prog 5 #[.int .i64 p, .int .i64 n, .int .i64 k] w (SpxOK (spcL p n k) (spcOK p n k) w) := by
  have hcon := i_CountSpaces p n k w
  cases hok : spcOK p n k with
  | false =>
    have HL := Lib.hid (show spcL p n k = [] by unfold spcL; rw [hok]; simp)
    have hc : cntV p n k < 0 ∨ cntV p n k > 200 := by
      unfold spcOK at hok
      simp only [Bool.and_eq_false_iff, decide_eq_false_iff_not] at hok
      omega
    generalize cntV p n k = c at hcon hc
    have hin : inR c 0 200 = false := by
      cases h : inR c 0 200 with
      | false => rfl
      | true => have := inR_true h; omega
    clear hok hc
    go_enter Try.func5, Try.ntmps5
    go_wp2_with fail
    refine hcon.mono ?_; rintro e w1 ⟨rfl, rfl⟩
    go_wp2_with fail
    refine (i_within _ _ _ _).mono ?_; rintro e w' ⟨rfl, rfl⟩
    go_wp2
    go_ret2
    exact ⟨_, rfl, by rw [HL.out]; exact OwnX.nil _ _, Below.refl _ _⟩
  | true =>
    obtain ⟨hF, h2, h3, h4, h5, h6, h7⟩ := spcOK_true hok
    have HL := Lib.hid (show spcL p n k = outS n.toNat (refL p n.toNat (p ^ n.toNat).toNat k.toNat) by unfold spcL; rw [if_pos hok])
    generalize cntV p n k = c at hcon h6 h7
    obtain ⟨N, rfl⟩ := Int.eq_ofNat_of_zero_le h2
    obtain ⟨K, rfl⟩ := Int.eq_ofNat_of_zero_le h4
    have hN : N ≤ 4 := by omega
    have h9 := isF_cases hF
    have hp : 2 ≤ p := by omega
    have hc2 := i_spacesOf p N K hF hN (by omega) w
    simp only [Int.toNat_natCast] at HL
    have hin : inR c 0 200 = true := inR_mk (by omega) (by omega)
    clear hok h9
    go_enter Try.func5, Try.ntmps5
    go_wp2_with fail
    refine hcon.mono ?_; rintro e w1 ⟨rfl, rfl⟩
    go_wp2_with fail
    refine (i_within _ _ _ _).mono ?_; rintro e w' ⟨rfl, rfl⟩
    go_wp2_with fail
    refine hc2.mono ?_; rintro e w2 ⟨v, L', rfl, g1, g2, hv, hb⟩
    have HX := Lib.hid (show SpxOK (spcL p N K) true w (.returned (.tuple #[v, .bool true])) w2 from ⟨v, rfl, by rw [HL.out, ← spaces_same hp (k := K) hN g1 g2]; exact hv, hb⟩)
    clear hv hb g1 g2
    go_wp2
    go_ret2
    exact HX.out
end Go.Proofs.Ytjcgommdeplbbaa

namespace Go.Proofs.Ytjcgommdeplbbaa
open Go.RowKit
set_option linter.unusedVariables false
set_option linter.unusedSimpArgs false

theorem OwnX.belowX {P : Nat → Prop} {w w' : World} {v : Value} {L : List Sp} {B : Nat} (h : OwnX P w v L) (b : Below B w w') (hP : ∀ q, P q → q < B) : OwnX P w' v L :=
  h.keep (fun _ hq => hq) (fun q hq => b.block q (hP q hq))
theorem mkX_pos (k : Int) (L : List Sp) : (mkX k L).length = L.length := mkX_len L k
set_option maxRecDepth 100000 in
set_option maxHeartbeats 4000000 in
theorem law_FnExactSpacesOf (p n k : Int) (w : World) (_ : (Lit.int .i64 p).wf = true) (_ : (Lit.int .i64 n).wf = true) (_ : (Lit.int .i64 k).wf = true) :
    Calls Try.prog 3 #[.int .i64 p, .int .i64 n, .int .i64 k] w fun e w' => e = .returned (.bool true) ∧ Below w.heap.size w w' := by
  obtain ⟨hl0, hs0⟩ := spcL_small p n k
  have C1 := Lib.hid (s_SpacesOf p n k)
  have C2 := Lib.hid (i_SpacesOf p n k)
  obtain ⟨L, hL⟩ : ∃ L, L = spcL p n k := ⟨_, rfl⟩
  obtain ⟨ok, hok⟩ : ∃ ok, ok = spcOK p n k := ⟨_, rfl⟩
  rw [← hL] at hl0 hs0
  simp only [← hL, ← hok] at C1 C2
  have hneq : (ok != ok) = false := by cases ok <;> rfl
  obtain ⟨m, hm⟩ : ∃ m, m = szX L := ⟨_, rfl⟩
  rw [← hm] at hs0
  have HM := Lib.hid hm
  have hq0 : ((1 + (m : Int)) < 0) = False := by simp; omega
  have hq1 : ((1 + (m : Int)) != (1 + (m : Int))) = false := by simp
  clear hL hok hm
  go_enter Try.func3, Try.ntmps3
  go_wp2_with fail
  refine (C1.out w).mono ?_; rintro e w1 ⟨v1, rfl, x1, b1⟩
  obtain ⟨a1, c1, rfl, _, _⟩ := x1.shape
  have X1 := Lib.hid x1; have B1 := Lib.hid b1
  clear x1 b1
  go_wp2_with fail
  refine (C2.out w1).mono ?_; rintro e w2 ⟨v2, rfl, x2, b2⟩
  obtain ⟨a2, c2, rfl, _, _⟩ := x2.shape
  have HC3 := Lib.hid (l_eqSpaceS 0 w.heap.size _ _ L w2 x2.owns (X1.out.below b2) (by omega))
  have X2 := Lib.hid x2; have B2 := Lib.hid b2
  clear x2 b2
  go_wp2_with fail
  refine HC3.out.mono ?_; rintro e w3 ⟨rfl, b3⟩
  have X3 := Lib.hid (X2.out.belowX b3 (fun q hq => hq.2))
  have S23 := Lib.hid b3.size
  have B3 := Lib.hid (B2.out.trans (b3.mono B2.out.size))
  have HC4 := Lib.hid (l_markSpaceS _ _ L 1 w3 X3.out (by omega) (by rw [← HM.out]; omega))
  rw [show MarkXs (fun q => w1.heap.size ≤ q ∧ q < w2.heap.size) (.slice a2 L.length c2) L 1 w3 = fun e w' => e = .returned (.int .i64 (1 + (m : Int))) ∧ OwnX (fun q => w1.heap.size ≤ q ∧ q < w2.heap.size) w' (.slice a2 L.length c2) (mkX 1 L) ∧ Chg (fun q => w1.heap.size ≤ q ∧ q < w2.heap.size) w3 w' from by rw [HM.out]; rfl] at HC4
  clear b3
  go_wp2_with fail
  refine HC4.out.mono ?_; rintro e w4 ⟨rfl, x4, ch4⟩
  have X4 := Lib.hid x4
  have B4 := Lib.hid (B3.out.trans (ch4.below B3.out.size (fun q hq => hq.1)))
  have HC5 := Lib.hid (l_heldSpaceS _ L 1 w4 X4.out.owns (by omega) (by rw [← HM.out]; omega))
  rw [← HM.out] at HC5
  have S24 := Lib.hid (show w2.heap.size ≤ w4.heap.size from Nat.le_trans S23.out ch4.size)
  clear x4 ch4
  go_wp2_with fail
  refine HC5.out.mono ?_; rintro e wz ⟨rfl, rfl⟩
  go_wp2_with fail
  refine (C2.out w4).mono ?_; rintro e w5 ⟨v5, rfl, x5, b5⟩
  obtain ⟨a5, c5, rfl, _, _⟩ := x5.shape
  have B5 := Lib.hid (B4.out.trans (b5.mono B4.out.size))
  have HC6 := Lib.hid (l_eqSpaceS 0 w.heap.size _ _ L w5 x5.owns (X1.out.below B5.out) (by omega))
  have X5 := Lib.hid (X4.out.belowX b5 (fun q hq => Nat.lt_of_lt_of_le hq.2 S24.out))
  have S45 := Lib.hid (show w4.heap.size ≤ w5.heap.size from b5.size)
  clear x5 b5
  go_wp2_with fail
  refine HC6.out.mono ?_; rintro e w6 ⟨rfl, b6⟩
  have X6 := Lib.hid (X5.out.belowX b6 (fun q hq => Nat.lt_of_lt_of_le hq.2 (Nat.le_trans S24.out S45.out)))
  have B6 := Lib.hid (B5.out.trans (b6.mono B5.out.size))
  have HC7 := Lib.hid (l_heldSpaceS _ L 1 w6 X6.out.owns (by omega) (by rw [← HM.out]; omega))
  rw [← HM.out] at HC7
  clear b6
  go_wp2_with fail
  refine HC7.out.mono ?_; rintro e wz ⟨rfl, rfl⟩
  have HBB := Lib.hid (B1.out.trans (B6.out.mono B1.out.size))
  go_wp2
  go_ret
  exact ⟨rfl, HBB.out⟩
end Go.Proofs.Ytjcgommdeplbbaa
