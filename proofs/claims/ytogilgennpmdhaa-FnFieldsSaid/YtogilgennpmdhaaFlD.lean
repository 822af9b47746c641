/- FnFields: what the reference draws: primes, numbers, vectors. -/
import Derived.Test.YtogilgennpmdhaaCurN
import Derived.Test.YtogilgennpmdhaaVecOps
namespace Go.Proofs.Ytogilgennpmdhaa
open Go.RowKit
set_option linter.unusedVariables false
set_option linter.unusedSimpArgs false

theorem lit_bd {L : List Int} (h : L.all (fun x => decide (-9223372036854775808 ≤ x) && decide (x ≤ 9223372036854775807)) = true) : ∀ x ∈ L, AnyI x := by
  intro x hx
  have := List.all_eq_true.1 h x hx
  simpa [AnyI] using this

set_option maxRecDepth 100000 in
set_option maxHeartbeats 1000000 in
theorem s_l2Prime (c : Nat) (w : World) (hcur : Cur w c) : Calls Try.prog 32 #[.pointer (some ⟨c, 0, none⟩)] w (Drawn AnyI c w) := by
  have HC := Lib.hid hcur
  clear hcur
  go_enter Try.func32, Try.ntmps32
  go_wp2_with fail
  refine (s_l1Once c _ _ HC.out).mono ?_; rintro e w1 ⟨b, rfl, hc1, hg1⟩
  have H1 := Lib.hid (And.intro hc1 hg1)
  clear hc1 hg1
  cases b with
  | true =>
    have hcon := pick_lit c [-1, 0, 1, 4, 7] (by decide) (by decide) w1 H1.out.1
    go_wp2_with fail
    refine hcon.mono ?_; rintro e w2 ⟨x, hx, rfl, hc2, hg2⟩
    have H2 := Lib.hid (And.intro (lit_bd (L := [-1, 0, 1, 4, 7]) (by decide) x hx) (And.intro hc2 (H1.out.2.trans hg2)))
    clear hx hc2 hg2 hcon
    go_wp2
    go_ret
    exact ⟨x, H2.out.1, rfl, H2.out.2.1, H2.out.2.2⟩
  | false =>
    have hcon := pick_lit c [2, 3, 5, 2, 3] (by decide) (by decide) w1 H1.out.1
    go_wp2_with fail
    refine hcon.mono ?_; rintro e w2 ⟨x, hx, rfl, hc2, hg2⟩
    have H2 := Lib.hid (And.intro (lit_bd (L := [2, 3, 5, 2, 3]) (by decide) x hx) (And.intro hc2 (H1.out.2.trans hg2)))
    clear hx hc2 hg2 hcon
    go_wp2
    go_ret
    exact ⟨x, H2.out.1, rfl, H2.out.2.1, H2.out.2.2⟩
set_option maxRecDepth 100000 in
set_option maxHeartbeats 1000000 in
theorem s_l2Number (c : Nat) (w : World) (hcur : Cur w c) : Calls Try.prog 33 #[.pointer (some ⟨c, 0, none⟩)] w (Drawn AnyI c w) := by
  have hcon := pick_lit c [0, 1, 2, 3, 4, 7, -1, -8, 9223372036854775807, -9223372036854775808] (by decide) (by decide) w hcur
  clear hcur
  go_enter Try.func33, Try.ntmps33
  go_wp2_with fail
  refine hcon.mono ?_; rintro e w2 ⟨x, hx, rfl, hc2, hg2⟩
  have H2 := Lib.hid (And.intro (lit_bd (L := [0, 1, 2, 3, 4, 7, -1, -8, 9223372036854775807, -9223372036854775808]) (by decide) x hx) (And.intro hc2 hg2))
  clear hx hc2 hg2 hcon
  go_wp2
  go_ret
  exact ⟨x, H2.out.1, rfl, H2.out.2.1, H2.out.2.2⟩
/-- a vector was drawn -/
def DrawnV (c : Nat) (w : World) (e : Ending) (w' : World) : Prop := ∃ (v : Value) (l : List Int), e = .returned v ∧ Ints w' v l ∧ FreshV w.heap.size v ∧ Cur w' c ∧ CChg c w w'
set_option maxRecDepth 100000 in
set_option maxHeartbeats 4000000 in
theorem s_l2Vector (c n : Nat) (p : Int) (hn : n ≤ 100) (w : World) (hcur : Cur w c) :
    Calls Try.prog 41 #[.pointer (some ⟨c, 0, none⟩), .int .i64 p, .int .i64 n] w (DrawnV c w) := by
  have hcw := hcur.lt
  obtain ⟨B, hB⟩ : ∃ B, B = w.heap.size := ⟨_, rfl⟩
  have hcB : c < B := by omega
  have HBE := Lib.hid hB
  have hBle : B ≤ w.heap.size := by omega
  have hal := (Below.refl w.heap.size w).alloc (Nat.le_refl _) (.cells #[] 3)
  have H0 := Lib.hid (And.intro (hcur.below hal) (And.intro (Own.made w 3 .i64 hBle) (TChg.of_b (c := c) (B := B) ((Below.refl B w).alloc hBle (.cells #[] 3)))))
  clear hcur hal hB
  go_enter Try.func41, Try.ntmps41
  go_wp2
  go_loopw [7, 8] (fun v i wr => ∃ (k : Nat) (L : List Int), i = .int .i64 k ∧ k ≤ n ∧ L.length = k ∧ Hid (Cur wr c ∧ Own wr B 3 .i64 v L ∧ TChg c B w wr)) (fun _ i _ => n - (intOf i).toNat)
  case atStart => exact ⟨0, [], rfl, by omega, rfl, H0.out⟩
  case round =>
    obtain ⟨k, L, rfl, hk, hL, HR⟩ := hrel
    have HL := Lib.hid hL
    clear hL
    have hws : B ≤ wr.heap.size := Nat.le_trans hBle HR.out.2.2.size
    by_cases hlt : k < n
    · have hcase : (p < 5 ∧ 1 < p) ∨ (p < 5 ∧ ¬ 1 < p) ∨ ¬ p < 5 := by omega
      rcases hcase with ⟨h5, h1⟩ | ⟨h5, h1⟩ | h5
      all_goals
        go_wp2_with fail
        refine (s_l1Below c _ _ HR.out.1).mono ?_; rintro e w3 ⟨x, _, rfl, hc1, hg1⟩
        have H3 := Lib.hid (And.intro hc1 (And.intro (HR.out.2.1.chg hg1 hcB) (HR.out.2.2.trans (TChg.of_c hg1))))
        have hws3 : B ≤ w3.heap.size := Nat.le_trans hws hg1.size
        clear hc1 hg1
        go_wp2_with (at_builtin; refine app_int w3 w3 rfl (.tmp 15) (.tmp 21) rfl B _ L rfl rfl H3.out.2.1 (Below.refl _ _) hws3 (by rw [HL.out]; omega) ?_)
        intro v' w4 hown4 hbel4 hB4
        have H4 := Lib.hid (And.intro (H3.out.1.belowB hbel4 hcB) (And.intro hown4 (H3.out.2.2.trans (TChg.of_b hbel4))))
        clear hown4 hbel4
        go_wp2
        go_roundw
        case rel => exact ⟨k + 1, _, by go_num, by omega, by simp [HL.out], H4⟩
        case measure => simp [intOf]; omega
    · obtain rfl : k = n := by omega
      by_cases hn0 : k = 0
      · subst hn0
        have HQ := Lib.hid (Ints.of_own HR.out.2.1)
        go_wp2
        go_ret
        exact ⟨_, L, rfl, HQ.out.1, HQ.out.2.mono (by rw [HBE.out]; exact Nat.le_refl _), HR.out.1, HR.out.2.2.cchg (by rw [HBE.out]; exact Nat.le_refl _)⟩
      · have hn1 : decide (0 < k) = true := by simp; omega
        go_wp2_with fail
        refine (s_l1Once c _ _ HR.out.1).mono ?_; rintro e w3 ⟨b, rfl, hc1, hg1⟩
        have H3 := Lib.hid (And.intro hc1 (And.intro (HR.out.2.1.chg hg1 hcB) (HR.out.2.2.trans (TChg.of_c hg1))))
        clear hc1 hg1
        cases b with
        | false =>
          have HQ := Lib.hid (Ints.of_own H3.out.2.1)
          go_wp2
          go_ret
          exact ⟨_, L, rfl, HQ.out.1, HQ.out.2.mono (by rw [HBE.out]; exact Nat.le_refl _), H3.out.1, H3.out.2.2.cchg (by rw [HBE.out]; exact Nat.le_refl _)⟩
        | true =>
          have hcon := pick_lit c [-1, 5, 9223372036854775807] (by decide) (by decide) w3 H3.out.1
          go_wp2_with fail
          refine hcon.mono ?_; rintro e w4 ⟨x, _, rfl, hc2, hg2⟩
          have ho4 := H3.out.2.1.chg hg2 hcB
          obtain ⟨hl0, g, gc, rfl, hBg, hgs, hc0, hf0⟩ : 0 < L.length ∧ ∃ g gc, u7 = .slice (some ⟨g, 0, none⟩) L.length gc ∧ B ≤ g ∧ g < w4.heap.size ∧ w4.cell? ⟨g, 0, none⟩ = some (.int .i64 (L.getD 0 0)) ∧ w4.frozen? ⟨g, 0, none⟩ = false := by
            have hl0 : 0 < L.length := by rw [HL.out]; omega
            obtain ⟨g, gc, e⟩ : ∃ g gc, u7 = .slice (some ⟨g, 0, none⟩) L.length gc := by
              rcases ho4.2 with ⟨_, h0⟩ | ⟨g, gc, cur, e, _⟩
              · omega
              · exact ⟨g, gc, e⟩
            rw [e] at ho4
            obtain ⟨g', hg', hb', hs', hc', hf'⟩ := (Own.at ho4).2.2 hl0
            have : g = g' := by simpa using hg'
            subst this
            exact ⟨hl0, g, gc, e, hb', hs', hc' 0 hl0, hf' 0⟩
          have hst := ho4.store 0 x
          have HQ := Lib.hid (And.intro (Ints.of_own hst) (And.intro (hc2.setFar (p := ⟨g, 0, none⟩) (Nat.lt_of_lt_of_le hcB hBg) (.int .i64 x)) ((H3.out.2.2.trans (TChg.of_c hg2)).setCell (p := ⟨g, 0, none⟩) hBg (.int .i64 x))))
          clear hcon hc2 hg2 ho4 hst
          go_wp2
          go_ret
          exact ⟨_, _, rfl, HQ.out.1.1, HQ.out.1.2.mono (by rw [HBE.out]; exact Nat.le_refl _), HQ.out.2.1, HQ.out.2.2.cchg (by rw [HBE.out]; exact Nat.le_refl _)⟩
end Go.Proofs.Ytogilgennpmdhaa
