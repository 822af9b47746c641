/- What the reference draws for numbers and texts: any number of an int, a text of at most so many bytes. -/
import Derived.Test.YthempdleolefnaaDoorCur
import Derived.Test.YthempdleolefnaaDoorOwn
namespace Go.Proofs.YthempdleolefnaaDoor
open Go.RowKit
set_option linter.unusedVariables false
set_option linter.unusedSimpArgs false

def AnyI (r : Int) : Prop := -9223372036854775808 ≤ r ∧ r ≤ 9223372036854775807
theorem Own.chg {w w' : World} {B : Nat} {e : TypeId} {k : IntKind} {v : Value} {l : List Int} {c : Nat} (h : Own w B e k v l) (hc : CChg c w w') (hB : c < B) : Own w' B e k v l := by
  refine World.ownsRow.kept h (row := some c) ⟨hc.os, hc.tape, hc.output, hc.size, fun i hi hne => hc.block i hi (fun e => hne (by rw [e]))⟩ ?_
  cases hb : v.ownBlock with
  | none => exact .inl rfl
  | some g => exact .inr (fun e => by have := h.lt g hb; simp at e; omega)

def numsL : List Int := [-1, 0, 127, 128, 255, 256, 16383, 16384, 65535, 65536, 562949953421311, 562949953421312, 999999999, 1000000000, -999999999, 9223372036854775807, -9223372036854775808]
theorem numsL_bd : ∀ x ∈ numsL, AnyI x := by unfold AnyI numsL; simp
set_option maxRecDepth 100000 in
set_option maxHeartbeats 2000000 in
theorem s_l1Num (c : Nat) (w : World) (hcur : Cur w c) :
    Calls Tryd.prog 30 #[.pointer (some ⟨c, 0, none⟩)] w (Drawn AnyI c w) := by
  have HC := Lib.hid hcur
  clear hcur
  go_enter Tryd.func30, Tryd.ntmps30
  go_wp2_with fail
  refine (s_l1Below c _ _ HC.out).mono ?_; rintro e w1 ⟨r, hr, rfl, hc1, hg1⟩
  obtain ⟨r0, r1⟩ : 0 ≤ r ∧ r < 8 := by rcases hr with h | h <;> omega
  have H1 := Lib.hid (And.intro hc1 hg1)
  clear hc1 hg1 hr
  by_cases h0 : r = 0
  · subst h0
    obtain ⟨hI, hF⟩ := Ints.of_own (B := w1.heap.size) (l := numsL) (w := w1.alloc (.cells (numsL.map (Value.int .i64)).toArray 3)) (v := .slice (some ⟨w1.heap.size, 0, none⟩) 17 17) (World.ownsRow_lit w1 (numsL.map (Value.int .i64)).toArray 17 (Nat.le_refl _) (by decide) rfl)
    have hal := (Below.refl w1.heap.size w1).alloc (Nat.le_refl _) (.cells (numsL.map (Value.int .i64)).toArray 3)
    have hcon := s_l1PickInt c _ numsL _ (H1.out.1.below hal) hI (fun q hq => by have := hF q hq; have := H1.out.1.lt; omega) (by decide)
    have HG := Lib.hid (H1.out.2.trans (CChg.of_below hal))
    clear hI hF hal
    go_wp2_with fail
    refine hcon.mono ?_; rintro e w2 ⟨x, hx, rfl, hc2, hg2⟩
    have H2 := Lib.hid (And.intro hc2 (HG.out.trans hg2))
    clear hc2 hg2 hcon
    have HX := Lib.hid hx
    clear hx
    go_wp2
    go_ret
    exact ⟨x, numsL_bd x HX.out, rfl, H2.out.1, H2.out.2⟩
  · have q0 : (r == 0) = false := by simp; omega
    by_cases h1 : r = 1
    · subst h1
      go_wp2_with fail
      refine (s_l1Below c _ _ H1.out.1).mono ?_; rintro e w2 ⟨x, hx, rfl, hc1, hg1⟩
      obtain ⟨x0, x1⟩ : 0 ≤ x ∧ x < 1000000000 := by rcases hx with h | h <;> omega
      have H2 := Lib.hid (And.intro hc1 (H1.out.2.trans hg1))
      clear hc1 hg1 hx
      go_wp2_with fail
      refine (s_l1Below c _ _ H2.out.1).mono ?_; rintro e w3 ⟨y, hy, rfl, hc1, hg1⟩
      obtain ⟨y0, y1⟩ : 0 ≤ y ∧ y < 1000000000 := by rcases hy with h | h <;> omega
      have H3 := Lib.hid (And.intro hc1 (H2.out.2.trans hg1))
      clear hc1 hg1 hy
      have hm0 : 0 ≤ x * y := Int.mul_nonneg x0 y0
      have hm1 : x * y ≤ 1000000000 * 1000000000 := Int.mul_le_mul (by omega) (by omega) y0 (by omega)
      go_wp2
      go_ret
      exact ⟨_, ⟨by omega, by omega⟩, rfl, H3.out.1, H3.out.2⟩
    · have q1 : (r == 1) = false := by simp; omega
      by_cases h2 : r = 2
      · subst h2
        go_wp2_with fail
        refine (s_l1Below c _ _ H1.out.1).mono ?_; rintro e w2 ⟨x, hx, rfl, hc1, hg1⟩
        obtain ⟨x0, x1⟩ : 0 ≤ x ∧ x < 100000 := by rcases hx with h | h <;> omega
        have H2 := Lib.hid (And.intro hc1 (H1.out.2.trans hg1))
        clear hc1 hg1 hx
        go_wp2
        go_ret
        exact ⟨_, ⟨by omega, by omega⟩, rfl, H2.out.1, H2.out.2⟩
      · have q2 : (r == 2) = false := by simp; omega
        go_wp2_with fail
        refine (s_l1Below c _ _ H1.out.1).mono ?_; rintro e w2 ⟨x, hx, rfl, hc1, hg1⟩
        obtain ⟨x0, x1⟩ : 0 ≤ x ∧ x < 70000 := by rcases hx with h | h <;> omega
        have H2 := Lib.hid (And.intro hc1 (H1.out.2.trans hg1))
        clear hc1 hg1 hx
        go_wp2
        go_ret
        exact ⟨_, ⟨by omega, by omega⟩, rfl, H2.out.1, H2.out.2⟩

/-- a text of at most n bytes was drawn -/
def DrawnS (n c : Nat) (w : World) (e : Ending) (w' : World) : Prop := ∃ s : ByteArray, s.size ≤ n ∧ e = .returned (.string s) ∧ Cur w' c ∧ CChg c w w'
/-- blocks other than c and those from B on stand -/
def TChg (c B : Nat) (w w' : World) : Prop := Chg (fun k => k = c ∨ B ≤ k) w w'
theorem TChg.refl (c B : Nat) (w : World) : TChg c B w w := Chg.refl _ w
theorem TChg.trans {c B : Nat} {a b d : World} (h : TChg c B a b) (k : TChg c B b d) : TChg c B a d := Chg.trans h k
theorem TChg.of_c {c B : Nat} {a b : World} (h : CChg c a b) : TChg c B a b := ⟨h.1, h.2, h.3, h.4, fun k hk hx => h.5 k hk (fun e => hx (.inl e))⟩
theorem TChg.of_b {c B : Nat} {a b : World} (h : Below B a b) : TChg c B a b := ⟨h.os, h.tape, h.output, h.size, fun k hk hx => h.block k (by
  rcases Nat.lt_or_ge k B with h | h
  · exact h
  · exact absurd (.inr h) hx)⟩
theorem TChg.cchg {c B : Nat} {a b : World} (h : TChg c B a b) (hB : a.heap.size ≤ B) : CChg c a b := Chg.mono h (fun k hk hx => by rcases hx with h | h; exact h; omega)
set_option maxRecDepth 100000 in
set_option maxHeartbeats 4000000 in
theorem s_l1Text (c most : Nat) (hm : most ≤ 1000) (w : World) (hcur : Cur w c) :
    Calls Tryd.prog 31 #[.pointer (some ⟨c, 0, none⟩), .int .i64 most] w (DrawnS most c w) := by
  have hcw := hcur.lt
  obtain ⟨B, hB⟩ : ∃ B, B = w.heap.size := ⟨_, rfl⟩
  have hcB : c < B := by omega
  have HBE := Lib.hid hB
  have hBle : B ≤ w.heap.size := by omega
  have hal := (Below.refl w.heap.size w).alloc (Nat.le_refl _) (.cells #[] 5)
  have H0 := Lib.hid (And.intro (hcur.below hal) (And.intro (Own.made w 5 .u8 hBle) (TChg.of_b (c := c) (B := B) ((Below.refl B w).alloc hBle (.cells #[] 5)))))
  clear hcur hal hB
  go_enter Tryd.func31, Tryd.ntmps31
  go_wp2_with fail
  refine (s_l1Below c _ _ H0.out.1).mono ?_; rintro e w1 ⟨st, hst, rfl, hc1, hg1⟩
  obtain ⟨st0, st1⟩ : 0 ≤ st ∧ st < 4 := by rcases hst with h | h <;> omega
  have H1 := Lib.hid (And.intro hc1 (And.intro (H0.out.2.1.chg hg1 hcB) (H0.out.2.2.trans (TChg.of_c hg1))))
  clear hc1 hg1 hst
  go_wp2_with fail
  refine (s_l1Below c _ _ H1.out.1).mono ?_; rintro e w2 ⟨k0, hk0, rfl, hc1, hg1⟩
  obtain ⟨k00, k01⟩ : 0 ≤ k0 ∧ k0 ≤ most := by rcases hk0 with h | h <;> omega
  have H2 := Lib.hid (And.intro hc1 (And.intro (H1.out.2.1.chg hg1 hcB) (H1.out.2.2.trans (TChg.of_c hg1))))
  clear hc1 hg1 hk0
  obtain ⟨k, rfl⟩ := Int.eq_ofNat_of_zero_le k00
  go_wp2
  go_loopw [5, 7, 8] (fun v n _ wr => ∃ (j : Nat) (L : List Int), n = .int .i64 j ∧ j ≤ most ∧ L.length + j ≤ most ∧ Hid (Cur wr c ∧ Own wr B 5 .u8 v L ∧ TChg c B w wr)) (fun _ n _ _ => (intOf n).toNat)
  case atStart => exact ⟨k, [], rfl, by omega, by simp; omega, H2.out⟩
  case round =>
    obtain ⟨j, L, rfl, hj, hL, HR⟩ := hrel
    have hws : B ≤ wr.heap.size := Nat.le_trans hBle HR.out.2.2.size
    by_cases hz : j = 0
    · subst hz
      have ht := text_of_bytes HR.out.2.1
      go_wp2
      go_ret
      exact ⟨strOfNums L, by rw [strOfNums_size]; omega, rfl, HR.out.1, HR.out.2.2.cchg (by rw [HBE.out]; exact Nat.le_refl _)⟩
    · have hj0 : decide (0 < j) = true := by simp; omega
      go_wp2_with fail
      refine (s_l1Byte c _ HR.out.1).mono ?_; rintro e w3 ⟨b, ⟨b0, b1⟩, rfl, hc1, hg1⟩
      have H3 := Lib.hid (And.intro hc1 (And.intro (HR.out.2.1.chg hg1 hcB) (HR.out.2.2.trans (TChg.of_c hg1))))
      have hws3 : B ≤ w3.heap.size := Nat.le_trans hws hg1.size
      clear hc1 hg1
      by_cases h1 : st = 1
      · subst h1
        go_wp2_with (at_builtin; refine app_byte w3 w3 rfl (.tmp 31) (.tmp 34) rfl B _ L rfl rfl H3.out.2.1 (Below.refl _ _) hws3 (by omega) ?_)
        intro v' w4 hown4 hbel4 hB4
        have H4 := Lib.hid (And.intro (H3.out.1.belowB hbel4 hcB) (And.intro hown4 (H3.out.2.2.trans (TChg.of_b hbel4))))
        clear hown4 hbel4
        go_wp2
        go_roundw
        case rel => exact ⟨j - 1, _, by rw [show ((j - 1 : Nat) : Int) = (j : Int) - 1 by omega], by omega, by simp; omega, H4⟩
        case measure => simp [intOf]; omega
      · have q1 : (st == 1) = false := by simp; omega
        by_cases h2 : st = 2
        · subst h2
          go_wp2_with (at_builtin; refine app_byte w3 w3 rfl (.tmp 31) (.tmp 34) rfl B _ L rfl rfl H3.out.2.1 (Below.refl _ _) hws3 (by omega) ?_)
          intro v' w4 hown4 hbel4 hB4
          have H4 := Lib.hid (And.intro (H3.out.1.belowB hbel4 hcB) (And.intro hown4 (H3.out.2.2.trans (TChg.of_b hbel4))))
          clear hown4 hbel4
          go_wp2
          go_roundw
          case rel => exact ⟨j - 1, _, by rw [show ((j - 1 : Nat) : Int) = (j : Int) - 1 by omega], by omega, by simp; omega, H4⟩
          case measure => simp [intOf]; omega
        · have q2 : (st == 2) = false := by simp; omega
          go_wp2_with (at_builtin; refine app_byte w3 w3 rfl (.tmp 31) (.tmp 34) rfl B _ L rfl rfl H3.out.2.1 (Below.refl _ _) hws3 (by omega) ?_)
          intro v' w4 hown4 hbel4 hB4
          have H4 := Lib.hid (And.intro (H3.out.1.belowB hbel4 hcB) (And.intro hown4 (H3.out.2.2.trans (TChg.of_b hbel4))))
          clear hown4 hbel4
          go_wp2
          go_roundw
          case rel => exact ⟨j - 1, _, by rw [show ((j - 1 : Nat) : Int) = (j : Int) - 1 by omega], by omega, by simp; omega, H4⟩
          case measure => simp [intOf]; omega

end Go.Proofs.YthempdleolefnaaDoor
