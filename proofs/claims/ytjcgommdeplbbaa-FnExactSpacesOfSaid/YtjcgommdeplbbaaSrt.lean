/- The comparisons that the sort of spaces is given. -/
import Derived.Test.YtjcgommdeplbbaaCmpL
import Derived.Test.YtjcgommdeplbbaaShelf
import Derived.Test.YtjcgommdeplbbaaSS
namespace Go.Proofs.Ytjcgommdeplbbaa
open Go.RowKit
set_option linter.unusedVariables false
set_option linter.unusedSimpArgs false

set_option maxRecDepth 100000 in
set_option maxHeartbeats 1000000 in
theorem Compare_ints (v1 v2 : Value) (l m : List Int) (w : World) (h1 : Ints w v1 l) (h2 : Ints w v2 m) :
    Calls Try.prog 34 #[v1, v2] w (IntAns (cmpV l m) w) := by
  obtain ⟨a1, c1, rfl, hl1, hm1⟩ := h1.shape
  obtain ⟨a2, c2, rfl, hl2, hm2⟩ := h2.shape
  have H1 := Lib.hid h1; have H2 := Lib.hid h2
  clear h1 h2
  go_enter Try.func34, Try.ntmps34
  go_wp2
  go_loop [11] (fun iv => ∃ i : Nat, i ≤ l.length ∧ i ≤ m.length ∧ iv = .int .i64 i ∧ Hid (cmpV l m = cmpG cmpI (l.drop i) (m.drop i))) (fun iv => l.length - (intOf iv).toNat)
  case atStart => exact ⟨0, by omega, by omega, rfl, Lib.hid (by simp [cmpV])⟩
  case round =>
    obtain ⟨i, hi, hj, rfl, HE⟩ := hrel
    have hi0 : (0 : Int) ≤ (i : Int) := by omega
    by_cases hlt : i < l.length
    · obtain ⟨g, off, rfl, _, hc, _⟩ := H1.out.cell hlt
      have hi1 : (i : Int) < (l.length : Int) := by omega
      by_cases hlt2 : i < m.length
      · obtain ⟨g2, off2, rfl, _, hc2, _⟩ := H2.out.cell hlt2
        have hi2 : (i : Int) < (m.length : Int) := by omega
        have hd : decide ((m.length : Int) ≤ (i : Int)) = false := by simp; omega
        have hg1 : l.getD i 0 = l[i] := by simp [List.getD, hlt]
        have hg2 : m.getD i 0 = m[i] := by simp [List.getD, hlt2]
        have HN := Lib.hid (cmpG_drop (c := cmpI) hlt hlt2)
        rw [hg1] at hc; rw [hg2] at hc2
        obtain ⟨x, hx⟩ : ∃ x, x = l[i] := ⟨_, rfl⟩
        obtain ⟨y, hy⟩ : ∃ y, y = m[i] := ⟨_, rfl⟩
        rw [← hx] at hc; rw [← hy] at hc2; rw [← hx, ← hy] at HN
        have hcon : ∀ w, Calls Try.prog 48 #[.int .i64 x, .int .i64 y] w (fun e w' => e = .returned (.int .i64 (cmpI x y)) ∧ w' = w) := fun w => Try.cmp_Compare_int x y w
        generalize cmpI x y = r at hcon HN
        clear hg1 hg2 hx hy
        by_cases hr : r = 0
        · have hrb : (r != 0) = false := by simp [hr]
          have HN2 := Lib.hid (show cmpV l m = cmpG cmpI (l.drop (i + 1)) (m.drop (i + 1)) by rw [HE.out, HN.out, if_pos hr])
          go_wp2_with fail
          refine (hcon _).mono ?_; rintro e w1 ⟨rfl, rfl⟩
          go_wp2
          go_round
          case rel => exact ⟨i + 1, by omega, by omega, by go_num, HN2⟩
          case measure => simp [intOf]; omega
        · have hrb : (r != 0) = true := by simp [hr]
          have HN2 := Lib.hid (show cmpV l m = r by rw [HE.out, HN.out, if_neg hr])
          go_wp2_with fail
          refine (hcon _).mono ?_; rintro e w1 ⟨rfl, rfl⟩
          go_wp2
          go_ret
          exact ⟨by rw [HN2.out]; rfl, rfl⟩
      · have hd : decide ((m.length : Int) ≤ (i : Int)) = true := by simp; omega
        have HN2 := Lib.hid (show cmpV l m = 1 by rw [HE.out, cmpG_more hlt (by omega)])
        go_wp2
        go_ret
        exact ⟨by rw [HN2.out]; rfl, rfl⟩
    · have hil : i = l.length := by omega
      have HN := Lib.hid (cmpG_end (c := cmpI) (l := l) (m := m) (i := i) (by omega) hj)
      by_cases hlm : l.length < m.length
      · have HN2 := Lib.hid (show cmpV l m = -1 by rw [HE.out, HN.out, if_pos (by omega)])
        have hd : decide ((l.length : Int) < (m.length : Int)) = true := by simp; omega
        go_wp2
        go_ret
        exact ⟨by rw [HN2.out]; rfl, rfl⟩
      · have HN2 := Lib.hid (show cmpV l m = 0 by rw [HE.out, HN.out, if_neg (by omega)])
        have hd : decide ((l.length : Int) < (m.length : Int)) = false := by simp; omega
        go_wp2
        go_ret
        exact ⟨by rw [HN2.out]; rfl, rfl⟩
set_option maxRecDepth 100000 in
set_option maxHeartbeats 400000 in
theorem i_spacesOf11 (v1 v2 : Value) (l m : List Int) (w : World) (h1 : Ints w v1 l) (h2 : Ints w v2 m) :
    Calls Try.prog 33 #[v1, v2] w (IntAns (cmpV l m) w) := by
  have hcon := Compare_ints v1 v2 l m w h1 h2
  generalize cmpV l m = r at hcon
  clear h1 h2
  go_enter Try.func33, Try.ntmps33
  go_wp2_with fail
  refine hcon.mono ?_; rintro e w1 ⟨rfl, rfl⟩
  go_wp2
  go_ret
  exact ⟨rfl, rfl⟩
set_option maxRecDepth 100000 in
set_option maxHeartbeats 1000000 in
theorem Compare_rows (v1 v2 : Value) (l m : List (List Int)) (w : World) (h1 : IntsS w v1 l) (h2 : IntsS w v2 m) :
    Calls Try.prog 32 #[v1, v2, .func (.func 33) #[] #[]] w (IntAns (cmpR l m) w) := by
  obtain ⟨a1, c1, rfl, hl1, hm1⟩ := h1.shape
  obtain ⟨a2, c2, rfl, hl2, hm2⟩ := h2.shape
  have H1 := Lib.hid h1; have H2 := Lib.hid h2
  clear h1 h2
  go_enter Try.func32, Try.ntmps32
  go_wp2
  go_loop [13] (fun iv => ∃ i : Nat, i ≤ l.length ∧ i ≤ m.length ∧ iv = .int .i64 i ∧ Hid (cmpR l m = cmpG cmpV (l.drop i) (m.drop i))) (fun iv => l.length - (intOf iv).toNat)
  case atStart => exact ⟨0, by omega, by omega, rfl, Lib.hid (by simp [cmpR])⟩
  case round =>
    obtain ⟨i, hi, hj, rfl, HE⟩ := hrel
    have hi0 : (0 : Int) ≤ (i : Int) := by omega
    by_cases hlt : i < l.length
    · obtain ⟨g, off, u, rfl, _, hc, hu⟩ := H1.out.cell hlt
      have hi1 : (i : Int) < (l.length : Int) := by omega
      by_cases hlt2 : i < m.length
      · obtain ⟨g2, off2, u2, rfl, _, hc2, hu2⟩ := H2.out.cell hlt2
        have hi2 : (i : Int) < (m.length : Int) := by omega
        have hd : decide ((m.length : Int) ≤ (i : Int)) = false := by simp; omega
        have hg1 : l.getD i [] = l[i] := by simp [List.getD, hlt]
        have hg2 : m.getD i [] = m[i] := by simp [List.getD, hlt2]
        have HN := Lib.hid (cmpG_drop (c := cmpV) hlt hlt2)
        rw [hg1] at hu; rw [hg2] at hu2
        obtain ⟨x, hx⟩ : ∃ x, x = l[i] := ⟨_, rfl⟩
        obtain ⟨y, hy⟩ : ∃ y, y = m[i] := ⟨_, rfl⟩
        rw [← hx] at hu; rw [← hy] at hu2; rw [← hx, ← hy] at HN
        obtain ⟨au, cu, rfl, _, _⟩ := hu.shape
        obtain ⟨au2, cu2, rfl, _, _⟩ := hu2.shape
        have hcon := i_spacesOf11 _ _ x y w hu hu2
        generalize cmpV x y = r at hcon HN
        clear hg1 hg2 hx hy hu hu2
        by_cases hr : r = 0
        · have hrb : (r != 0) = false := by simp [hr]
          have HN2 := Lib.hid (show cmpR l m = cmpG cmpV (l.drop (i + 1)) (m.drop (i + 1)) by rw [HE.out, HN.out, if_pos hr])
          go_wp2_with fail
          refine hcon.mono ?_; rintro e w1 ⟨rfl, rfl⟩
          go_wp2
          go_round
          case rel => exact ⟨i + 1, by omega, by omega, by go_num, HN2⟩
          case measure => simp [intOf]; omega
        · have hrb : (r != 0) = true := by simp [hr]
          have HN2 := Lib.hid (show cmpR l m = r by rw [HE.out, HN.out, if_neg hr])
          go_wp2_with fail
          refine hcon.mono ?_; rintro e w1 ⟨rfl, rfl⟩
          go_wp2
          go_ret
          exact ⟨by rw [HN2.out]; rfl, rfl⟩
      · have hd : decide ((m.length : Int) ≤ (i : Int)) = true := by simp; omega
        have HN2 := Lib.hid (show cmpR l m = 1 by rw [HE.out, cmpG_more hlt (by omega)])
        clear hu
        have hsh : True := trivial
        go_wp2
        go_ret
        exact ⟨by rw [HN2.out]; rfl, rfl⟩
    · have hil : i = l.length := by omega
      have HN := Lib.hid (cmpG_end (c := cmpV) (l := l) (m := m) (i := i) (by omega) hj)
      by_cases hlm : l.length < m.length
      · have HN2 := Lib.hid (show cmpR l m = -1 by rw [HE.out, HN.out, if_pos (by omega)])
        have hd : decide ((l.length : Int) < (m.length : Int)) = true := by simp; omega
        go_wp2
        go_ret
        exact ⟨by rw [HN2.out]; rfl, rfl⟩
      · have HN2 := Lib.hid (show cmpR l m = 0 by rw [HE.out, HN.out, if_neg (by omega)])
        have hd : decide ((l.length : Int) < (m.length : Int)) = false := by simp; omega
        go_wp2
        go_ret
        exact ⟨by rw [HN2.out]; rfl, rfl⟩
end Go.Proofs.Ytjcgommdeplbbaa
