/- Representations: the laws' own helpers on them (size, copy, comparison). -/
import Derived.Test.YtmcjgaffecimlaaMs3
import Derived.Test.YtmcjgaffecimlaaQuiv
import Derived.Test.YtmcjgaffecimlaaPathV
namespace Go.Proofs.Ytmcjgaffecimlaa
open Go.RowKit
set_option linter.unusedVariables false
set_option linter.unusedSimpArgs false

theorem blk6 {w : World} {b : Nat} {x0 x1 x2 x3 x4 x5 : Value} {T : TypeId} (p : Blk w b #[x0, x1, x2, x3, x4, x5] T) :
    w.cell? ⟨b, 0, none⟩ = some x0 ∧ w.cell? ⟨b, 1, none⟩ = some x1 ∧ w.cell? ⟨b, 2, none⟩ = some x2 ∧ w.cell? ⟨b, 3, none⟩ = some x3 ∧ w.cell? ⟨b, 4, none⟩ = some x4 ∧ w.cell? ⟨b, 5, none⟩ = some x5 :=
  ⟨p.cell 0, p.cell 1, p.cell 2, p.cell 3, p.cell 4, p.cell 5⟩
def totR (lf lt ld : List Int) (L : List Mt) : Nat := lf.length + lt.length + ld.length + szT (mtR L)
def szRp (left : Int) (lf lt ld : List Int) (L : List Mt) : Int := if left < totR lf lt ld L then -1 else left - totR lf lt ld L
set_option maxRecDepth 100000 in
set_option maxHeartbeats 2000000 in
theorem l_szRep (P n : Int) (vf vt vd vm : Value) (lf lt ld : List Int) (L : List Mt) (left : Int) (w : World) (hf : Raw w vf lf) (ht : Raw w vt lt) (hd : Raw w vd ld) (hm : RawM w vm L) (h0 : 0 ≤ left) (h1 : left ≤ 1048576) :
    Calls Try.prog 21 #[.agg #[.int .i64 P, .int .i64 n, vf, vt, vd, vm], .int .i64 left] w (IntAnsC (szRp left lf lt ld L) w) := by
  obtain ⟨a1, c1, rfl, _, _⟩ := hf.shape
  obtain ⟨a2, c2, rfl, _, _⟩ := ht.shape
  obtain ⟨a3, c3, rfl, _, _⟩ := hd.shape
  obtain ⟨a4, c4, rfl, _, _⟩ := hm.shape
  have hb : Below w.heap.size w (w.alloc (.cells #[.int .i64 P, .int .i64 n, .slice a1 lf.length c1, .slice a2 lt.length c2, .slice a3 ld.length c3, .slice a4 L.length c4] 47)) := (Below.refl _ w).alloc (Nat.le_refl _) _
  have P0 := Lib.hid (Blk.new w #[.int .i64 P, .int .i64 n, .slice a1 lf.length c1, .slice a2 lt.length c2, .slice a3 ld.length c3, .slice a4 L.length c4] 47)
  have HF := Lib.hid (hf.below hb); have HT := Lib.hid (ht.below hb); have HDD := Lib.hid (hd.below hb); have HM := Lib.hid (hm.below hb)
  have HB := Lib.hid hb
  have hcon := l_szQuiver n _ _ lf lt left _ HF.out HT.out h0 h1
  clear hf ht hd hm hb
  by_cases hq : left < (lf.length + lt.length : Nat)
  · have eq1 : szQ left lf lt = -1 := by unfold szQ szI; repeat (first | rfl | omega | split)
    have HE := Lib.hid (show szRp left lf lt ld L = -1 from if_pos (by unfold totR; omega))
    rw [eq1] at hcon
    clear eq1 hq
    go_enter Try.func21, Try.ntmps21
    go_wp2_with fail
    refine hcon.mono ?_; rintro e w1 ⟨rfl, b1⟩
    have HB1 := Lib.hid (below_call HB.out b1 HB.out.size)
    clear b1 hcon
    go_wp2
    go_ret
    exact ⟨ret_int HE.out.symm, HB1.out⟩
  have eq1 : szQ left lf lt = left - lf.length - lt.length := by unfold szQ szI; repeat (first | rfl | omega | split)
  rw [eq1] at hcon
  obtain ⟨q1, hq1⟩ : ∃ q, q = left - lf.length - lt.length := ⟨_, rfl⟩
  rw [← hq1] at hcon
  have g0 : 0 ≤ q1 := by omega
  have g1 : q1 ≤ 1048576 := by omega
  have HQ1 := Lib.hid hq1
  have HQ := Lib.hid hq
  clear eq1 hq hq1
  by_cases hr : q1 < ld.length
  · have eq2 : szI q1 ld = -1 := if_pos hr
    have HE := Lib.hid (show szRp left lf lt ld L = -1 from if_pos (by have := HQ1.out; unfold totR; omega))
    clear hr
    go_enter Try.func21, Try.ntmps21
    go_wp2_with fail
    refine hcon.mono ?_; rintro e w1 ⟨rfl, b1⟩
    have HB1 := Lib.hid (below_call HB.out b1 HB.out.size)
    obtain ⟨p0, p1, p2, p3, p4, p5⟩ := blk6 (P0.out.below b1)
    have hc2 := l_szIntS _ ld q1 w1 (HDD.out.below b1) g0 g1
    rw [eq2] at hc2
    clear b1 hcon eq2
    go_wp2_with fail
    refine hc2.mono ?_; rintro e w' ⟨rfl, rfl⟩
    go_wp2
    go_ret
    exact ⟨ret_int HE.out.symm, HB1.out⟩
  have eq2 : szI q1 ld = q1 - ld.length := if_neg hr
  obtain ⟨q2, hq2⟩ : ∃ q, q = q1 - ld.length := ⟨_, rfl⟩
  have g2 : 0 ≤ q2 := by omega
  have g3 : q2 ≤ 1048576 := by omega
  have HQ2 := Lib.hid hq2
  rw [← hq2] at eq2
  have HE := Lib.hid (show szRp left lf lt ld L = szII q2 (mtR L) from by
    have := HQ1.out
    unfold szRp szII totR
    by_cases hz : q2 < szT (mtR L)
    · rw [if_pos hz, if_pos (by omega)]
    · rw [if_neg hz, if_neg (by omega)]; omega)
  clear hr hq2
  go_enter Try.func21, Try.ntmps21
  go_wp2_with fail
  refine hcon.mono ?_; rintro e w1 ⟨rfl, b1⟩
  have HB1 := Lib.hid (below_call HB.out b1 HB.out.size)
  obtain ⟨p0, p1, p2, p3, p4, p5⟩ := blk6 (P0.out.below b1)
  have hc2 := l_szIntS _ ld q1 w1 (HDD.out.below b1) g0 g1
  rw [eq2] at hc2
  have hc3 := l_szMatrixS _ L q2 w1 (HM.out.below b1) g2 g3
  clear b1 hcon eq2
  go_wp2_with fail
  refine hc2.mono ?_; rintro e w' ⟨rfl, rfl⟩
  go_wp2_with fail
  refine hc3.mono ?_; rintro e w2 ⟨rfl, b2⟩
  have HB2 := Lib.hid (below_call HB1.out b2 HB1.out.size)
  obtain ⟨z, hz⟩ : ∃ z, z = szII q2 (mtR L) := ⟨_, rfl⟩
  rw [← hz] at HE ⊢
  have hz2 : z = -1 ∨ 0 ≤ z := by
    rw [hz]; unfold szII; split
    · exact .inl rfl
    · exact .inr (by omega)
  clear b2 hc2 hc3 hz p0 p1 p2 p3 p4 p5
  rcases hz2 with rfl | hz2
  · go_wp2
    go_ret
    exact ⟨ret_int HE.out.symm, HB2.out⟩
  · have hzn : decide (z < 0) = false := by simp; omega
    go_wp2
    go_ret
    exact ⟨ret_int HE.out.symm, HB2.out⟩
end Go.Proofs.Ytmcjgaffecimlaa
