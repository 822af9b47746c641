/- FnFields: the law's walk. -/
import Derived.Test.YtogilgennpmdhaaFlDr
import Derived.Test.YtogilgennpmdhaaFlL
import Derived.Test.YtogilgennpmdhaaAddVec
import Derived.Test.YtogilgennpmdhaaScaleVec
namespace Go.Proofs.Ytogilgennpmdhaa
open Go.RowKit
set_option linter.unusedVariables false
set_option linter.unusedSimpArgs false

theorem prod_i64 {r y : Int} (r0 : 0 ≤ r) (r1 : r < 5) (y0 : 0 ≤ y) (y1 : y < 5) : IntKind.i64.wrap (r * y) = r * y := by
  have h0 : 0 ≤ r * y := Int.mul_nonneg r0 y0
  have h1 : r * y ≤ 5 * 5 := Int.mul_le_mul (by omega) (by omega) y0 (by omega)
  exact IntWalk.i64_in _ (by omega)
theorem red_bd (p x : Int) (hp : isF p = true) : 0 ≤ redM p x ∧ redM p x < 5 := by
  have hr : redM p x = x % p := if_pos hp
  rw [hr]
  rcases isF_cases hp with rfl | rfl | rfl <;> omega
theorem inv_bd (p x : Int) (hp : isF p = true) : 0 ≤ invV p x ∧ invV p x < 5 := by
  have hi : invV p x = invN p (x % p) := if_pos hp
  rw [hi]
  have := inv_range (x := x) hp
  generalize x % p = r at this
  unfold invN
  rcases isF_cases hp with rfl | rfl | rfl <;> (repeat' split) <;> omega
theorem red_no {p x : Int} (hp : isF p = false) : redM p x = 0 := if_neg (by simp [hp])
theorem l_same_self {a b : Value} {l : List Int} (w : World) (ha : Ints w a l) (hb : Ints w b l) :
    Calls Try.prog 14 #[a, b] w (BoolAnsB true w) := by
  have := l_sameInts a b l l w ha hb
  rw [decide_eq_true rfl] at this
  exact this

set_option maxRecDepth 100000 in
set_option maxHeartbeats 40000000 in
theorem law_FnFields (v : Value) (n : Nat) (w : World) (hv : Byt w v n w.heap.size) :
    Calls Try.prog 3 #[v] w fun e w' => e = .returned (.bool true) ∧ Below w.heap.size w w' := by
  have HE := Lib.hid hv
  clear hv
  by_cases hbig : 1048576 < n
  · have hb := Lib.hid (show decide ((1048576 : Int) < (n : Int)) = true by simp; omega)
    go_enter Try.func3, Try.ntmps3
    go_wp2_with fail
    refine (l_big v n _ _ HE.out).mono ?_; rintro e wz ⟨rfl, rfl⟩
    rw [hb.out]
    go_wp2
    go_ret
    exact ⟨rfl, Below.refl _ _⟩
  · have hb := Lib.hid (show decide ((1048576 : Int) < (n : Int)) = false by simp; omega)
    have hn : n ≤ 1048576 := by omega
    clear hbig
    go_enter Try.func3, Try.ntmps3
    go_wp2_with fail
    refine (l_big v n _ _ HE.out).mono ?_; rintro e wz ⟨rfl, rfl⟩
    rw [hb.out]
    go_wp2_with fail
    refine (s_DrawInverseMod v n _ HE.out hn).mono ?_; rintro e w1 ⟨p, x, hp0, hx0, rfl, b⟩
    have B1 := Lib.hid (b)
    clear b
    have P0 := Lib.hid hp0; have X0 := Lib.hid hx0; clear hp0 hx0
    go_wp2_with fail
    refine (i_InverseMod p x _).mono ?_; rintro e w2 ⟨rfl, rfl⟩
    go_wp2_with fail
    refine (s_InverseMod p x _).mono ?_; rintro e w2 ⟨rfl, rfl⟩
    have RI := Lib.hid (fun hp hr => red_inv (p := p) (x := x) hp hr)
    have RB := Lib.hid (red_bd p x)
    have YB := Lib.hid (inv_bd p x)
    have RN := Lib.hid (fun hp => red_no (p := p) (x := x) hp)
    generalize invV p x = y at RI YB ⊢
    go_wp2_with fail
    refine (i_ReduceMod p x _).mono ?_; rintro e w2 ⟨rfl, rfl⟩
    go_wp2_with fail
    refine (s_ReduceMod p x _).mono ?_; rintro e w2 ⟨rfl, rfl⟩
    generalize hrr : redM p x = r at RI RB RN ⊢
    have HRR := Lib.hid hrr
    clear hrr
    have hcase : isF p = false ∨ (isF p = true ∧ r = 0) ∨ (isF p = true ∧ r ≠ 0) := by
      cases isF p
      · exact .inl rfl
      · by_cases h : r = 0
        · exact .inr (.inl ⟨rfl, h⟩)
        · exact .inr (.inr ⟨rfl, h⟩)
    go_wp2_with fail
    refine (s_IsField p _).mono ?_; rintro e w2 ⟨rfl, rfl⟩
    rcases hcase with hF | ⟨hF, hr0⟩ | ⟨hF, hr0⟩
    · skip
      rw [hF]
      clear RI RB YB RN
      go_wp2_with fail
      refine (s_DrawVectorOf v n _ ((HE.out.below B1.out).mono B1.out.size) hn).mono ?_; rintro e w2 ⟨q, m, t, hq0, hm0, ht0, rfl, b⟩
      have B2 := Lib.hid (B1.out.trans (b.mono B1.out.size))
      clear b
      have T0 := Lib.hid (And.intro hq0 (And.intro hm0 ht0)); clear hq0 hm0 ht0
      go_wp2_with fail
      refine (i_VectorOf q m t T0.out.2.2.2 _).mono ?_; rintro e w3 ⟨vi, rfl, hi, hf, b⟩
      have V_vi := Lib.hid hi
      clear hi
      have B3 := Lib.hid (B2.out.trans (b.mono B2.out.size))
      clear b
      clear hf
      go_wp2_with fail
      refine (s_VectorOf q m t T0.out.2.2.2 _).mono ?_; rintro e w4 ⟨vs, rfl, hi, hf, b⟩
      have V_vs := Lib.hid hi
      have V_vi := Lib.hid (V_vi.out.below b)
      clear hi
      have B4 := Lib.hid (B3.out.trans (b.mono B3.out.size))
      clear b
      clear hf
      have CV := Lib.hid (fun hok => cod_vec (p := q) (n := m) (c := t) hok)
      generalize vecR q m t = L at V_vi V_vs CV ⊢
      generalize hok : vecOK q m t = ok at CV ⊢
      clear hok
      go_wp2_with fail
      refine (l_same_self _ V_vi.out V_vs.out).mono ?_; rintro e w5 ⟨rfl, b⟩
      have V_vi := Lib.hid (V_vi.out.below b)
      have V_vs := Lib.hid (V_vs.out.below b)
      have B5 := Lib.hid (B4.out.trans (b.mono B4.out.size))
      clear b
      cases ok
      · skip
        clear V_vi V_vs CV
        go_wp2_with fail
        refine (s_DrawAddVectors v n _ ((HE.out.below B5.out).mono B5.out.size) hn).mono ?_; rintro e w6 ⟨p1, va, la, vb, lb, hi, hf, hi2, hf2, rfl, b⟩
        have V_va := Lib.hid hi
        have V_vb := Lib.hid hi2
        clear hi hi2
        have B6 := Lib.hid (B5.out.trans (b.mono B5.out.size))
        clear b
        clear hf hf2
        go_wp2_with fail
        refine (i_AddVectors p1 va vb la lb _ V_va.out V_vb.out).mono ?_; rintro e w7 ⟨c1, rfl, hi, hf, b⟩
        have V_c1 := Lib.hid hi
        have V_va := Lib.hid (V_va.out.below b)
        have V_vb := Lib.hid (V_vb.out.below b)
        clear hi
        have B7 := Lib.hid (B6.out.trans (b.mono B6.out.size))
        clear b
        clear hf
        go_wp2_with fail
        refine (s_AddVectors p1 va vb la lb _ V_va.out V_vb.out).mono ?_; rintro e w8 ⟨c2, rfl, hi, hf, b⟩
        have V_c2 := Lib.hid hi
        have V_va := Lib.hid (V_va.out.below b)
        have V_vb := Lib.hid (V_vb.out.below b)
        have V_c1 := Lib.hid (V_c1.out.below b)
        clear hi
        have B8 := Lib.hid (B7.out.trans (b.mono B7.out.size))
        clear b
        clear hf V_va V_vb
        generalize addR p1 la lb = LA at V_c1 V_c2 ⊢
        generalize addOK p1 la lb = oa
        go_wp2_with fail
        refine (s_DrawScaleVector v n _ ((HE.out.below B8.out).mono B8.out.size) hn).mono ?_; rintro e w9 ⟨p2, k2, va, l2, hi, hf, rfl, b⟩
        have V_va := Lib.hid hi
        have V_c1 := Lib.hid (V_c1.out.below b)
        have V_c2 := Lib.hid (V_c2.out.below b)
        clear hi
        have B9 := Lib.hid (B8.out.trans (b.mono B8.out.size))
        clear b
        clear hf
        go_wp2_with fail
        refine (i_ScaleVector p2 k2 va l2 _ V_va.out).mono ?_; rintro e w10 ⟨d1, rfl, hi, hf, b⟩
        have V_d1 := Lib.hid hi
        have V_c1 := Lib.hid (V_c1.out.below b)
        have V_c2 := Lib.hid (V_c2.out.below b)
        have V_va := Lib.hid (V_va.out.below b)
        clear hi
        have B10 := Lib.hid (B9.out.trans (b.mono B9.out.size))
        clear b
        clear hf
        go_wp2_with fail
        refine (s_ScaleVector p2 k2 va l2 _ V_va.out).mono ?_; rintro e w11 ⟨d2, rfl, hi, hf, b⟩
        have V_d2 := Lib.hid hi
        have V_c1 := Lib.hid (V_c1.out.below b)
        have V_c2 := Lib.hid (V_c2.out.below b)
        have V_va := Lib.hid (V_va.out.below b)
        have V_d1 := Lib.hid (V_d1.out.below b)
        clear hi
        have B11 := Lib.hid (B10.out.trans (b.mono B10.out.size))
        clear b
        clear hf V_va
        generalize scaR p2 k2 l2 = LS at V_d1 V_d2 ⊢
        generalize isV p2 l2 = os
        go_wp2_with fail
        refine (s_DrawPowerMod v n _ ((HE.out.below B11.out).mono B11.out.size) hn).mono ?_; rintro e w12 ⟨p3, x3, n3, h1, h2, h3, rfl, b⟩
        have V_c1 := Lib.hid (V_c1.out.below b)
        have V_c2 := Lib.hid (V_c2.out.below b)
        have V_d1 := Lib.hid (V_d1.out.below b)
        have V_d2 := Lib.hid (V_d2.out.below b)
        have B12 := Lib.hid (B11.out.trans (b.mono B11.out.size))
        clear b
        clear h1 h2 h3
        go_wp2_with fail
        refine (s_DrawCodeOf v n _ ((HE.out.below B12.out).mono B12.out.size) hn).mono ?_; rintro e w13 ⟨p4, v4, l4, hi, hf, rfl, b⟩
        have V_v4 := Lib.hid hi
        have V_c1 := Lib.hid (V_c1.out.below b)
        have V_c2 := Lib.hid (V_c2.out.below b)
        have V_d1 := Lib.hid (V_d1.out.below b)
        have V_d2 := Lib.hid (V_d2.out.below b)
        clear hi
        have B13 := Lib.hid (B12.out.trans (b.mono B12.out.size))
        clear b
        clear hf
        go_wp2_with fail
        refine (s_DrawIsVector v n _ ((HE.out.below B13.out).mono B13.out.size) hn).mono ?_; rintro e w14 ⟨p5, v5, l5, hi, hf, rfl, b⟩
        have V_v5 := Lib.hid hi
        have V_c1 := Lib.hid (V_c1.out.below b)
        have V_c2 := Lib.hid (V_c2.out.below b)
        have V_d1 := Lib.hid (V_d1.out.below b)
        have V_d2 := Lib.hid (V_d2.out.below b)
        have V_v4 := Lib.hid (V_v4.out.below b)
        clear hi
        have B14 := Lib.hid (B13.out.trans (b.mono B13.out.size))
        clear b
        clear hf
        go_wp2_with fail
        refine (l_same_self _ V_c1.out V_c2.out).mono ?_; rintro e w15 ⟨rfl, b⟩
        have V_c1 := Lib.hid (V_c1.out.below b)
        have V_c2 := Lib.hid (V_c2.out.below b)
        have V_d1 := Lib.hid (V_d1.out.below b)
        have V_d2 := Lib.hid (V_d2.out.below b)
        have V_v4 := Lib.hid (V_v4.out.below b)
        have V_v5 := Lib.hid (V_v5.out.below b)
        have B15 := Lib.hid (B14.out.trans (b.mono B14.out.size))
        clear b
        clear V_c1 V_c2
        go_wp2_with fail
        refine (l_same_self _ V_d1.out V_d2.out).mono ?_; rintro e w16 ⟨rfl, b⟩
        have V_d1 := Lib.hid (V_d1.out.below b)
        have V_d2 := Lib.hid (V_d2.out.below b)
        have V_v4 := Lib.hid (V_v4.out.below b)
        have V_v5 := Lib.hid (V_v5.out.below b)
        have B16 := Lib.hid (B15.out.trans (b.mono B15.out.size))
        clear b
        clear V_d1 V_d2
        go_wp2_with fail
        refine (i_PowerMod p3 x3 n3 _).mono ?_; rintro e w17 ⟨rfl, rfl⟩
        go_wp2_with fail
        refine (s_PowerMod p3 x3 n3 _).mono ?_; rintro e w17 ⟨rfl, rfl⟩
        generalize powV p3 x3 n3 = z3
        go_wp2_with fail
        refine (i_CodeOf p4 v4 l4 _ V_v4.out).mono ?_; rintro e w17 ⟨rfl, b⟩
        have V_v4 := Lib.hid (V_v4.out.below b)
        have V_v5 := Lib.hid (V_v5.out.below b)
        have B17 := Lib.hid (B16.out.trans (b.mono B16.out.size))
        clear b
        go_wp2_with fail
        refine (s_CodeOf p4 v4 l4 _ V_v4.out).mono ?_; rintro e w18 ⟨rfl, rfl⟩
        generalize codV p4 l4 = z4
        clear V_v4
        go_wp2_with fail
        refine (i_IsVector p5 v5 l5 _ V_v5.out).mono ?_; rintro e w18 ⟨rfl, b⟩
        have V_v5 := Lib.hid (V_v5.out.below b)
        have B18 := Lib.hid (B17.out.trans (b.mono B17.out.size))
        clear b
        go_wp2_with fail
        refine (s_IsVector p5 v5 l5 _ V_v5.out).mono ?_; rintro e w19 ⟨rfl, rfl⟩
        generalize isV p5 l5 = z5
        go_wp2_with fail
        refine (i_IsField p _).mono ?_; rintro e w19 ⟨rfl, rfl⟩
        go_wp2_with fail
        refine (s_IsField p _).mono ?_; rintro e w19 ⟨rfl, rfl⟩
        go_wp2
        go_ret
        exact ⟨rfl, B18.out⟩
      · skip
        go_wp2_with fail
        refine (i_CodeOf q vs L _ V_vs.out).mono ?_; rintro e w6 ⟨rfl, b⟩
        have V_vi := Lib.hid (V_vi.out.below b)
        have V_vs := Lib.hid (V_vs.out.below b)
        have B6 := Lib.hid (B5.out.trans (b.mono B5.out.size))
        clear b
        rw [show codV q L = t from CV.out trivial]
        clear V_vi V_vs CV
        go_wp2_with fail
        refine (s_DrawAddVectors v n _ ((HE.out.below B6.out).mono B6.out.size) hn).mono ?_; rintro e w7 ⟨p1, va, la, vb, lb, hi, hf, hi2, hf2, rfl, b⟩
        have V_va := Lib.hid hi
        have V_vb := Lib.hid hi2
        clear hi hi2
        have B7 := Lib.hid (B6.out.trans (b.mono B6.out.size))
        clear b
        clear hf hf2
        go_wp2_with fail
        refine (i_AddVectors p1 va vb la lb _ V_va.out V_vb.out).mono ?_; rintro e w8 ⟨c1, rfl, hi, hf, b⟩
        have V_c1 := Lib.hid hi
        have V_va := Lib.hid (V_va.out.below b)
        have V_vb := Lib.hid (V_vb.out.below b)
        clear hi
        have B8 := Lib.hid (B7.out.trans (b.mono B7.out.size))
        clear b
        clear hf
        go_wp2_with fail
        refine (s_AddVectors p1 va vb la lb _ V_va.out V_vb.out).mono ?_; rintro e w9 ⟨c2, rfl, hi, hf, b⟩
        have V_c2 := Lib.hid hi
        have V_va := Lib.hid (V_va.out.below b)
        have V_vb := Lib.hid (V_vb.out.below b)
        have V_c1 := Lib.hid (V_c1.out.below b)
        clear hi
        have B9 := Lib.hid (B8.out.trans (b.mono B8.out.size))
        clear b
        clear hf V_va V_vb
        generalize addR p1 la lb = LA at V_c1 V_c2 ⊢
        generalize addOK p1 la lb = oa
        go_wp2_with fail
        refine (s_DrawScaleVector v n _ ((HE.out.below B9.out).mono B9.out.size) hn).mono ?_; rintro e w10 ⟨p2, k2, va, l2, hi, hf, rfl, b⟩
        have V_va := Lib.hid hi
        have V_c1 := Lib.hid (V_c1.out.below b)
        have V_c2 := Lib.hid (V_c2.out.below b)
        clear hi
        have B10 := Lib.hid (B9.out.trans (b.mono B9.out.size))
        clear b
        clear hf
        go_wp2_with fail
        refine (i_ScaleVector p2 k2 va l2 _ V_va.out).mono ?_; rintro e w11 ⟨d1, rfl, hi, hf, b⟩
        have V_d1 := Lib.hid hi
        have V_c1 := Lib.hid (V_c1.out.below b)
        have V_c2 := Lib.hid (V_c2.out.below b)
        have V_va := Lib.hid (V_va.out.below b)
        clear hi
        have B11 := Lib.hid (B10.out.trans (b.mono B10.out.size))
        clear b
        clear hf
        go_wp2_with fail
        refine (s_ScaleVector p2 k2 va l2 _ V_va.out).mono ?_; rintro e w12 ⟨d2, rfl, hi, hf, b⟩
        have V_d2 := Lib.hid hi
        have V_c1 := Lib.hid (V_c1.out.below b)
        have V_c2 := Lib.hid (V_c2.out.below b)
        have V_va := Lib.hid (V_va.out.below b)
        have V_d1 := Lib.hid (V_d1.out.below b)
        clear hi
        have B12 := Lib.hid (B11.out.trans (b.mono B11.out.size))
        clear b
        clear hf V_va
        generalize scaR p2 k2 l2 = LS at V_d1 V_d2 ⊢
        generalize isV p2 l2 = os
        go_wp2_with fail
        refine (s_DrawPowerMod v n _ ((HE.out.below B12.out).mono B12.out.size) hn).mono ?_; rintro e w13 ⟨p3, x3, n3, h1, h2, h3, rfl, b⟩
        have V_c1 := Lib.hid (V_c1.out.below b)
        have V_c2 := Lib.hid (V_c2.out.below b)
        have V_d1 := Lib.hid (V_d1.out.below b)
        have V_d2 := Lib.hid (V_d2.out.below b)
        have B13 := Lib.hid (B12.out.trans (b.mono B12.out.size))
        clear b
        clear h1 h2 h3
        go_wp2_with fail
        refine (s_DrawCodeOf v n _ ((HE.out.below B13.out).mono B13.out.size) hn).mono ?_; rintro e w14 ⟨p4, v4, l4, hi, hf, rfl, b⟩
        have V_v4 := Lib.hid hi
        have V_c1 := Lib.hid (V_c1.out.below b)
        have V_c2 := Lib.hid (V_c2.out.below b)
        have V_d1 := Lib.hid (V_d1.out.below b)
        have V_d2 := Lib.hid (V_d2.out.below b)
        clear hi
        have B14 := Lib.hid (B13.out.trans (b.mono B13.out.size))
        clear b
        clear hf
        go_wp2_with fail
        refine (s_DrawIsVector v n _ ((HE.out.below B14.out).mono B14.out.size) hn).mono ?_; rintro e w15 ⟨p5, v5, l5, hi, hf, rfl, b⟩
        have V_v5 := Lib.hid hi
        have V_c1 := Lib.hid (V_c1.out.below b)
        have V_c2 := Lib.hid (V_c2.out.below b)
        have V_d1 := Lib.hid (V_d1.out.below b)
        have V_d2 := Lib.hid (V_d2.out.below b)
        have V_v4 := Lib.hid (V_v4.out.below b)
        clear hi
        have B15 := Lib.hid (B14.out.trans (b.mono B14.out.size))
        clear b
        clear hf
        go_wp2_with fail
        refine (l_same_self _ V_c1.out V_c2.out).mono ?_; rintro e w16 ⟨rfl, b⟩
        have V_c1 := Lib.hid (V_c1.out.below b)
        have V_c2 := Lib.hid (V_c2.out.below b)
        have V_d1 := Lib.hid (V_d1.out.below b)
        have V_d2 := Lib.hid (V_d2.out.below b)
        have V_v4 := Lib.hid (V_v4.out.below b)
        have V_v5 := Lib.hid (V_v5.out.below b)
        have B16 := Lib.hid (B15.out.trans (b.mono B15.out.size))
        clear b
        clear V_c1 V_c2
        go_wp2_with fail
        refine (l_same_self _ V_d1.out V_d2.out).mono ?_; rintro e w17 ⟨rfl, b⟩
        have V_d1 := Lib.hid (V_d1.out.below b)
        have V_d2 := Lib.hid (V_d2.out.below b)
        have V_v4 := Lib.hid (V_v4.out.below b)
        have V_v5 := Lib.hid (V_v5.out.below b)
        have B17 := Lib.hid (B16.out.trans (b.mono B16.out.size))
        clear b
        clear V_d1 V_d2
        go_wp2_with fail
        refine (i_PowerMod p3 x3 n3 _).mono ?_; rintro e w18 ⟨rfl, rfl⟩
        go_wp2_with fail
        refine (s_PowerMod p3 x3 n3 _).mono ?_; rintro e w18 ⟨rfl, rfl⟩
        generalize powV p3 x3 n3 = z3
        go_wp2_with fail
        refine (i_CodeOf p4 v4 l4 _ V_v4.out).mono ?_; rintro e w18 ⟨rfl, b⟩
        have V_v4 := Lib.hid (V_v4.out.below b)
        have V_v5 := Lib.hid (V_v5.out.below b)
        have B18 := Lib.hid (B17.out.trans (b.mono B17.out.size))
        clear b
        go_wp2_with fail
        refine (s_CodeOf p4 v4 l4 _ V_v4.out).mono ?_; rintro e w19 ⟨rfl, rfl⟩
        generalize codV p4 l4 = z4
        clear V_v4
        go_wp2_with fail
        refine (i_IsVector p5 v5 l5 _ V_v5.out).mono ?_; rintro e w19 ⟨rfl, b⟩
        have V_v5 := Lib.hid (V_v5.out.below b)
        have B19 := Lib.hid (B18.out.trans (b.mono B18.out.size))
        clear b
        go_wp2_with fail
        refine (s_IsVector p5 v5 l5 _ V_v5.out).mono ?_; rintro e w20 ⟨rfl, rfl⟩
        generalize isV p5 l5 = z5
        go_wp2_with fail
        refine (i_IsField p _).mono ?_; rintro e w20 ⟨rfl, rfl⟩
        go_wp2_with fail
        refine (s_IsField p _).mono ?_; rintro e w20 ⟨rfl, rfl⟩
        go_wp2
        go_ret
        exact ⟨rfl, B19.out⟩
    · skip
      rw [hF]
      clear RI RB YB RN
      go_wp2_with fail
      refine (i_ReduceMod p x _).mono ?_; rintro e w2 ⟨rfl, rfl⟩
      rw [HRR.out, hr0]
      go_wp2_with fail
      refine (s_DrawVectorOf v n _ ((HE.out.below B1.out).mono B1.out.size) hn).mono ?_; rintro e w2 ⟨q, m, t, hq0, hm0, ht0, rfl, b⟩
      have B2 := Lib.hid (B1.out.trans (b.mono B1.out.size))
      clear b
      have T0 := Lib.hid (And.intro hq0 (And.intro hm0 ht0)); clear hq0 hm0 ht0
      go_wp2_with fail
      refine (i_VectorOf q m t T0.out.2.2.2 _).mono ?_; rintro e w3 ⟨vi, rfl, hi, hf, b⟩
      have V_vi := Lib.hid hi
      clear hi
      have B3 := Lib.hid (B2.out.trans (b.mono B2.out.size))
      clear b
      clear hf
      go_wp2_with fail
      refine (s_VectorOf q m t T0.out.2.2.2 _).mono ?_; rintro e w4 ⟨vs, rfl, hi, hf, b⟩
      have V_vs := Lib.hid hi
      have V_vi := Lib.hid (V_vi.out.below b)
      clear hi
      have B4 := Lib.hid (B3.out.trans (b.mono B3.out.size))
      clear b
      clear hf
      have CV := Lib.hid (fun hok => cod_vec (p := q) (n := m) (c := t) hok)
      generalize vecR q m t = L at V_vi V_vs CV ⊢
      generalize hok : vecOK q m t = ok at CV ⊢
      clear hok
      go_wp2_with fail
      refine (l_same_self _ V_vi.out V_vs.out).mono ?_; rintro e w5 ⟨rfl, b⟩
      have V_vi := Lib.hid (V_vi.out.below b)
      have V_vs := Lib.hid (V_vs.out.below b)
      have B5 := Lib.hid (B4.out.trans (b.mono B4.out.size))
      clear b
      cases ok
      · skip
        clear V_vi V_vs CV
        go_wp2_with fail
        refine (s_DrawAddVectors v n _ ((HE.out.below B5.out).mono B5.out.size) hn).mono ?_; rintro e w6 ⟨p1, va, la, vb, lb, hi, hf, hi2, hf2, rfl, b⟩
        have V_va := Lib.hid hi
        have V_vb := Lib.hid hi2
        clear hi hi2
        have B6 := Lib.hid (B5.out.trans (b.mono B5.out.size))
        clear b
        clear hf hf2
        go_wp2_with fail
        refine (i_AddVectors p1 va vb la lb _ V_va.out V_vb.out).mono ?_; rintro e w7 ⟨c1, rfl, hi, hf, b⟩
        have V_c1 := Lib.hid hi
        have V_va := Lib.hid (V_va.out.below b)
        have V_vb := Lib.hid (V_vb.out.below b)
        clear hi
        have B7 := Lib.hid (B6.out.trans (b.mono B6.out.size))
        clear b
        clear hf
        go_wp2_with fail
        refine (s_AddVectors p1 va vb la lb _ V_va.out V_vb.out).mono ?_; rintro e w8 ⟨c2, rfl, hi, hf, b⟩
        have V_c2 := Lib.hid hi
        have V_va := Lib.hid (V_va.out.below b)
        have V_vb := Lib.hid (V_vb.out.below b)
        have V_c1 := Lib.hid (V_c1.out.below b)
        clear hi
        have B8 := Lib.hid (B7.out.trans (b.mono B7.out.size))
        clear b
        clear hf V_va V_vb
        generalize addR p1 la lb = LA at V_c1 V_c2 ⊢
        generalize addOK p1 la lb = oa
        go_wp2_with fail
        refine (s_DrawScaleVector v n _ ((HE.out.below B8.out).mono B8.out.size) hn).mono ?_; rintro e w9 ⟨p2, k2, va, l2, hi, hf, rfl, b⟩
        have V_va := Lib.hid hi
        have V_c1 := Lib.hid (V_c1.out.below b)
        have V_c2 := Lib.hid (V_c2.out.below b)
        clear hi
        have B9 := Lib.hid (B8.out.trans (b.mono B8.out.size))
        clear b
        clear hf
        go_wp2_with fail
        refine (i_ScaleVector p2 k2 va l2 _ V_va.out).mono ?_; rintro e w10 ⟨d1, rfl, hi, hf, b⟩
        have V_d1 := Lib.hid hi
        have V_c1 := Lib.hid (V_c1.out.below b)
        have V_c2 := Lib.hid (V_c2.out.below b)
        have V_va := Lib.hid (V_va.out.below b)
        clear hi
        have B10 := Lib.hid (B9.out.trans (b.mono B9.out.size))
        clear b
        clear hf
        go_wp2_with fail
        refine (s_ScaleVector p2 k2 va l2 _ V_va.out).mono ?_; rintro e w11 ⟨d2, rfl, hi, hf, b⟩
        have V_d2 := Lib.hid hi
        have V_c1 := Lib.hid (V_c1.out.below b)
        have V_c2 := Lib.hid (V_c2.out.below b)
        have V_va := Lib.hid (V_va.out.below b)
        have V_d1 := Lib.hid (V_d1.out.below b)
        clear hi
        have B11 := Lib.hid (B10.out.trans (b.mono B10.out.size))
        clear b
        clear hf V_va
        generalize scaR p2 k2 l2 = LS at V_d1 V_d2 ⊢
        generalize isV p2 l2 = os
        go_wp2_with fail
        refine (s_DrawPowerMod v n _ ((HE.out.below B11.out).mono B11.out.size) hn).mono ?_; rintro e w12 ⟨p3, x3, n3, h1, h2, h3, rfl, b⟩
        have V_c1 := Lib.hid (V_c1.out.below b)
        have V_c2 := Lib.hid (V_c2.out.below b)
        have V_d1 := Lib.hid (V_d1.out.below b)
        have V_d2 := Lib.hid (V_d2.out.below b)
        have B12 := Lib.hid (B11.out.trans (b.mono B11.out.size))
        clear b
        clear h1 h2 h3
        go_wp2_with fail
        refine (s_DrawCodeOf v n _ ((HE.out.below B12.out).mono B12.out.size) hn).mono ?_; rintro e w13 ⟨p4, v4, l4, hi, hf, rfl, b⟩
        have V_v4 := Lib.hid hi
        have V_c1 := Lib.hid (V_c1.out.below b)
        have V_c2 := Lib.hid (V_c2.out.below b)
        have V_d1 := Lib.hid (V_d1.out.below b)
        have V_d2 := Lib.hid (V_d2.out.below b)
        clear hi
        have B13 := Lib.hid (B12.out.trans (b.mono B12.out.size))
        clear b
        clear hf
        go_wp2_with fail
        refine (s_DrawIsVector v n _ ((HE.out.below B13.out).mono B13.out.size) hn).mono ?_; rintro e w14 ⟨p5, v5, l5, hi, hf, rfl, b⟩
        have V_v5 := Lib.hid hi
        have V_c1 := Lib.hid (V_c1.out.below b)
        have V_c2 := Lib.hid (V_c2.out.below b)
        have V_d1 := Lib.hid (V_d1.out.below b)
        have V_d2 := Lib.hid (V_d2.out.below b)
        have V_v4 := Lib.hid (V_v4.out.below b)
        clear hi
        have B14 := Lib.hid (B13.out.trans (b.mono B13.out.size))
        clear b
        clear hf
        go_wp2_with fail
        refine (l_same_self _ V_c1.out V_c2.out).mono ?_; rintro e w15 ⟨rfl, b⟩
        have V_c1 := Lib.hid (V_c1.out.below b)
        have V_c2 := Lib.hid (V_c2.out.below b)
        have V_d1 := Lib.hid (V_d1.out.below b)
        have V_d2 := Lib.hid (V_d2.out.below b)
        have V_v4 := Lib.hid (V_v4.out.below b)
        have V_v5 := Lib.hid (V_v5.out.below b)
        have B15 := Lib.hid (B14.out.trans (b.mono B14.out.size))
        clear b
        clear V_c1 V_c2
        go_wp2_with fail
        refine (l_same_self _ V_d1.out V_d2.out).mono ?_; rintro e w16 ⟨rfl, b⟩
        have V_d1 := Lib.hid (V_d1.out.below b)
        have V_d2 := Lib.hid (V_d2.out.below b)
        have V_v4 := Lib.hid (V_v4.out.below b)
        have V_v5 := Lib.hid (V_v5.out.below b)
        have B16 := Lib.hid (B15.out.trans (b.mono B15.out.size))
        clear b
        clear V_d1 V_d2
        go_wp2_with fail
        refine (i_PowerMod p3 x3 n3 _).mono ?_; rintro e w17 ⟨rfl, rfl⟩
        go_wp2_with fail
        refine (s_PowerMod p3 x3 n3 _).mono ?_; rintro e w17 ⟨rfl, rfl⟩
        generalize powV p3 x3 n3 = z3
        go_wp2_with fail
        refine (i_CodeOf p4 v4 l4 _ V_v4.out).mono ?_; rintro e w17 ⟨rfl, b⟩
        have V_v4 := Lib.hid (V_v4.out.below b)
        have V_v5 := Lib.hid (V_v5.out.below b)
        have B17 := Lib.hid (B16.out.trans (b.mono B16.out.size))
        clear b
        go_wp2_with fail
        refine (s_CodeOf p4 v4 l4 _ V_v4.out).mono ?_; rintro e w18 ⟨rfl, rfl⟩
        generalize codV p4 l4 = z4
        clear V_v4
        go_wp2_with fail
        refine (i_IsVector p5 v5 l5 _ V_v5.out).mono ?_; rintro e w18 ⟨rfl, b⟩
        have V_v5 := Lib.hid (V_v5.out.below b)
        have B18 := Lib.hid (B17.out.trans (b.mono B17.out.size))
        clear b
        go_wp2_with fail
        refine (s_IsVector p5 v5 l5 _ V_v5.out).mono ?_; rintro e w19 ⟨rfl, rfl⟩
        generalize isV p5 l5 = z5
        go_wp2_with fail
        refine (i_IsField p _).mono ?_; rintro e w19 ⟨rfl, rfl⟩
        go_wp2_with fail
        refine (s_IsField p _).mono ?_; rintro e w19 ⟨rfl, rfl⟩
        go_wp2
        go_ret
        exact ⟨rfl, B18.out⟩
      · skip
        go_wp2_with fail
        refine (i_CodeOf q vs L _ V_vs.out).mono ?_; rintro e w6 ⟨rfl, b⟩
        have V_vi := Lib.hid (V_vi.out.below b)
        have V_vs := Lib.hid (V_vs.out.below b)
        have B6 := Lib.hid (B5.out.trans (b.mono B5.out.size))
        clear b
        rw [show codV q L = t from CV.out trivial]
        clear V_vi V_vs CV
        go_wp2_with fail
        refine (s_DrawAddVectors v n _ ((HE.out.below B6.out).mono B6.out.size) hn).mono ?_; rintro e w7 ⟨p1, va, la, vb, lb, hi, hf, hi2, hf2, rfl, b⟩
        have V_va := Lib.hid hi
        have V_vb := Lib.hid hi2
        clear hi hi2
        have B7 := Lib.hid (B6.out.trans (b.mono B6.out.size))
        clear b
        clear hf hf2
        go_wp2_with fail
        refine (i_AddVectors p1 va vb la lb _ V_va.out V_vb.out).mono ?_; rintro e w8 ⟨c1, rfl, hi, hf, b⟩
        have V_c1 := Lib.hid hi
        have V_va := Lib.hid (V_va.out.below b)
        have V_vb := Lib.hid (V_vb.out.below b)
        clear hi
        have B8 := Lib.hid (B7.out.trans (b.mono B7.out.size))
        clear b
        clear hf
        go_wp2_with fail
        refine (s_AddVectors p1 va vb la lb _ V_va.out V_vb.out).mono ?_; rintro e w9 ⟨c2, rfl, hi, hf, b⟩
        have V_c2 := Lib.hid hi
        have V_va := Lib.hid (V_va.out.below b)
        have V_vb := Lib.hid (V_vb.out.below b)
        have V_c1 := Lib.hid (V_c1.out.below b)
        clear hi
        have B9 := Lib.hid (B8.out.trans (b.mono B8.out.size))
        clear b
        clear hf V_va V_vb
        generalize addR p1 la lb = LA at V_c1 V_c2 ⊢
        generalize addOK p1 la lb = oa
        go_wp2_with fail
        refine (s_DrawScaleVector v n _ ((HE.out.below B9.out).mono B9.out.size) hn).mono ?_; rintro e w10 ⟨p2, k2, va, l2, hi, hf, rfl, b⟩
        have V_va := Lib.hid hi
        have V_c1 := Lib.hid (V_c1.out.below b)
        have V_c2 := Lib.hid (V_c2.out.below b)
        clear hi
        have B10 := Lib.hid (B9.out.trans (b.mono B9.out.size))
        clear b
        clear hf
        go_wp2_with fail
        refine (i_ScaleVector p2 k2 va l2 _ V_va.out).mono ?_; rintro e w11 ⟨d1, rfl, hi, hf, b⟩
        have V_d1 := Lib.hid hi
        have V_c1 := Lib.hid (V_c1.out.below b)
        have V_c2 := Lib.hid (V_c2.out.below b)
        have V_va := Lib.hid (V_va.out.below b)
        clear hi
        have B11 := Lib.hid (B10.out.trans (b.mono B10.out.size))
        clear b
        clear hf
        go_wp2_with fail
        refine (s_ScaleVector p2 k2 va l2 _ V_va.out).mono ?_; rintro e w12 ⟨d2, rfl, hi, hf, b⟩
        have V_d2 := Lib.hid hi
        have V_c1 := Lib.hid (V_c1.out.below b)
        have V_c2 := Lib.hid (V_c2.out.below b)
        have V_va := Lib.hid (V_va.out.below b)
        have V_d1 := Lib.hid (V_d1.out.below b)
        clear hi
        have B12 := Lib.hid (B11.out.trans (b.mono B11.out.size))
        clear b
        clear hf V_va
        generalize scaR p2 k2 l2 = LS at V_d1 V_d2 ⊢
        generalize isV p2 l2 = os
        go_wp2_with fail
        refine (s_DrawPowerMod v n _ ((HE.out.below B12.out).mono B12.out.size) hn).mono ?_; rintro e w13 ⟨p3, x3, n3, h1, h2, h3, rfl, b⟩
        have V_c1 := Lib.hid (V_c1.out.below b)
        have V_c2 := Lib.hid (V_c2.out.below b)
        have V_d1 := Lib.hid (V_d1.out.below b)
        have V_d2 := Lib.hid (V_d2.out.below b)
        have B13 := Lib.hid (B12.out.trans (b.mono B12.out.size))
        clear b
        clear h1 h2 h3
        go_wp2_with fail
        refine (s_DrawCodeOf v n _ ((HE.out.below B13.out).mono B13.out.size) hn).mono ?_; rintro e w14 ⟨p4, v4, l4, hi, hf, rfl, b⟩
        have V_v4 := Lib.hid hi
        have V_c1 := Lib.hid (V_c1.out.below b)
        have V_c2 := Lib.hid (V_c2.out.below b)
        have V_d1 := Lib.hid (V_d1.out.below b)
        have V_d2 := Lib.hid (V_d2.out.below b)
        clear hi
        have B14 := Lib.hid (B13.out.trans (b.mono B13.out.size))
        clear b
        clear hf
        go_wp2_with fail
        refine (s_DrawIsVector v n _ ((HE.out.below B14.out).mono B14.out.size) hn).mono ?_; rintro e w15 ⟨p5, v5, l5, hi, hf, rfl, b⟩
        have V_v5 := Lib.hid hi
        have V_c1 := Lib.hid (V_c1.out.below b)
        have V_c2 := Lib.hid (V_c2.out.below b)
        have V_d1 := Lib.hid (V_d1.out.below b)
        have V_d2 := Lib.hid (V_d2.out.below b)
        have V_v4 := Lib.hid (V_v4.out.below b)
        clear hi
        have B15 := Lib.hid (B14.out.trans (b.mono B14.out.size))
        clear b
        clear hf
        go_wp2_with fail
        refine (l_same_self _ V_c1.out V_c2.out).mono ?_; rintro e w16 ⟨rfl, b⟩
        have V_c1 := Lib.hid (V_c1.out.below b)
        have V_c2 := Lib.hid (V_c2.out.below b)
        have V_d1 := Lib.hid (V_d1.out.below b)
        have V_d2 := Lib.hid (V_d2.out.below b)
        have V_v4 := Lib.hid (V_v4.out.below b)
        have V_v5 := Lib.hid (V_v5.out.below b)
        have B16 := Lib.hid (B15.out.trans (b.mono B15.out.size))
        clear b
        clear V_c1 V_c2
        go_wp2_with fail
        refine (l_same_self _ V_d1.out V_d2.out).mono ?_; rintro e w17 ⟨rfl, b⟩
        have V_d1 := Lib.hid (V_d1.out.below b)
        have V_d2 := Lib.hid (V_d2.out.below b)
        have V_v4 := Lib.hid (V_v4.out.below b)
        have V_v5 := Lib.hid (V_v5.out.below b)
        have B17 := Lib.hid (B16.out.trans (b.mono B16.out.size))
        clear b
        clear V_d1 V_d2
        go_wp2_with fail
        refine (i_PowerMod p3 x3 n3 _).mono ?_; rintro e w18 ⟨rfl, rfl⟩
        go_wp2_with fail
        refine (s_PowerMod p3 x3 n3 _).mono ?_; rintro e w18 ⟨rfl, rfl⟩
        generalize powV p3 x3 n3 = z3
        go_wp2_with fail
        refine (i_CodeOf p4 v4 l4 _ V_v4.out).mono ?_; rintro e w18 ⟨rfl, b⟩
        have V_v4 := Lib.hid (V_v4.out.below b)
        have V_v5 := Lib.hid (V_v5.out.below b)
        have B18 := Lib.hid (B17.out.trans (b.mono B17.out.size))
        clear b
        go_wp2_with fail
        refine (s_CodeOf p4 v4 l4 _ V_v4.out).mono ?_; rintro e w19 ⟨rfl, rfl⟩
        generalize codV p4 l4 = z4
        clear V_v4
        go_wp2_with fail
        refine (i_IsVector p5 v5 l5 _ V_v5.out).mono ?_; rintro e w19 ⟨rfl, b⟩
        have V_v5 := Lib.hid (V_v5.out.below b)
        have B19 := Lib.hid (B18.out.trans (b.mono B18.out.size))
        clear b
        go_wp2_with fail
        refine (s_IsVector p5 v5 l5 _ V_v5.out).mono ?_; rintro e w20 ⟨rfl, rfl⟩
        generalize isV p5 l5 = z5
        go_wp2_with fail
        refine (i_IsField p _).mono ?_; rintro e w20 ⟨rfl, rfl⟩
        go_wp2_with fail
        refine (s_IsField p _).mono ?_; rintro e w20 ⟨rfl, rfl⟩
        go_wp2
        go_ret
        exact ⟨rfl, B19.out⟩
    · skip
      have hr1 : (r != 0) = true := by simpa using hr0
      have hpr : IntKind.i64.wrap (r * y) = r * y := prod_i64 (RB.out hF).1 (RB.out hF).2 (YB.out hF).1 (YB.out hF).2
      have RI1 := Lib.hid (RI.out hF hr0)
      rw [hF]
      clear RI RB YB RN
      go_wp2_with fail
      refine (i_ReduceMod p x _).mono ?_; rintro e w2 ⟨rfl, rfl⟩
      rw [HRR.out]
      go_wp2_with fail
      refine (i_ReduceMod p x _).mono ?_; rintro e w2 ⟨rfl, rfl⟩
      rw [HRR.out]
      go_wp2_with fail
      refine (i_ReduceMod p (r * y) _).mono ?_; rintro e w2 ⟨rfl, rfl⟩
      rw [RI1.out]
      clear hpr hr1 hr0
      go_wp2_with fail
      refine (s_DrawVectorOf v n _ ((HE.out.below B1.out).mono B1.out.size) hn).mono ?_; rintro e w2 ⟨q, m, t, hq0, hm0, ht0, rfl, b⟩
      have B2 := Lib.hid (B1.out.trans (b.mono B1.out.size))
      clear b
      have T0 := Lib.hid (And.intro hq0 (And.intro hm0 ht0)); clear hq0 hm0 ht0
      go_wp2_with fail
      refine (i_VectorOf q m t T0.out.2.2.2 _).mono ?_; rintro e w3 ⟨vi, rfl, hi, hf, b⟩
      have V_vi := Lib.hid hi
      clear hi
      have B3 := Lib.hid (B2.out.trans (b.mono B2.out.size))
      clear b
      clear hf
      go_wp2_with fail
      refine (s_VectorOf q m t T0.out.2.2.2 _).mono ?_; rintro e w4 ⟨vs, rfl, hi, hf, b⟩
      have V_vs := Lib.hid hi
      have V_vi := Lib.hid (V_vi.out.below b)
      clear hi
      have B4 := Lib.hid (B3.out.trans (b.mono B3.out.size))
      clear b
      clear hf
      have CV := Lib.hid (fun hok => cod_vec (p := q) (n := m) (c := t) hok)
      generalize vecR q m t = L at V_vi V_vs CV ⊢
      generalize hok : vecOK q m t = ok at CV ⊢
      clear hok
      go_wp2_with fail
      refine (l_same_self _ V_vi.out V_vs.out).mono ?_; rintro e w5 ⟨rfl, b⟩
      have V_vi := Lib.hid (V_vi.out.below b)
      have V_vs := Lib.hid (V_vs.out.below b)
      have B5 := Lib.hid (B4.out.trans (b.mono B4.out.size))
      clear b
      cases ok
      · skip
        clear V_vi V_vs CV
        go_wp2_with fail
        refine (s_DrawAddVectors v n _ ((HE.out.below B5.out).mono B5.out.size) hn).mono ?_; rintro e w6 ⟨p1, va, la, vb, lb, hi, hf, hi2, hf2, rfl, b⟩
        have V_va := Lib.hid hi
        have V_vb := Lib.hid hi2
        clear hi hi2
        have B6 := Lib.hid (B5.out.trans (b.mono B5.out.size))
        clear b
        clear hf hf2
        go_wp2_with fail
        refine (i_AddVectors p1 va vb la lb _ V_va.out V_vb.out).mono ?_; rintro e w7 ⟨c1, rfl, hi, hf, b⟩
        have V_c1 := Lib.hid hi
        have V_va := Lib.hid (V_va.out.below b)
        have V_vb := Lib.hid (V_vb.out.below b)
        clear hi
        have B7 := Lib.hid (B6.out.trans (b.mono B6.out.size))
        clear b
        clear hf
        go_wp2_with fail
        refine (s_AddVectors p1 va vb la lb _ V_va.out V_vb.out).mono ?_; rintro e w8 ⟨c2, rfl, hi, hf, b⟩
        have V_c2 := Lib.hid hi
        have V_va := Lib.hid (V_va.out.below b)
        have V_vb := Lib.hid (V_vb.out.below b)
        have V_c1 := Lib.hid (V_c1.out.below b)
        clear hi
        have B8 := Lib.hid (B7.out.trans (b.mono B7.out.size))
        clear b
        clear hf V_va V_vb
        generalize addR p1 la lb = LA at V_c1 V_c2 ⊢
        generalize addOK p1 la lb = oa
        go_wp2_with fail
        refine (s_DrawScaleVector v n _ ((HE.out.below B8.out).mono B8.out.size) hn).mono ?_; rintro e w9 ⟨p2, k2, va, l2, hi, hf, rfl, b⟩
        have V_va := Lib.hid hi
        have V_c1 := Lib.hid (V_c1.out.below b)
        have V_c2 := Lib.hid (V_c2.out.below b)
        clear hi
        have B9 := Lib.hid (B8.out.trans (b.mono B8.out.size))
        clear b
        clear hf
        go_wp2_with fail
        refine (i_ScaleVector p2 k2 va l2 _ V_va.out).mono ?_; rintro e w10 ⟨d1, rfl, hi, hf, b⟩
        have V_d1 := Lib.hid hi
        have V_c1 := Lib.hid (V_c1.out.below b)
        have V_c2 := Lib.hid (V_c2.out.below b)
        have V_va := Lib.hid (V_va.out.below b)
        clear hi
        have B10 := Lib.hid (B9.out.trans (b.mono B9.out.size))
        clear b
        clear hf
        go_wp2_with fail
        refine (s_ScaleVector p2 k2 va l2 _ V_va.out).mono ?_; rintro e w11 ⟨d2, rfl, hi, hf, b⟩
        have V_d2 := Lib.hid hi
        have V_c1 := Lib.hid (V_c1.out.below b)
        have V_c2 := Lib.hid (V_c2.out.below b)
        have V_va := Lib.hid (V_va.out.below b)
        have V_d1 := Lib.hid (V_d1.out.below b)
        clear hi
        have B11 := Lib.hid (B10.out.trans (b.mono B10.out.size))
        clear b
        clear hf V_va
        generalize scaR p2 k2 l2 = LS at V_d1 V_d2 ⊢
        generalize isV p2 l2 = os
        go_wp2_with fail
        refine (s_DrawPowerMod v n _ ((HE.out.below B11.out).mono B11.out.size) hn).mono ?_; rintro e w12 ⟨p3, x3, n3, h1, h2, h3, rfl, b⟩
        have V_c1 := Lib.hid (V_c1.out.below b)
        have V_c2 := Lib.hid (V_c2.out.below b)
        have V_d1 := Lib.hid (V_d1.out.below b)
        have V_d2 := Lib.hid (V_d2.out.below b)
        have B12 := Lib.hid (B11.out.trans (b.mono B11.out.size))
        clear b
        clear h1 h2 h3
        go_wp2_with fail
        refine (s_DrawCodeOf v n _ ((HE.out.below B12.out).mono B12.out.size) hn).mono ?_; rintro e w13 ⟨p4, v4, l4, hi, hf, rfl, b⟩
        have V_v4 := Lib.hid hi
        have V_c1 := Lib.hid (V_c1.out.below b)
        have V_c2 := Lib.hid (V_c2.out.below b)
        have V_d1 := Lib.hid (V_d1.out.below b)
        have V_d2 := Lib.hid (V_d2.out.below b)
        clear hi
        have B13 := Lib.hid (B12.out.trans (b.mono B12.out.size))
        clear b
        clear hf
        go_wp2_with fail
        refine (s_DrawIsVector v n _ ((HE.out.below B13.out).mono B13.out.size) hn).mono ?_; rintro e w14 ⟨p5, v5, l5, hi, hf, rfl, b⟩
        have V_v5 := Lib.hid hi
        have V_c1 := Lib.hid (V_c1.out.below b)
        have V_c2 := Lib.hid (V_c2.out.below b)
        have V_d1 := Lib.hid (V_d1.out.below b)
        have V_d2 := Lib.hid (V_d2.out.below b)
        have V_v4 := Lib.hid (V_v4.out.below b)
        clear hi
        have B14 := Lib.hid (B13.out.trans (b.mono B13.out.size))
        clear b
        clear hf
        go_wp2_with fail
        refine (l_same_self _ V_c1.out V_c2.out).mono ?_; rintro e w15 ⟨rfl, b⟩
        have V_c1 := Lib.hid (V_c1.out.below b)
        have V_c2 := Lib.hid (V_c2.out.below b)
        have V_d1 := Lib.hid (V_d1.out.below b)
        have V_d2 := Lib.hid (V_d2.out.below b)
        have V_v4 := Lib.hid (V_v4.out.below b)
        have V_v5 := Lib.hid (V_v5.out.below b)
        have B15 := Lib.hid (B14.out.trans (b.mono B14.out.size))
        clear b
        clear V_c1 V_c2
        go_wp2_with fail
        refine (l_same_self _ V_d1.out V_d2.out).mono ?_; rintro e w16 ⟨rfl, b⟩
        have V_d1 := Lib.hid (V_d1.out.below b)
        have V_d2 := Lib.hid (V_d2.out.below b)
        have V_v4 := Lib.hid (V_v4.out.below b)
        have V_v5 := Lib.hid (V_v5.out.below b)
        have B16 := Lib.hid (B15.out.trans (b.mono B15.out.size))
        clear b
        clear V_d1 V_d2
        go_wp2_with fail
        refine (i_PowerMod p3 x3 n3 _).mono ?_; rintro e w17 ⟨rfl, rfl⟩
        go_wp2_with fail
        refine (s_PowerMod p3 x3 n3 _).mono ?_; rintro e w17 ⟨rfl, rfl⟩
        generalize powV p3 x3 n3 = z3
        go_wp2_with fail
        refine (i_CodeOf p4 v4 l4 _ V_v4.out).mono ?_; rintro e w17 ⟨rfl, b⟩
        have V_v4 := Lib.hid (V_v4.out.below b)
        have V_v5 := Lib.hid (V_v5.out.below b)
        have B17 := Lib.hid (B16.out.trans (b.mono B16.out.size))
        clear b
        go_wp2_with fail
        refine (s_CodeOf p4 v4 l4 _ V_v4.out).mono ?_; rintro e w18 ⟨rfl, rfl⟩
        generalize codV p4 l4 = z4
        clear V_v4
        go_wp2_with fail
        refine (i_IsVector p5 v5 l5 _ V_v5.out).mono ?_; rintro e w18 ⟨rfl, b⟩
        have V_v5 := Lib.hid (V_v5.out.below b)
        have B18 := Lib.hid (B17.out.trans (b.mono B17.out.size))
        clear b
        go_wp2_with fail
        refine (s_IsVector p5 v5 l5 _ V_v5.out).mono ?_; rintro e w19 ⟨rfl, rfl⟩
        generalize isV p5 l5 = z5
        go_wp2_with fail
        refine (i_IsField p _).mono ?_; rintro e w19 ⟨rfl, rfl⟩
        go_wp2_with fail
        refine (s_IsField p _).mono ?_; rintro e w19 ⟨rfl, rfl⟩
        go_wp2
        go_ret
        exact ⟨rfl, B18.out⟩
      · skip
        go_wp2_with fail
        refine (i_CodeOf q vs L _ V_vs.out).mono ?_; rintro e w6 ⟨rfl, b⟩
        have V_vi := Lib.hid (V_vi.out.below b)
        have V_vs := Lib.hid (V_vs.out.below b)
        have B6 := Lib.hid (B5.out.trans (b.mono B5.out.size))
        clear b
        rw [show codV q L = t from CV.out trivial]
        clear V_vi V_vs CV
        go_wp2_with fail
        refine (s_DrawAddVectors v n _ ((HE.out.below B6.out).mono B6.out.size) hn).mono ?_; rintro e w7 ⟨p1, va, la, vb, lb, hi, hf, hi2, hf2, rfl, b⟩
        have V_va := Lib.hid hi
        have V_vb := Lib.hid hi2
        clear hi hi2
        have B7 := Lib.hid (B6.out.trans (b.mono B6.out.size))
        clear b
        clear hf hf2
        go_wp2_with fail
        refine (i_AddVectors p1 va vb la lb _ V_va.out V_vb.out).mono ?_; rintro e w8 ⟨c1, rfl, hi, hf, b⟩
        have V_c1 := Lib.hid hi
        have V_va := Lib.hid (V_va.out.below b)
        have V_vb := Lib.hid (V_vb.out.below b)
        clear hi
        have B8 := Lib.hid (B7.out.trans (b.mono B7.out.size))
        clear b
        clear hf
        go_wp2_with fail
        refine (s_AddVectors p1 va vb la lb _ V_va.out V_vb.out).mono ?_; rintro e w9 ⟨c2, rfl, hi, hf, b⟩
        have V_c2 := Lib.hid hi
        have V_va := Lib.hid (V_va.out.below b)
        have V_vb := Lib.hid (V_vb.out.below b)
        have V_c1 := Lib.hid (V_c1.out.below b)
        clear hi
        have B9 := Lib.hid (B8.out.trans (b.mono B8.out.size))
        clear b
        clear hf V_va V_vb
        generalize addR p1 la lb = LA at V_c1 V_c2 ⊢
        generalize addOK p1 la lb = oa
        go_wp2_with fail
        refine (s_DrawScaleVector v n _ ((HE.out.below B9.out).mono B9.out.size) hn).mono ?_; rintro e w10 ⟨p2, k2, va, l2, hi, hf, rfl, b⟩
        have V_va := Lib.hid hi
        have V_c1 := Lib.hid (V_c1.out.below b)
        have V_c2 := Lib.hid (V_c2.out.below b)
        clear hi
        have B10 := Lib.hid (B9.out.trans (b.mono B9.out.size))
        clear b
        clear hf
        go_wp2_with fail
        refine (i_ScaleVector p2 k2 va l2 _ V_va.out).mono ?_; rintro e w11 ⟨d1, rfl, hi, hf, b⟩
        have V_d1 := Lib.hid hi
        have V_c1 := Lib.hid (V_c1.out.below b)
        have V_c2 := Lib.hid (V_c2.out.below b)
        have V_va := Lib.hid (V_va.out.below b)
        clear hi
        have B11 := Lib.hid (B10.out.trans (b.mono B10.out.size))
        clear b
        clear hf
        go_wp2_with fail
        refine (s_ScaleVector p2 k2 va l2 _ V_va.out).mono ?_; rintro e w12 ⟨d2, rfl, hi, hf, b⟩
        have V_d2 := Lib.hid hi
        have V_c1 := Lib.hid (V_c1.out.below b)
        have V_c2 := Lib.hid (V_c2.out.below b)
        have V_va := Lib.hid (V_va.out.below b)
        have V_d1 := Lib.hid (V_d1.out.below b)
        clear hi
        have B12 := Lib.hid (B11.out.trans (b.mono B11.out.size))
        clear b
        clear hf V_va
        generalize scaR p2 k2 l2 = LS at V_d1 V_d2 ⊢
        generalize isV p2 l2 = os
        go_wp2_with fail
        refine (s_DrawPowerMod v n _ ((HE.out.below B12.out).mono B12.out.size) hn).mono ?_; rintro e w13 ⟨p3, x3, n3, h1, h2, h3, rfl, b⟩
        have V_c1 := Lib.hid (V_c1.out.below b)
        have V_c2 := Lib.hid (V_c2.out.below b)
        have V_d1 := Lib.hid (V_d1.out.below b)
        have V_d2 := Lib.hid (V_d2.out.below b)
        have B13 := Lib.hid (B12.out.trans (b.mono B12.out.size))
        clear b
        clear h1 h2 h3
        go_wp2_with fail
        refine (s_DrawCodeOf v n _ ((HE.out.below B13.out).mono B13.out.size) hn).mono ?_; rintro e w14 ⟨p4, v4, l4, hi, hf, rfl, b⟩
        have V_v4 := Lib.hid hi
        have V_c1 := Lib.hid (V_c1.out.below b)
        have V_c2 := Lib.hid (V_c2.out.below b)
        have V_d1 := Lib.hid (V_d1.out.below b)
        have V_d2 := Lib.hid (V_d2.out.below b)
        clear hi
        have B14 := Lib.hid (B13.out.trans (b.mono B13.out.size))
        clear b
        clear hf
        go_wp2_with fail
        refine (s_DrawIsVector v n _ ((HE.out.below B14.out).mono B14.out.size) hn).mono ?_; rintro e w15 ⟨p5, v5, l5, hi, hf, rfl, b⟩
        have V_v5 := Lib.hid hi
        have V_c1 := Lib.hid (V_c1.out.below b)
        have V_c2 := Lib.hid (V_c2.out.below b)
        have V_d1 := Lib.hid (V_d1.out.below b)
        have V_d2 := Lib.hid (V_d2.out.below b)
        have V_v4 := Lib.hid (V_v4.out.below b)
        clear hi
        have B15 := Lib.hid (B14.out.trans (b.mono B14.out.size))
        clear b
        clear hf
        go_wp2_with fail
        refine (l_same_self _ V_c1.out V_c2.out).mono ?_; rintro e w16 ⟨rfl, b⟩
        have V_c1 := Lib.hid (V_c1.out.below b)
        have V_c2 := Lib.hid (V_c2.out.below b)
        have V_d1 := Lib.hid (V_d1.out.below b)
        have V_d2 := Lib.hid (V_d2.out.below b)
        have V_v4 := Lib.hid (V_v4.out.below b)
        have V_v5 := Lib.hid (V_v5.out.below b)
        have B16 := Lib.hid (B15.out.trans (b.mono B15.out.size))
        clear b
        clear V_c1 V_c2
        go_wp2_with fail
        refine (l_same_self _ V_d1.out V_d2.out).mono ?_; rintro e w17 ⟨rfl, b⟩
        have V_d1 := Lib.hid (V_d1.out.below b)
        have V_d2 := Lib.hid (V_d2.out.below b)
        have V_v4 := Lib.hid (V_v4.out.below b)
        have V_v5 := Lib.hid (V_v5.out.below b)
        have B17 := Lib.hid (B16.out.trans (b.mono B16.out.size))
        clear b
        clear V_d1 V_d2
        go_wp2_with fail
        refine (i_PowerMod p3 x3 n3 _).mono ?_; rintro e w18 ⟨rfl, rfl⟩
        go_wp2_with fail
        refine (s_PowerMod p3 x3 n3 _).mono ?_; rintro e w18 ⟨rfl, rfl⟩
        generalize powV p3 x3 n3 = z3
        go_wp2_with fail
        refine (i_CodeOf p4 v4 l4 _ V_v4.out).mono ?_; rintro e w18 ⟨rfl, b⟩
        have V_v4 := Lib.hid (V_v4.out.below b)
        have V_v5 := Lib.hid (V_v5.out.below b)
        have B18 := Lib.hid (B17.out.trans (b.mono B17.out.size))
        clear b
        go_wp2_with fail
        refine (s_CodeOf p4 v4 l4 _ V_v4.out).mono ?_; rintro e w19 ⟨rfl, rfl⟩
        generalize codV p4 l4 = z4
        clear V_v4
        go_wp2_with fail
        refine (i_IsVector p5 v5 l5 _ V_v5.out).mono ?_; rintro e w19 ⟨rfl, b⟩
        have V_v5 := Lib.hid (V_v5.out.below b)
        have B19 := Lib.hid (B18.out.trans (b.mono B18.out.size))
        clear b
        go_wp2_with fail
        refine (s_IsVector p5 v5 l5 _ V_v5.out).mono ?_; rintro e w20 ⟨rfl, rfl⟩
        generalize isV p5 l5 = z5
        go_wp2_with fail
        refine (i_IsField p _).mono ?_; rintro e w20 ⟨rfl, rfl⟩
        go_wp2_with fail
        refine (s_IsField p _).mono ?_; rintro e w20 ⟨rfl, rfl⟩
        go_wp2
        go_ret
        exact ⟨rfl, B19.out⟩
end Go.Proofs.Ytogilgennpmdhaa
