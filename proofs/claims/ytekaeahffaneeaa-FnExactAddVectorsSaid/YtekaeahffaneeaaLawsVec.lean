/- The walks of the laws on vectors. -/
import Derived.Test.YtekaeahffaneeaaCode
import Derived.Test.YtekaeahffaneeaaPow
namespace Go.Proofs.Ytekaeahffaneeaa
open Go.RowKit

theorem sep_new {w : World} {u v : Value} {l : List Int} (hu : Ints w u l) (hf : FreshV w.heap.size v) : ∀ k, blk u = some k → ¬ blk v = some k :=
  fun k hk hk' => by have := hu.lt k hk; have := hf k hk'; omega
theorem sep_symm {u v : Value} (h : ∀ k, blk u = some k → ¬ blk v = some k) : ∀ k, blk v = some k → ¬ blk u = some k := fun k hk hk' => h k hk' hk
theorem vecR_len (p n c : Int) : (vecR p n c).length ≤ 8 := by
  unfold vecR
  cases h : vecOK p n c
  · simp
  · obtain ⟨h1, h2, h3, _⟩ := vecOK_true h
    simp [vecL_len]; omega
theorem scaR_len (p k : Int) (l : List Int) : (scaR p k l).length ≤ 64 := by
  unfold scaR
  cases h : isV p l
  · simp
  · simp [scaV, scaK_len]; exact isV_L h
theorem addR_len (p : Int) (la lb : List Int) : (addR p la lb).length ≤ 64 := by
  unfold addR
  cases h : addOK p la lb
  · simp
  · simp [addV, addK_len]; exact isV_L (addOK_true h).1

set_option maxHeartbeats 2000000 in
set_option linter.unusedVariables false in
theorem law_FnExactIsVector (p : Int) (v : Value) (lv : List Int) (w : World) (wf_p : (Lit.int .i64 p).wf = true) (rv : Raw w v lv) (bdv : Bd lv) :
    Calls Try.prog 7 #[.int .i64 p, v] w fun e w' => e = .returned (.bool true) ∧ Below w.heap.size w w' := by
  obtain ⟨lo_p, hi_p⟩ := wf_i64 wf_p
  clear wf_p
  have Rv := Lib.hid rv
  obtain ⟨a_v, cap_v, rfl, hlc_v, hcm_v⟩ := rv.shape
  clear rv
  by_cases hL_v : lv.length ≤ 1048576
  · go_enter Try.func7, Try.ntmps7
    go_wp2_with fail
    refine (l_toIntS _ lv _ Rv.out (by omega)).mono ?_; rintro e w1 ⟨v1, rfl, h1, f1, b1⟩
    have hb2 := b1
    go_wp2_with fail
    refine (s_IsVector _ _ lv _ h1).mono ?_; rintro e wz ⟨rfl, rfl⟩
    go_wp2_with fail
    refine (l_toIntS _ lv _ (Rv.out.below hb2) (by omega)).mono ?_; rintro e w4 ⟨v4, rfl, h4, f4, b4⟩
    have hb5 := below_call hb2 b4 hb2.size
    go_wp2_with fail
    refine (i_IsVector _ _ lv _ h4).mono ?_; rintro e w6 ⟨rfl, b6⟩
    have h7 := Ints.below h4 b6
    have hb8 := below_call hb5 b6 hb5.size
    go_wp2_with fail
    refine (l_toIntS _ lv _ (Rv.out.below hb8) (by omega)).mono ?_; rintro e w9 ⟨v9, rfl, h9, f9, b9⟩
    have h10 := Ints.below h7 b9
    have hb11 := below_call hb8 b9 hb8.size
    have sp12 := Lib.hid (sep_new h7 f9)
    have sp13 := Lib.hid (sep_symm sp12.out)
    go_wp2_with fail
    refine (l_eqIntS _ _ _ _ _ h10 h9).mono ?_; rintro e w14 ⟨rfl, b14⟩
    have h15 := Ints.below h10 b14
    have h16 := Ints.below h9 b14
    have hb17 := below_call hb11 b14 hb11.size
    go_wp2
    go_ret
    exact ⟨rfl, hb17⟩
  · go_enter Try.func7, Try.ntmps7
    go_wp2
    go_ret
    exact ⟨rfl, Below.refl _ _⟩

set_option maxHeartbeats 2000000 in
set_option linter.unusedVariables false in
theorem law_FnExactCodeOf (p : Int) (v : Value) (lv : List Int) (w : World) (wf_p : (Lit.int .i64 p).wf = true) (rv : Raw w v lv) (bdv : Bd lv) :
    Calls Try.prog 10 #[.int .i64 p, v] w fun e w' => e = .returned (.bool true) ∧ Below w.heap.size w w' := by
  obtain ⟨lo_p, hi_p⟩ := wf_i64 wf_p
  clear wf_p
  have Rv := Lib.hid rv
  obtain ⟨a_v, cap_v, rfl, hlc_v, hcm_v⟩ := rv.shape
  clear rv
  by_cases hL_v : lv.length ≤ 1048576
  · go_enter Try.func10, Try.ntmps10
    go_wp2_with fail
    refine (l_toIntS _ lv _ Rv.out (by omega)).mono ?_; rintro e w1 ⟨v1, rfl, h1, f1, b1⟩
    have hb2 := b1
    go_wp2_with fail
    refine (s_CodeOf _ _ lv _ h1).mono ?_; rintro e wz ⟨rfl, rfl⟩
    go_wp2_with fail
    refine (l_toIntS _ lv _ (Rv.out.below hb2) (by omega)).mono ?_; rintro e w4 ⟨v4, rfl, h4, f4, b4⟩
    have hb5 := below_call hb2 b4 hb2.size
    go_wp2_with fail
    refine (i_CodeOf _ _ lv _ h4).mono ?_; rintro e w6 ⟨rfl, b6⟩
    have h7 := Ints.below h4 b6
    have hb8 := below_call hb5 b6 hb5.size
    go_wp2_with fail
    refine (l_toIntS _ lv _ (Rv.out.below hb8) (by omega)).mono ?_; rintro e w9 ⟨v9, rfl, h9, f9, b9⟩
    have h10 := Ints.below h7 b9
    have hb11 := below_call hb8 b9 hb8.size
    have sp12 := Lib.hid (sep_new h7 f9)
    have sp13 := Lib.hid (sep_symm sp12.out)
    go_wp2_with fail
    refine (l_eqIntS _ _ _ _ _ h10 h9).mono ?_; rintro e w14 ⟨rfl, b14⟩
    have h15 := Ints.below h10 b14
    have h16 := Ints.below h9 b14
    have hb17 := below_call hb11 b14 hb11.size
    go_wp2
    go_ret
    exact ⟨rfl, hb17⟩
  · go_enter Try.func10, Try.ntmps10
    go_wp2
    go_ret
    exact ⟨rfl, Below.refl _ _⟩

set_option maxHeartbeats 2000000 in
set_option linter.unusedVariables false in
theorem law_FnExactVectorOf (p : Int) (n : Int) (c : Int) (w : World) (wf_p : (Lit.int .i64 p).wf = true) (wf_n : (Lit.int .i64 n).wf = true) (wf_c : (Lit.int .i64 c).wf = true) :
    Calls Try.prog 8 #[.int .i64 p, .int .i64 n, .int .i64 c] w fun e w' => e = .returned (.bool true) ∧ Below w.heap.size w w' := by
  obtain ⟨lo_p, hi_p⟩ := wf_i64 wf_p
  clear wf_p
  obtain ⟨lo_n, hi_n⟩ := wf_i64 wf_n
  clear wf_n
  obtain ⟨lo_c, hi_c⟩ := wf_i64 wf_c
  clear wf_c
  have hn1 := vecR_len p n c
  go_enter Try.func8, Try.ntmps8
  go_wp2_with fail
  refine (s_VectorOf _ _ _ (by omega) _).mono ?_; rintro e w2 ⟨v2, rfl, h2, f2, b2⟩
  have hb3 := b2
  go_wp2_with fail
  refine (i_VectorOf _ _ _ (by omega) _).mono ?_; rintro e w4 ⟨v4, rfl, h4, f4, b4⟩
  have h5 := Ints.below h2 b4
  have hb6 := below_call hb3 b4 hb3.size
  have sp7 := Lib.hid (sep_new h2 f4)
  have sp8 := Lib.hid (sep_symm sp7.out)
  go_wp2_with fail
  refine (l_eqIntS _ _ _ _ _ h4 h5).mono ?_; rintro e w9 ⟨rfl, b9⟩
  have h10 := Ints.below h5 b9
  have h11 := Ints.below h4 b9
  have hb12 := below_call hb6 b9 hb6.size
  go_wp2_with fail
  refine (l_markIntS _ (vecR p n c) _ _ h11 (by omega) (by omega)).mono ?_; rintro e w13 ⟨rfl, h13, c13⟩
  have h14 := Ints.chg h10 c13 sp7.out
  have hb15 := below_chg hb12 c13 hb12.size (fun k h => Nat.le_trans (hb3.size) (f4 k h))
  go_wp2_with fail
  refine (l_heldIntS _ _ _ _ h13 (by omega) (by omega)).mono ?_; rintro e wz ⟨rfl, rfl⟩
  go_wp2_with fail
  refine (i_VectorOf _ _ _ (by omega) _).mono ?_; rintro e w16 ⟨v16, rfl, h16, f16, b16⟩
  have h17 := Ints.below h14 b16
  have h18 := Ints.below h13 b16
  have hb19 := below_call hb15 b16 hb15.size
  have sp20 := Lib.hid (sep_new h14 f16)
  have sp21 := Lib.hid (sep_symm sp20.out)
  have sp22 := Lib.hid (sep_new h13 f16)
  have sp23 := Lib.hid (sep_symm sp22.out)
  go_wp2_with fail
  refine (l_eqIntS _ _ _ _ _ h16 h17).mono ?_; rintro e w24 ⟨rfl, b24⟩
  have h25 := Ints.below h17 b24
  have h26 := Ints.below h18 b24
  have h27 := Ints.below h16 b24
  have hb28 := below_call hb19 b24 hb19.size
  go_wp2_with fail
  refine (l_heldIntS _ _ _ _ h26 (by omega) (by omega)).mono ?_; rintro e wz ⟨rfl, rfl⟩
  go_wp2
  go_ret
  exact ⟨rfl, hb28⟩

set_option maxHeartbeats 2000000 in
set_option linter.unusedVariables false in
theorem law_FnExactScaleVector (p : Int) (k : Int) (a : Value) (la : List Int) (w : World) (wf_p : (Lit.int .i64 p).wf = true) (wf_k : (Lit.int .i64 k).wf = true) (ra : Raw w a la) (bda : Bd la) :
    Calls Try.prog 12 #[.int .i64 p, .int .i64 k, a] w fun e w' => e = .returned (.bool true) ∧ Below w.heap.size w w' := by
  obtain ⟨lo_p, hi_p⟩ := wf_i64 wf_p
  clear wf_p
  obtain ⟨lo_k, hi_k⟩ := wf_i64 wf_k
  clear wf_k
  have Ra := Lib.hid ra
  obtain ⟨a_a, cap_a, rfl, hlc_a, hcm_a⟩ := ra.shape
  clear ra
  by_cases hL_a : la.length ≤ 1048576
  · have hn1 := scaR_len p k la
    go_enter Try.func12, Try.ntmps12
    go_wp2_with fail
    refine (l_toIntS _ la _ Ra.out (by omega)).mono ?_; rintro e w2 ⟨v2, rfl, h2, f2, b2⟩
    have hb3 := b2
    go_wp2_with fail
    refine (s_ScaleVector _ _ _ la _ h2).mono ?_; rintro e w4 ⟨v4, rfl, h4, f4, b4⟩
    have h5 := Ints.below h2 b4
    have hb6 := below_call hb3 b4 hb3.size
    have sp7 := Lib.hid (sep_new h2 f4)
    have sp8 := Lib.hid (sep_symm sp7.out)
    go_wp2_with fail
    refine (l_toIntS _ la _ (Ra.out.below hb6) (by omega)).mono ?_; rintro e w9 ⟨v9, rfl, h9, f9, b9⟩
    have h10 := Ints.below h4 b9
    have hb11 := below_call hb6 b9 hb6.size
    have sp12 := Lib.hid (sep_new h4 f9)
    have sp13 := Lib.hid (sep_symm sp12.out)
    go_wp2_with fail
    refine (i_ScaleVector _ _ _ la _ h9).mono ?_; rintro e w14 ⟨v14, rfl, h14, f14, b14⟩
    have h15 := Ints.below h10 b14
    have h16 := Ints.below h9 b14
    have hb17 := below_call hb11 b14 hb11.size
    have sp18 := Lib.hid (sep_new h10 f14)
    have sp19 := Lib.hid (sep_symm sp18.out)
    have sp20 := Lib.hid (sep_new h9 f14)
    have sp21 := Lib.hid (sep_symm sp20.out)
    go_wp2_with fail
    refine (l_eqIntS _ _ _ _ _ h14 h15).mono ?_; rintro e w22 ⟨rfl, b22⟩
    have h23 := Ints.below h15 b22
    have h24 := Ints.below h16 b22
    have h25 := Ints.below h14 b22
    have hb26 := below_call hb17 b22 hb17.size
    go_wp2_with fail
    refine (l_toIntS _ la _ (Ra.out.below hb26) (by omega)).mono ?_; rintro e w27 ⟨v27, rfl, h27, f27, b27⟩
    have h28 := Ints.below h23 b27
    have h29 := Ints.below h24 b27
    have h30 := Ints.below h25 b27
    have hb31 := below_call hb26 b27 hb26.size
    have sp32 := Lib.hid (sep_new h23 f27)
    have sp33 := Lib.hid (sep_symm sp32.out)
    have sp34 := Lib.hid (sep_new h24 f27)
    have sp35 := Lib.hid (sep_symm sp34.out)
    have sp36 := Lib.hid (sep_new h25 f27)
    have sp37 := Lib.hid (sep_symm sp36.out)
    go_wp2_with fail
    refine (l_eqIntS _ _ _ _ _ h29 h27).mono ?_; rintro e w38 ⟨rfl, b38⟩
    have h39 := Ints.below h28 b38
    have h40 := Ints.below h29 b38
    have h41 := Ints.below h30 b38
    have h42 := Ints.below h27 b38
    have hb43 := below_call hb31 b38 hb31.size
    go_wp2_with fail
    refine (l_markIntS _ la _ _ h40 (by omega) (by omega)).mono ?_; rintro e w44 ⟨rfl, h44, c44⟩
    have h45 := Ints.chg h39 c44 sp12.out
    have h46 := Ints.chg h41 c44 sp21.out
    have hb47 := below_chg hb43 c44 hb43.size (fun k h => Nat.le_trans (hb6.size) (f9 k h))
    go_wp2_with fail
    refine (l_eqIntS _ _ _ _ _ h46 h45).mono ?_; rintro e w48 ⟨rfl, b48⟩
    have h49 := Ints.below h45 b48
    have h50 := Ints.below h44 b48
    have h51 := Ints.below h46 b48
    have hb52 := below_call hb47 b48 hb47.size
    go_wp2_with fail
    refine (l_markIntS _ (scaR p k la) _ _ h51 (by omega) (by omega)).mono ?_; rintro e w53 ⟨rfl, h53, c53⟩
    have h54 := Ints.chg h49 c53 sp18.out
    have hb55 := below_chg hb52 c53 hb52.size (fun k h => Nat.le_trans (hb11.size) (f14 k h))
    go_wp2_with fail
    refine (l_heldIntS _ _ _ _ h53 (by omega) (by omega)).mono ?_; rintro e wz ⟨rfl, rfl⟩
    go_wp2_with fail
    refine (l_toIntS _ la _ (Ra.out.below hb55) (by omega)).mono ?_; rintro e w56 ⟨v56, rfl, h56, f56, b56⟩
    have h57 := Ints.below h54 b56
    have h58 := Ints.below h53 b56
    have hb59 := below_call hb55 b56 hb55.size
    have sp60 := Lib.hid (sep_new h54 f56)
    have sp61 := Lib.hid (sep_symm sp60.out)
    have sp62 := Lib.hid (sep_new h53 f56)
    have sp63 := Lib.hid (sep_symm sp62.out)
    go_wp2_with fail
    refine (i_ScaleVector _ _ _ la _ h56).mono ?_; rintro e w64 ⟨v64, rfl, h64, f64, b64⟩
    have h65 := Ints.below h57 b64
    have h66 := Ints.below h58 b64
    have h67 := Ints.below h56 b64
    have hb68 := below_call hb59 b64 hb59.size
    have sp69 := Lib.hid (sep_new h57 f64)
    have sp70 := Lib.hid (sep_symm sp69.out)
    have sp71 := Lib.hid (sep_new h58 f64)
    have sp72 := Lib.hid (sep_symm sp71.out)
    have sp73 := Lib.hid (sep_new h56 f64)
    have sp74 := Lib.hid (sep_symm sp73.out)
    go_wp2_with fail
    refine (l_eqIntS _ _ _ _ _ h64 h65).mono ?_; rintro e w75 ⟨rfl, b75⟩
    have h76 := Ints.below h65 b75
    have h77 := Ints.below h66 b75
    have h78 := Ints.below h64 b75
    have hb79 := below_call hb68 b75 hb68.size
    go_wp2_with fail
    refine (l_heldIntS _ _ _ _ h77 (by omega) (by omega)).mono ?_; rintro e wz ⟨rfl, rfl⟩
    go_wp2
    go_ret
    exact ⟨rfl, hb79⟩
  · go_enter Try.func12, Try.ntmps12
    go_wp2
    go_ret
    exact ⟨rfl, Below.refl _ _⟩

set_option maxHeartbeats 2000000 in
set_option linter.unusedVariables false in
theorem law_FnExactAddVectors (p : Int) (a : Value) (la : List Int) (b : Value) (lb : List Int) (w : World) (wf_p : (Lit.int .i64 p).wf = true) (ra : Raw w a la) (bda : Bd la) (rb : Raw w b lb) (bdb : Bd lb) :
    Calls Try.prog 13 #[.int .i64 p, a, b] w fun e w' => e = .returned (.bool true) ∧ Below w.heap.size w w' := by
  obtain ⟨lo_p, hi_p⟩ := wf_i64 wf_p
  clear wf_p
  have Ra := Lib.hid ra
  obtain ⟨a_a, cap_a, rfl, hlc_a, hcm_a⟩ := ra.shape
  clear ra
  have Rb := Lib.hid rb
  obtain ⟨a_b, cap_b, rfl, hlc_b, hcm_b⟩ := rb.shape
  clear rb
  by_cases hL_a : la.length ≤ 1048576
  · by_cases hL_b : lb.length ≤ 1048576
    · have hn1 := addR_len p la lb
      go_enter Try.func13, Try.ntmps13
      go_wp2_with fail
      refine (l_toIntS _ la _ Ra.out (by omega)).mono ?_; rintro e w2 ⟨v2, rfl, h2, f2, b2⟩
      have hb3 := b2
      go_wp2_with fail
      refine (l_toIntS _ lb _ (Rb.out.below hb3) (by omega)).mono ?_; rintro e w4 ⟨v4, rfl, h4, f4, b4⟩
      have h5 := Ints.below h2 b4
      have hb6 := below_call hb3 b4 hb3.size
      have sp7 := Lib.hid (sep_new h2 f4)
      have sp8 := Lib.hid (sep_symm sp7.out)
      go_wp2_with fail
      refine (s_AddVectors _ _ _ la lb _ h5 h4).mono ?_; rintro e w9 ⟨v9, rfl, h9, f9, b9⟩
      have h10 := Ints.below h5 b9
      have h11 := Ints.below h4 b9
      have hb12 := below_call hb6 b9 hb6.size
      have sp13 := Lib.hid (sep_new h5 f9)
      have sp14 := Lib.hid (sep_symm sp13.out)
      have sp15 := Lib.hid (sep_new h4 f9)
      have sp16 := Lib.hid (sep_symm sp15.out)
      go_wp2_with fail
      refine (l_toIntS _ la _ (Ra.out.below hb12) (by omega)).mono ?_; rintro e w17 ⟨v17, rfl, h17, f17, b17⟩
      have h18 := Ints.below h9 b17
      have hb19 := below_call hb12 b17 hb12.size
      have sp20 := Lib.hid (sep_new h9 f17)
      have sp21 := Lib.hid (sep_symm sp20.out)
      go_wp2_with fail
      refine (l_toIntS _ lb _ (Rb.out.below hb19) (by omega)).mono ?_; rintro e w22 ⟨v22, rfl, h22, f22, b22⟩
      have h23 := Ints.below h18 b22
      have h24 := Ints.below h17 b22
      have hb25 := below_call hb19 b22 hb19.size
      have sp26 := Lib.hid (sep_new h18 f22)
      have sp27 := Lib.hid (sep_symm sp26.out)
      have sp28 := Lib.hid (sep_new h17 f22)
      have sp29 := Lib.hid (sep_symm sp28.out)
      go_wp2_with fail
      refine (i_AddVectors _ _ _ la lb _ h24 h22).mono ?_; rintro e w30 ⟨v30, rfl, h30, f30, b30⟩
      have h31 := Ints.below h23 b30
      have h32 := Ints.below h24 b30
      have h33 := Ints.below h22 b30
      have hb34 := below_call hb25 b30 hb25.size
      have sp35 := Lib.hid (sep_new h23 f30)
      have sp36 := Lib.hid (sep_symm sp35.out)
      have sp37 := Lib.hid (sep_new h24 f30)
      have sp38 := Lib.hid (sep_symm sp37.out)
      have sp39 := Lib.hid (sep_new h22 f30)
      have sp40 := Lib.hid (sep_symm sp39.out)
      go_wp2_with fail
      refine (l_eqIntS _ _ _ _ _ h30 h31).mono ?_; rintro e w41 ⟨rfl, b41⟩
      have h42 := Ints.below h31 b41
      have h43 := Ints.below h32 b41
      have h44 := Ints.below h33 b41
      have h45 := Ints.below h30 b41
      have hb46 := below_call hb34 b41 hb34.size
      go_wp2_with fail
      refine (l_toIntS _ la _ (Ra.out.below hb46) (by omega)).mono ?_; rintro e w47 ⟨v47, rfl, h47, f47, b47⟩
      have h48 := Ints.below h42 b47
      have h49 := Ints.below h43 b47
      have h50 := Ints.below h44 b47
      have h51 := Ints.below h45 b47
      have hb52 := below_call hb46 b47 hb46.size
      have sp53 := Lib.hid (sep_new h42 f47)
      have sp54 := Lib.hid (sep_symm sp53.out)
      have sp55 := Lib.hid (sep_new h43 f47)
      have sp56 := Lib.hid (sep_symm sp55.out)
      have sp57 := Lib.hid (sep_new h44 f47)
      have sp58 := Lib.hid (sep_symm sp57.out)
      have sp59 := Lib.hid (sep_new h45 f47)
      have sp60 := Lib.hid (sep_symm sp59.out)
      go_wp2_with fail
      refine (l_eqIntS _ _ _ _ _ h49 h47).mono ?_; rintro e w61 ⟨rfl, b61⟩
      have h62 := Ints.below h48 b61
      have h63 := Ints.below h49 b61
      have h64 := Ints.below h50 b61
      have h65 := Ints.below h51 b61
      have h66 := Ints.below h47 b61
      have hb67 := below_call hb52 b61 hb52.size
      go_wp2_with fail
      refine (l_toIntS _ lb _ (Rb.out.below hb67) (by omega)).mono ?_; rintro e w68 ⟨v68, rfl, h68, f68, b68⟩
      have h69 := Ints.below h62 b68
      have h70 := Ints.below h63 b68
      have h71 := Ints.below h64 b68
      have h72 := Ints.below h65 b68
      have hb73 := below_call hb67 b68 hb67.size
      have sp74 := Lib.hid (sep_new h62 f68)
      have sp75 := Lib.hid (sep_symm sp74.out)
      have sp76 := Lib.hid (sep_new h63 f68)
      have sp77 := Lib.hid (sep_symm sp76.out)
      have sp78 := Lib.hid (sep_new h64 f68)
      have sp79 := Lib.hid (sep_symm sp78.out)
      have sp80 := Lib.hid (sep_new h65 f68)
      have sp81 := Lib.hid (sep_symm sp80.out)
      go_wp2_with fail
      refine (l_eqIntS _ _ _ _ _ h71 h68).mono ?_; rintro e w82 ⟨rfl, b82⟩
      have h83 := Ints.below h69 b82
      have h84 := Ints.below h70 b82
      have h85 := Ints.below h71 b82
      have h86 := Ints.below h72 b82
      have h87 := Ints.below h68 b82
      have hb88 := below_call hb73 b82 hb73.size
      go_wp2_with fail
      refine (l_markIntS _ la _ _ h84 (by omega) (by omega)).mono ?_; rintro e w89 ⟨rfl, h89, c89⟩
      have h90 := Ints.chg h83 c89 sp20.out
      have h91 := Ints.chg h85 c89 sp29.out
      have h92 := Ints.chg h86 c89 sp38.out
      have hb93 := below_chg hb88 c89 hb88.size (fun k h => Nat.le_trans (hb12.size) (f17 k h))
      go_wp2_with fail
      refine (l_markIntS _ lb _ _ h91 (by omega) (by omega)).mono ?_; rintro e w94 ⟨rfl, h94, c94⟩
      have h95 := Ints.chg h90 c94 sp26.out
      have h96 := Ints.chg h89 c94 sp28.out
      have h97 := Ints.chg h92 c94 sp40.out
      have hb98 := below_chg hb93 c94 hb93.size (fun k h => Nat.le_trans (hb19.size) (f22 k h))
      go_wp2_with fail
      refine (l_eqIntS _ _ _ _ _ h97 h95).mono ?_; rintro e w99 ⟨rfl, b99⟩
      have h100 := Ints.below h95 b99
      have h101 := Ints.below h96 b99
      have h102 := Ints.below h94 b99
      have h103 := Ints.below h97 b99
      have hb104 := below_call hb98 b99 hb98.size
      go_wp2_with fail
      refine (l_markIntS _ (addR p la lb) _ _ h103 (by omega) (by omega)).mono ?_; rintro e w105 ⟨rfl, h105, c105⟩
      have h106 := Ints.chg h100 c105 sp35.out
      have hb107 := below_chg hb104 c105 hb104.size (fun k h => Nat.le_trans (hb25.size) (f30 k h))
      go_wp2_with fail
      refine (l_heldIntS _ _ _ _ h105 (by omega) (by omega)).mono ?_; rintro e wz ⟨rfl, rfl⟩
      go_wp2_with fail
      refine (l_toIntS _ la _ (Ra.out.below hb107) (by omega)).mono ?_; rintro e w108 ⟨v108, rfl, h108, f108, b108⟩
      have h109 := Ints.below h106 b108
      have h110 := Ints.below h105 b108
      have hb111 := below_call hb107 b108 hb107.size
      have sp112 := Lib.hid (sep_new h106 f108)
      have sp113 := Lib.hid (sep_symm sp112.out)
      have sp114 := Lib.hid (sep_new h105 f108)
      have sp115 := Lib.hid (sep_symm sp114.out)
      go_wp2_with fail
      refine (l_toIntS _ lb _ (Rb.out.below hb111) (by omega)).mono ?_; rintro e w116 ⟨v116, rfl, h116, f116, b116⟩
      have h117 := Ints.below h109 b116
      have h118 := Ints.below h110 b116
      have h119 := Ints.below h108 b116
      have hb120 := below_call hb111 b116 hb111.size
      have sp121 := Lib.hid (sep_new h109 f116)
      have sp122 := Lib.hid (sep_symm sp121.out)
      have sp123 := Lib.hid (sep_new h110 f116)
      have sp124 := Lib.hid (sep_symm sp123.out)
      have sp125 := Lib.hid (sep_new h108 f116)
      have sp126 := Lib.hid (sep_symm sp125.out)
      go_wp2_with fail
      refine (i_AddVectors _ _ _ la lb _ h119 h116).mono ?_; rintro e w127 ⟨v127, rfl, h127, f127, b127⟩
      have h128 := Ints.below h117 b127
      have h129 := Ints.below h118 b127
      have h130 := Ints.below h119 b127
      have h131 := Ints.below h116 b127
      have hb132 := below_call hb120 b127 hb120.size
      have sp133 := Lib.hid (sep_new h117 f127)
      have sp134 := Lib.hid (sep_symm sp133.out)
      have sp135 := Lib.hid (sep_new h118 f127)
      have sp136 := Lib.hid (sep_symm sp135.out)
      have sp137 := Lib.hid (sep_new h119 f127)
      have sp138 := Lib.hid (sep_symm sp137.out)
      have sp139 := Lib.hid (sep_new h116 f127)
      have sp140 := Lib.hid (sep_symm sp139.out)
      go_wp2_with fail
      refine (l_eqIntS _ _ _ _ _ h127 h128).mono ?_; rintro e w141 ⟨rfl, b141⟩
      have h142 := Ints.below h128 b141
      have h143 := Ints.below h129 b141
      have h144 := Ints.below h127 b141
      have hb145 := below_call hb132 b141 hb132.size
      go_wp2_with fail
      refine (l_heldIntS _ _ _ _ h143 (by omega) (by omega)).mono ?_; rintro e wz ⟨rfl, rfl⟩
      go_wp2
      go_ret
      exact ⟨rfl, hb145⟩
    · go_enter Try.func13, Try.ntmps13
      go_wp2
      go_ret
      exact ⟨rfl, Below.refl _ _⟩
  · go_enter Try.func13, Try.ntmps13
    go_wp2
    go_ret
    exact ⟨rfl, Below.refl _ _⟩

end Go.Proofs.Ytekaeahffaneeaa
