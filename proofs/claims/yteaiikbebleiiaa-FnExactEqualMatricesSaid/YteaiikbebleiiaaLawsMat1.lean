/- The walks of the laws on matrices that answer a word. -/
import Derived.Test.YteaiikbebleiiaaEqMat
namespace Go.Proofs.Yteaiikbebleiiaa
open Go.RowKit
set_option linter.unusedVariables false

set_option maxHeartbeats 4000000 in
set_option linter.unusedVariables false in
theorem law_FnExactIsMatrix (p : Int) (mm0 : Int) (mm1 : Int) (mm2 : Value) (lmm2 : List Int) (w : World) (wf_p : (Lit.int .i64 p).wf = true) (wf_mm0 : (Lit.int .i64 mm0).wf = true) (wf_mm1 : (Lit.int .i64 mm1).wf = true) (rmm2 : Raw w mm2 lmm2) (bdmm2 : Bd lmm2) :
    Calls Try.prog 4 #[.int .i64 p, .agg #[.int .i64 mm0, .int .i64 mm1, mm2]] w fun e w' => e = .returned (.bool true) ∧ Below w.heap.size w w' := by
  obtain ⟨lo_p, hi_p⟩ := wf_i64 wf_p
  clear wf_p
  obtain ⟨lo_mm0, hi_mm0⟩ := wf_i64 wf_mm0
  clear wf_mm0
  obtain ⟨lo_mm1, hi_mm1⟩ := wf_i64 wf_mm1
  clear wf_mm1
  have Rmm2 := Lib.hid rmm2
  have BDmm2 := Lib.hid bdmm2
  obtain ⟨a_mm2, cap_mm2, rfl, hlc_mm2, hcm_mm2⟩ := rmm2.shape
  clear rmm2 bdmm2
  have b1 : Below w.heap.size w (w.alloc (.cells #[.int .i64 mm0, .int .i64 mm1, .slice a_mm2 lmm2.length cap_mm2] 24)) := (Below.refl _ _).alloc (Nat.le_refl _) _
  have hb2 := b1
  have p3 := Blk.new w #[.int .i64 mm0, .int .i64 mm1, .slice a_mm2 lmm2.length cap_mm2] 24
  by_cases hL0 : lmm2.length ≤ 1048576
  rotate_left
  · skip
    go_enter Try.func4, Try.ntmps4
    have es4 : szI 1048576 lmm2 = -1 := by unfold szI; rw [if_pos (by omega)]
    obtain ⟨k5, k6, k7⟩ := blk3 p3
    have k8 := p3.lt
    go_wp2_with fail
    refine (l_szMatrix _ _ _ lmm2 1048576 _ (Rmm2.out.below hb2) (by omega) (by omega)).mono ?_; rintro e w4 ⟨rfl, b4⟩
    clear k5 k6 k7 k8
    have p9 := p3.below b4
    have hb10 := below_call hb2 b4 hb2.size
    obtain ⟨k11, k12, k13⟩ := blk3 p9
    have k14 := p9.lt
    go_wp2
    go_ret
    exact ⟨rfl, hb10⟩
  go_enter Try.func4, Try.ntmps4
  have es15 : szI 1048576 lmm2 = 1048576 - (lmm2.length : Int) := by unfold szI; rw [if_neg (by omega)]
  obtain ⟨k16, k17, k18⟩ := blk3 p3
  have k19 := p3.lt
  go_wp2_with fail
  refine (l_szMatrix _ _ _ lmm2 1048576 _ (Rmm2.out.below hb2) (by omega) (by omega)).mono ?_; rintro e w15 ⟨rfl, b15⟩
  clear k16 k17 k18 k19
  have p20 := p3.below b15
  have hb21 := below_call hb2 b15 hb2.size
  obtain ⟨k23, k24, k25⟩ := blk3 p20
  have k26 := p20.lt
  go_wp2_with fail
  refine (l_toMatrix _ _ _ lmm2 _ (Rmm2.out.below hb21) (by omega)).mono ?_; rintro e w22 ⟨v22_0, rfl, h22_0, f22_0, b22⟩
  clear k23 k24 k25 k26
  have p27 := p20.below b22
  have hb28 := below_call hb21 b22 hb21.size
  obtain ⟨a22_0, cap22_0, rfl, _, _⟩ := h22_0.shape
  have sb29 := Lib.hid (sep_blk_new p20 f22_0)
  have Ff22_0 := Lib.hid f22_0
  clear f22_0
  obtain ⟨k31, k32, k33⟩ := blk3 p27
  have k34 := p27.lt
  go_wp2_with fail
  refine (s_IsMatrix _ _ _ _ lmm2 _ h22_0).mono ?_; rintro e w30 ⟨rfl, b30⟩
  clear k31 k32 k33 k34
  have h35 := h22_0.below b30
  have p36 := p27.below b30
  have hb37 := below_call hb28 b30 hb28.size
  obtain ⟨k39, k40, k41⟩ := blk3 p36
  have k42 := p36.lt
  go_wp2_with fail
  refine (l_toMatrix _ _ _ lmm2 _ (Rmm2.out.below hb37) (by omega)).mono ?_; rintro e w38 ⟨v38_0, rfl, h38_0, f38_0, b38⟩
  clear k39 k40 k41 k42
  have p43 := p36.below b38
  have hb44 := below_call hb37 b38 hb37.size
  obtain ⟨a38_0, cap38_0, rfl, _, _⟩ := h38_0.shape
  have sb45 := Lib.hid (sep_blk_new p36 f38_0)
  have Ff38_0 := Lib.hid f38_0
  clear f38_0
  obtain ⟨k46, k47, k48⟩ := blk3 p43
  have k49 := p43.lt
  have sb50 := Lib.hid (sep_blk_old h38_0)
  have b51 : Below w38.heap.size w38 (w38.alloc (.cells #[.int .i64 mm0, .int .i64 mm1, .slice a38_0 (lmm2).length cap38_0] 27)) := (Below.refl _ w38).alloc (Nat.le_refl _) _
  have h52 := h38_0.below b51
  have p53 := p43.below b51
  have hb54 := below_call hb44 b51 hb44.size
  have p55 := Blk.new w38 #[.int .i64 mm0, .int .i64 mm1, .slice a38_0 (lmm2).length cap38_0] 27
  obtain ⟨k57, k58, k59⟩ := blk3 p53
  have k60 := p53.lt
  obtain ⟨k61, k62, k63⟩ := blk3 p55
  have k64 := p55.lt
  go_wp2_with fail
  refine (i_IsMatrix _ _ _ _ lmm2 _ h52).mono ?_; rintro e w56 ⟨rfl, b56⟩
  clear k57 k58 k59 k60 k61 k62 k63 k64
  have h65 := h52.below b56
  have p66 := p53.below b56
  have p67 := p55.below b56
  have hb68 := below_call hb54 b56 hb54.size
  have e70 := eqM_refl mm0 mm1 lmm2
  obtain ⟨k71, k72, k73⟩ := blk3 p66
  have k74 := p66.lt
  obtain ⟨k75, k76, k77⟩ := blk3 p67
  have k78 := p67.lt
  go_wp2_with fail
  go_region_held3 (fun w' => w'.cell? ⟨w.heap.size, 0, none⟩ = some (.int .i64 mm0) ∧ w'.cell? ⟨w.heap.size, 1, none⟩ = some (.int .i64 mm1) ∧ w'.cell? ⟨w.heap.size, 2, none⟩ = some (.slice a_mm2 lmm2.length cap_mm2) ∧ w'.cell? ⟨w38.heap.size, 0, none⟩ = some (.int .i64 mm0) ∧ w'.cell? ⟨w38.heap.size, 1, none⟩ = some (.int .i64 mm1) ∧ w'.cell? ⟨w38.heap.size, 2, none⟩ = some (.slice a38_0 (lmm2).length cap38_0))
    (first
      | go_keep
      | exact ⟨(p66.below (below_of_drew b69)).cell 0, (p66.below (below_of_drew b69)).cell 1, (p66.below (below_of_drew b69)).cell 2, (p67.below (below_of_drew b69)).cell 0, (p67.below (below_of_drew b69)).cell 1, (p67.below (below_of_drew b69)).cell 2⟩
      | exact ⟨((p66.below (below_of_drew b69)).below b70).cell 0, ((p66.below (below_of_drew b69)).below b70).cell 1, ((p66.below (below_of_drew b69)).below b70).cell 2, ((p67.below (below_of_drew b69)).below b70).cell 0, ((p67.below (below_of_drew b69)).below b70).cell 1, ((p67.below (below_of_drew b69)).below b70).cell 2⟩)
    (first
      | (go_at_call 17; (with_reducible refine (l_toMatrix _ _ _ lmm2 _ (Rmm2.out.below hb68).drew (by omega)).mono ?_); rintro e w69 ⟨v69_0, rfl, h69_0, f69_0, b69⟩)
      | (go_at_call 19; (with_reducible refine (l_eqMatrix _ _ _ _ _ _ _ _ _ (h65.below (below_of_drew b69)) h69_0).mono ?_); rintro e w70 ⟨rfl, b70⟩))
  clear k71 k72 k73 k74 k75 k76 k77 k78
  have Db69 := below_of_drew b69
  have h79 := h65.below Db69
  have p80 := p66.below Db69
  have p81 := p67.below Db69
  have hb82 := below_call hb68 Db69 hb68.size
  have h83 := h79.below b70
  have p84 := p80.below b70
  have p85 := p81.below b70
  have hb86 := below_call hb82 b70 hb82.size
  obtain ⟨k87, k88, k89⟩ := blk3 p84
  have k90 := p84.lt
  obtain ⟨k91, k92, k93⟩ := blk3 p85
  have k94 := p85.lt
  go_wp2
  go_ret
  exact ⟨rfl, hb86⟩

set_option maxHeartbeats 4000000 in
set_option linter.unusedVariables false in
theorem law_FnExactEqualMatrices (aa0 : Int) (aa1 : Int) (aa2 : Value) (laa2 : List Int) (bb0 : Int) (bb1 : Int) (bb2 : Value) (lbb2 : List Int) (w : World) (wf_aa0 : (Lit.int .i64 aa0).wf = true) (wf_aa1 : (Lit.int .i64 aa1).wf = true) (raa2 : Raw w aa2 laa2) (bdaa2 : Bd laa2) (wf_bb0 : (Lit.int .i64 bb0).wf = true) (wf_bb1 : (Lit.int .i64 bb1).wf = true) (rbb2 : Raw w bb2 lbb2) (bdbb2 : Bd lbb2) :
    Calls Try.prog 3 #[.agg #[.int .i64 aa0, .int .i64 aa1, aa2], .agg #[.int .i64 bb0, .int .i64 bb1, bb2]] w fun e w' => e = .returned (.bool true) ∧ Below w.heap.size w w' := by
  obtain ⟨lo_aa0, hi_aa0⟩ := wf_i64 wf_aa0
  clear wf_aa0
  obtain ⟨lo_aa1, hi_aa1⟩ := wf_i64 wf_aa1
  clear wf_aa1
  have Raa2 := Lib.hid raa2
  have BDaa2 := Lib.hid bdaa2
  obtain ⟨a_aa2, cap_aa2, rfl, hlc_aa2, hcm_aa2⟩ := raa2.shape
  clear raa2 bdaa2
  obtain ⟨lo_bb0, hi_bb0⟩ := wf_i64 wf_bb0
  clear wf_bb0
  obtain ⟨lo_bb1, hi_bb1⟩ := wf_i64 wf_bb1
  clear wf_bb1
  have Rbb2 := Lib.hid rbb2
  have BDbb2 := Lib.hid bdbb2
  obtain ⟨a_bb2, cap_bb2, rfl, hlc_bb2, hcm_bb2⟩ := rbb2.shape
  clear rbb2 bdbb2
  have b1 : Below w.heap.size w (w.alloc (.cells #[.int .i64 aa0, .int .i64 aa1, .slice a_aa2 laa2.length cap_aa2] 24)) := (Below.refl _ _).alloc (Nat.le_refl _) _
  have hb2 := b1
  have p3 := Blk.new w #[.int .i64 aa0, .int .i64 aa1, .slice a_aa2 laa2.length cap_aa2] 24
  have b4 : Below (w.alloc (.cells #[.int .i64 aa0, .int .i64 aa1, .slice a_aa2 laa2.length cap_aa2] 24)).heap.size (w.alloc (.cells #[.int .i64 aa0, .int .i64 aa1, .slice a_aa2 laa2.length cap_aa2] 24)) ((w.alloc (.cells #[.int .i64 aa0, .int .i64 aa1, .slice a_aa2 laa2.length cap_aa2] 24)).alloc (.cells #[.int .i64 bb0, .int .i64 bb1, .slice a_bb2 lbb2.length cap_bb2] 24)) := (Below.refl _ _).alloc (Nat.le_refl _) _
  have p5 := p3.below b4
  have hb6 := below_call hb2 b4 hb2.size
  have p7 : Blk ((w.alloc (.cells #[.int .i64 aa0, .int .i64 aa1, .slice a_aa2 laa2.length cap_aa2] 24)).alloc (.cells #[.int .i64 bb0, .int .i64 bb1, .slice a_bb2 lbb2.length cap_bb2] 24)) (w.heap.size + 1) #[.int .i64 bb0, .int .i64 bb1, .slice a_bb2 lbb2.length cap_bb2] 24 := by simpa using Blk.new (w.alloc (.cells #[.int .i64 aa0, .int .i64 aa1, .slice a_aa2 laa2.length cap_aa2] 24)) #[.int .i64 bb0, .int .i64 bb1, .slice a_bb2 lbb2.length cap_bb2] 24
  by_cases hL0 : laa2.length ≤ 1048576
  rotate_left
  · skip
    go_enter Try.func3, Try.ntmps3
    have es8 : szI 1048576 laa2 = -1 := by unfold szI; rw [if_pos (by omega)]
    obtain ⟨k9, k10, k11⟩ := blk3 p5
    have k12 := p5.lt
    obtain ⟨k13, k14, k15⟩ := blk3 p7
    have k16 := p7.lt
    go_wp2_with fail
    refine (l_szMatrix _ _ _ laa2 1048576 _ (Raa2.out.below hb6) (by omega) (by omega)).mono ?_; rintro e w8 ⟨rfl, b8⟩
    clear k9 k10 k11 k12 k13 k14 k15 k16
    have p17 := p5.below b8
    have p18 := p7.below b8
    have hb19 := below_call hb6 b8 hb6.size
    obtain ⟨k20, k21, k22⟩ := blk3 p17
    have k23 := p17.lt
    obtain ⟨k24, k25, k26⟩ := blk3 p18
    have k27 := p18.lt
    go_wp2
    go_ret
    exact ⟨rfl, hb19⟩
  by_cases hL1 : lbb2.length ≤ 1048576 - laa2.length
  rotate_left
  · skip
    go_enter Try.func3, Try.ntmps3
    have es28 : szI 1048576 laa2 = 1048576 - (laa2.length : Int) := by unfold szI; rw [if_neg (by omega)]
    obtain ⟨k29, k30, k31⟩ := blk3 p5
    have k32 := p5.lt
    obtain ⟨k33, k34, k35⟩ := blk3 p7
    have k36 := p7.lt
    go_wp2_with fail
    refine (l_szMatrix _ _ _ laa2 1048576 _ (Raa2.out.below hb6) (by omega) (by omega)).mono ?_; rintro e w28 ⟨rfl, b28⟩
    clear k29 k30 k31 k32 k33 k34 k35 k36
    have p37 := p5.below b28
    have p38 := p7.below b28
    have hb39 := below_call hb6 b28 hb6.size
    have es40 : szI (1048576 - (laa2.length : Int)) lbb2 = -1 := by unfold szI; rw [if_pos (by omega)]
    obtain ⟨k41, k42, k43⟩ := blk3 p37
    have k44 := p37.lt
    obtain ⟨k45, k46, k47⟩ := blk3 p38
    have k48 := p38.lt
    go_wp2_with fail
    refine (l_szMatrix _ _ _ lbb2 (1048576 - (laa2.length : Int)) _ (Rbb2.out.below hb39) (by omega) (by omega)).mono ?_; rintro e w40 ⟨rfl, b40⟩
    clear k41 k42 k43 k44 k45 k46 k47 k48
    have p49 := p37.below b40
    have p50 := p38.below b40
    have hb51 := below_call hb39 b40 hb39.size
    obtain ⟨k52, k53, k54⟩ := blk3 p49
    have k55 := p49.lt
    obtain ⟨k56, k57, k58⟩ := blk3 p50
    have k59 := p50.lt
    go_wp2
    go_ret
    exact ⟨rfl, hb51⟩
  go_enter Try.func3, Try.ntmps3
  have es60 : szI 1048576 laa2 = 1048576 - (laa2.length : Int) := by unfold szI; rw [if_neg (by omega)]
  obtain ⟨k61, k62, k63⟩ := blk3 p5
  have k64 := p5.lt
  obtain ⟨k65, k66, k67⟩ := blk3 p7
  have k68 := p7.lt
  go_wp2_with fail
  refine (l_szMatrix _ _ _ laa2 1048576 _ (Raa2.out.below hb6) (by omega) (by omega)).mono ?_; rintro e w60 ⟨rfl, b60⟩
  clear k61 k62 k63 k64 k65 k66 k67 k68
  have p69 := p5.below b60
  have p70 := p7.below b60
  have hb71 := below_call hb6 b60 hb6.size
  have es72 : szI (1048576 - (laa2.length : Int)) lbb2 = (1048576 - (laa2.length : Int)) - (lbb2.length : Int) := by unfold szI; rw [if_neg (by omega)]
  obtain ⟨k73, k74, k75⟩ := blk3 p69
  have k76 := p69.lt
  obtain ⟨k77, k78, k79⟩ := blk3 p70
  have k80 := p70.lt
  go_wp2_with fail
  refine (l_szMatrix _ _ _ lbb2 (1048576 - (laa2.length : Int)) _ (Rbb2.out.below hb71) (by omega) (by omega)).mono ?_; rintro e w72 ⟨rfl, b72⟩
  clear k73 k74 k75 k76 k77 k78 k79 k80
  have p81 := p69.below b72
  have p82 := p70.below b72
  have hb83 := below_call hb71 b72 hb71.size
  obtain ⟨k87, k88, k89⟩ := blk3 p81
  have k90 := p81.lt
  obtain ⟨k91, k92, k93⟩ := blk3 p82
  have k94 := p82.lt
  go_wp2_with fail
  go_region_held3 (fun w' => w'.cell? ⟨w.heap.size, 0, none⟩ = some (.int .i64 aa0) ∧ w'.cell? ⟨w.heap.size, 1, none⟩ = some (.int .i64 aa1) ∧ w'.cell? ⟨w.heap.size, 2, none⟩ = some (.slice a_aa2 laa2.length cap_aa2) ∧ w'.cell? ⟨w.heap.size + 1, 0, none⟩ = some (.int .i64 bb0) ∧ w'.cell? ⟨w.heap.size + 1, 1, none⟩ = some (.int .i64 bb1) ∧ w'.cell? ⟨w.heap.size + 1, 2, none⟩ = some (.slice a_bb2 lbb2.length cap_bb2))
    (first
      | go_keep
      | exact ⟨(p81.below (below_of_drew b84)).cell 0, (p81.below (below_of_drew b84)).cell 1, (p81.below (below_of_drew b84)).cell 2, (p82.below (below_of_drew b84)).cell 0, (p82.below (below_of_drew b84)).cell 1, (p82.below (below_of_drew b84)).cell 2⟩
      | exact ⟨((p81.below (below_of_drew b84)).below b85).cell 0, ((p81.below (below_of_drew b84)).below b85).cell 1, ((p81.below (below_of_drew b84)).below b85).cell 2, ((p82.below (below_of_drew b84)).below b85).cell 0, ((p82.below (below_of_drew b84)).below b85).cell 1, ((p82.below (below_of_drew b84)).below b85).cell 2⟩
      | exact ⟨(((p81.below (below_of_drew b84)).below b85).below b86).cell 0, (((p81.below (below_of_drew b84)).below b85).below b86).cell 1, (((p81.below (below_of_drew b84)).below b85).below b86).cell 2, (((p82.below (below_of_drew b84)).below b85).below b86).cell 0, (((p82.below (below_of_drew b84)).below b85).below b86).cell 1, (((p82.below (below_of_drew b84)).below b85).below b86).cell 2⟩)
    (first
      | (go_at_call 17; (with_reducible refine (l_toMatrix _ _ _ laa2 _ (Raa2.out.below hb83).drew (by omega)).mono ?_); rintro e w84 ⟨v84_0, rfl, h84_0, f84_0, b84⟩)
      | (go_at_call 17; (with_reducible refine (l_toMatrix _ _ _ lbb2 _ ((Rbb2.out.below hb83).below (below_of_drew b84)) (by omega)).mono ?_); rintro e w85 ⟨v85_0, rfl, h85_0, f85_0, b85⟩)
      | (go_at_call 16; (with_reducible refine (s_EqualMatrices _ _ _ _ _ _ laa2 lbb2 _ (h84_0.below b85) h85_0).mono ?_); rintro e w86 ⟨rfl, b86⟩))
  clear k87 k88 k89 k90 k91 k92 k93 k94
  have Db84 := below_of_drew b84
  have p95 := p81.below Db84
  have p96 := p82.below Db84
  have hb97 := below_call hb83 Db84 hb83.size
  have p98 := p95.below b85
  have p99 := p96.below b85
  have hb100 := below_call hb97 b85 hb97.size
  have p101 := p98.below b86
  have p102 := p99.below b86
  have hb103 := below_call hb100 b86 hb100.size
  obtain ⟨k105, k106, k107⟩ := blk3 p101
  have k108 := p101.lt
  obtain ⟨k109, k110, k111⟩ := blk3 p102
  have k112 := p102.lt
  go_wp2_with fail
  refine (l_toMatrix _ _ _ laa2 _ (Raa2.out.below hb103) (by omega)).mono ?_; rintro e w104 ⟨v104_0, rfl, h104_0, f104_0, b104⟩
  clear k105 k106 k107 k108 k109 k110 k111 k112
  have p113 := p101.below b104
  have p114 := p102.below b104
  have hb115 := below_call hb103 b104 hb103.size
  obtain ⟨a104_0, cap104_0, rfl, _, _⟩ := h104_0.shape
  have sb116 := Lib.hid (sep_blk_new p101 f104_0)
  have sb117 := Lib.hid (sep_blk_new p102 f104_0)
  have Ff104_0 := Lib.hid f104_0
  clear f104_0
  obtain ⟨k118, k119, k120⟩ := blk3 p113
  have k121 := p113.lt
  obtain ⟨k122, k123, k124⟩ := blk3 p114
  have k125 := p114.lt
  have sb126 := Lib.hid (sep_blk_old h104_0)
  have b127 : Below w104.heap.size w104 (w104.alloc (.cells #[.int .i64 aa0, .int .i64 aa1, .slice a104_0 (laa2).length cap104_0] 27)) := (Below.refl _ w104).alloc (Nat.le_refl _) _
  have h128 := h104_0.below b127
  have p129 := p113.below b127
  have p130 := p114.below b127
  have hb131 := below_call hb115 b127 hb115.size
  have p132 := Blk.new w104 #[.int .i64 aa0, .int .i64 aa1, .slice a104_0 (laa2).length cap104_0] 27
  obtain ⟨k134, k135, k136⟩ := blk3 p129
  have k137 := p129.lt
  obtain ⟨k138, k139, k140⟩ := blk3 p130
  have k141 := p130.lt
  obtain ⟨k142, k143, k144⟩ := blk3 p132
  have k145 := p132.lt
  go_wp2_with fail
  refine (l_toMatrix _ _ _ lbb2 _ (Rbb2.out.below hb131) (by omega)).mono ?_; rintro e w133 ⟨v133_0, rfl, h133_0, f133_0, b133⟩
  clear k134 k135 k136 k137 k138 k139 k140 k141 k142 k143 k144 k145
  have h146 := h128.below b133
  have p147 := p129.below b133
  have p148 := p130.below b133
  have p149 := p132.below b133
  have hb150 := below_call hb131 b133 hb131.size
  obtain ⟨a133_0, cap133_0, rfl, _, _⟩ := h133_0.shape
  have sp151 := Lib.hid (sep_new h128 f133_0)
  have sp152 := Lib.hid (sep_symm sp151.out)
  have sb153 := Lib.hid (sep_blk_new p129 f133_0)
  have sb154 := Lib.hid (sep_blk_new p130 f133_0)
  have sb155 := Lib.hid (sep_blk_new p132 f133_0)
  have Ff133_0 := Lib.hid f133_0
  clear f133_0
  obtain ⟨k156, k157, k158⟩ := blk3 p147
  have k159 := p147.lt
  obtain ⟨k160, k161, k162⟩ := blk3 p148
  have k163 := p148.lt
  obtain ⟨k164, k165, k166⟩ := blk3 p149
  have k167 := p149.lt
  have sb168 := Lib.hid (sep_blk_old h146)
  have sb169 := Lib.hid (sep_blk_old h133_0)
  have b170 : Below w133.heap.size w133 (w133.alloc (.cells #[.int .i64 bb0, .int .i64 bb1, .slice a133_0 (lbb2).length cap133_0] 27)) := (Below.refl _ w133).alloc (Nat.le_refl _) _
  have h171 := h146.below b170
  have h172 := h133_0.below b170
  have p173 := p147.below b170
  have p174 := p148.below b170
  have p175 := p149.below b170
  have hb176 := below_call hb150 b170 hb150.size
  have p177 := Blk.new w133 #[.int .i64 bb0, .int .i64 bb1, .slice a133_0 (lbb2).length cap133_0] 27
  obtain ⟨k179, k180, k181⟩ := blk3 p173
  have k182 := p173.lt
  obtain ⟨k183, k184, k185⟩ := blk3 p174
  have k186 := p174.lt
  obtain ⟨k187, k188, k189⟩ := blk3 p175
  have k190 := p175.lt
  obtain ⟨k191, k192, k193⟩ := blk3 p177
  have k194 := p177.lt
  go_wp2_with fail
  refine (i_EqualMatrices _ _ _ _ _ _ laa2 lbb2 _ h171 h172).mono ?_; rintro e w178 ⟨rfl, b178⟩
  clear k179 k180 k181 k182 k183 k184 k185 k186 k187 k188 k189 k190 k191 k192 k193 k194
  have h195 := h171.below b178
  have h196 := h172.below b178
  have p197 := p173.below b178
  have p198 := p174.below b178
  have p199 := p175.below b178
  have p200 := p177.below b178
  have hb201 := below_call hb176 b178 hb176.size
  have e203 := eqM_refl aa0 aa1 laa2
  obtain ⟨k204, k205, k206⟩ := blk3 p197
  have k207 := p197.lt
  obtain ⟨k208, k209, k210⟩ := blk3 p198
  have k211 := p198.lt
  obtain ⟨k212, k213, k214⟩ := blk3 p199
  have k215 := p199.lt
  obtain ⟨k216, k217, k218⟩ := blk3 p200
  have k219 := p200.lt
  go_wp2_with fail
  go_region_held3 (fun w' => w'.cell? ⟨w.heap.size, 0, none⟩ = some (.int .i64 aa0) ∧ w'.cell? ⟨w.heap.size, 1, none⟩ = some (.int .i64 aa1) ∧ w'.cell? ⟨w.heap.size, 2, none⟩ = some (.slice a_aa2 laa2.length cap_aa2) ∧ w'.cell? ⟨w.heap.size + 1, 0, none⟩ = some (.int .i64 bb0) ∧ w'.cell? ⟨w.heap.size + 1, 1, none⟩ = some (.int .i64 bb1) ∧ w'.cell? ⟨w.heap.size + 1, 2, none⟩ = some (.slice a_bb2 lbb2.length cap_bb2) ∧ w'.cell? ⟨w104.heap.size, 0, none⟩ = some (.int .i64 aa0) ∧ w'.cell? ⟨w104.heap.size, 1, none⟩ = some (.int .i64 aa1) ∧ w'.cell? ⟨w104.heap.size, 2, none⟩ = some (.slice a104_0 (laa2).length cap104_0) ∧ w'.cell? ⟨w133.heap.size, 0, none⟩ = some (.int .i64 bb0) ∧ w'.cell? ⟨w133.heap.size, 1, none⟩ = some (.int .i64 bb1) ∧ w'.cell? ⟨w133.heap.size, 2, none⟩ = some (.slice a133_0 (lbb2).length cap133_0))
    (first
      | go_keep
      | exact ⟨(p197.below (below_of_drew b202)).cell 0, (p197.below (below_of_drew b202)).cell 1, (p197.below (below_of_drew b202)).cell 2, (p198.below (below_of_drew b202)).cell 0, (p198.below (below_of_drew b202)).cell 1, (p198.below (below_of_drew b202)).cell 2, (p199.below (below_of_drew b202)).cell 0, (p199.below (below_of_drew b202)).cell 1, (p199.below (below_of_drew b202)).cell 2, (p200.below (below_of_drew b202)).cell 0, (p200.below (below_of_drew b202)).cell 1, (p200.below (below_of_drew b202)).cell 2⟩
      | exact ⟨((p197.below (below_of_drew b202)).below b203).cell 0, ((p197.below (below_of_drew b202)).below b203).cell 1, ((p197.below (below_of_drew b202)).below b203).cell 2, ((p198.below (below_of_drew b202)).below b203).cell 0, ((p198.below (below_of_drew b202)).below b203).cell 1, ((p198.below (below_of_drew b202)).below b203).cell 2, ((p199.below (below_of_drew b202)).below b203).cell 0, ((p199.below (below_of_drew b202)).below b203).cell 1, ((p199.below (below_of_drew b202)).below b203).cell 2, ((p200.below (below_of_drew b202)).below b203).cell 0, ((p200.below (below_of_drew b202)).below b203).cell 1, ((p200.below (below_of_drew b202)).below b203).cell 2⟩)
    (first
      | (go_at_call 17; (with_reducible refine (l_toMatrix _ _ _ laa2 _ (Raa2.out.below hb201).drew (by omega)).mono ?_); rintro e w202 ⟨v202_0, rfl, h202_0, f202_0, b202⟩)
      | (go_at_call 19; (with_reducible refine (l_eqMatrix _ _ _ _ _ _ _ _ _ (h195.below (below_of_drew b202)) h202_0).mono ?_); rintro e w203 ⟨rfl, b203⟩))
  clear k204 k205 k206 k207 k208 k209 k210 k211 k212 k213 k214 k215 k216 k217 k218 k219
  have Db202 := below_of_drew b202
  have h220 := h195.below Db202
  have h221 := h196.below Db202
  have p222 := p197.below Db202
  have p223 := p198.below Db202
  have p224 := p199.below Db202
  have p225 := p200.below Db202
  have hb226 := below_call hb201 Db202 hb201.size
  have h227 := h220.below b203
  have h228 := h221.below b203
  have p229 := p222.below b203
  have p230 := p223.below b203
  have p231 := p224.below b203
  have p232 := p225.below b203
  have hb233 := below_call hb226 b203 hb226.size
  have e235 := eqM_refl bb0 bb1 lbb2
  obtain ⟨k236, k237, k238⟩ := blk3 p229
  have k239 := p229.lt
  obtain ⟨k240, k241, k242⟩ := blk3 p230
  have k243 := p230.lt
  obtain ⟨k244, k245, k246⟩ := blk3 p231
  have k247 := p231.lt
  obtain ⟨k248, k249, k250⟩ := blk3 p232
  have k251 := p232.lt
  go_wp2_with fail
  go_region_held3 (fun w' => w'.cell? ⟨w.heap.size, 0, none⟩ = some (.int .i64 aa0) ∧ w'.cell? ⟨w.heap.size, 1, none⟩ = some (.int .i64 aa1) ∧ w'.cell? ⟨w.heap.size, 2, none⟩ = some (.slice a_aa2 laa2.length cap_aa2) ∧ w'.cell? ⟨w.heap.size + 1, 0, none⟩ = some (.int .i64 bb0) ∧ w'.cell? ⟨w.heap.size + 1, 1, none⟩ = some (.int .i64 bb1) ∧ w'.cell? ⟨w.heap.size + 1, 2, none⟩ = some (.slice a_bb2 lbb2.length cap_bb2) ∧ w'.cell? ⟨w104.heap.size, 0, none⟩ = some (.int .i64 aa0) ∧ w'.cell? ⟨w104.heap.size, 1, none⟩ = some (.int .i64 aa1) ∧ w'.cell? ⟨w104.heap.size, 2, none⟩ = some (.slice a104_0 (laa2).length cap104_0) ∧ w'.cell? ⟨w133.heap.size, 0, none⟩ = some (.int .i64 bb0) ∧ w'.cell? ⟨w133.heap.size, 1, none⟩ = some (.int .i64 bb1) ∧ w'.cell? ⟨w133.heap.size, 2, none⟩ = some (.slice a133_0 (lbb2).length cap133_0))
    (first
      | go_keep
      | exact ⟨(p229.below (below_of_drew b234)).cell 0, (p229.below (below_of_drew b234)).cell 1, (p229.below (below_of_drew b234)).cell 2, (p230.below (below_of_drew b234)).cell 0, (p230.below (below_of_drew b234)).cell 1, (p230.below (below_of_drew b234)).cell 2, (p231.below (below_of_drew b234)).cell 0, (p231.below (below_of_drew b234)).cell 1, (p231.below (below_of_drew b234)).cell 2, (p232.below (below_of_drew b234)).cell 0, (p232.below (below_of_drew b234)).cell 1, (p232.below (below_of_drew b234)).cell 2⟩
      | exact ⟨((p229.below (below_of_drew b234)).below b235).cell 0, ((p229.below (below_of_drew b234)).below b235).cell 1, ((p229.below (below_of_drew b234)).below b235).cell 2, ((p230.below (below_of_drew b234)).below b235).cell 0, ((p230.below (below_of_drew b234)).below b235).cell 1, ((p230.below (below_of_drew b234)).below b235).cell 2, ((p231.below (below_of_drew b234)).below b235).cell 0, ((p231.below (below_of_drew b234)).below b235).cell 1, ((p231.below (below_of_drew b234)).below b235).cell 2, ((p232.below (below_of_drew b234)).below b235).cell 0, ((p232.below (below_of_drew b234)).below b235).cell 1, ((p232.below (below_of_drew b234)).below b235).cell 2⟩)
    (first
      | (go_at_call 17; (with_reducible refine (l_toMatrix _ _ _ lbb2 _ (Rbb2.out.below hb233).drew (by omega)).mono ?_); rintro e w234 ⟨v234_0, rfl, h234_0, f234_0, b234⟩)
      | (go_at_call 19; (with_reducible refine (l_eqMatrix _ _ _ _ _ _ _ _ _ (h228.below (below_of_drew b234)) h234_0).mono ?_); rintro e w235 ⟨rfl, b235⟩))
  clear k236 k237 k238 k239 k240 k241 k242 k243 k244 k245 k246 k247 k248 k249 k250 k251
  have Db234 := below_of_drew b234
  have h252 := h227.below Db234
  have h253 := h228.below Db234
  have p254 := p229.below Db234
  have p255 := p230.below Db234
  have p256 := p231.below Db234
  have p257 := p232.below Db234
  have hb258 := below_call hb233 Db234 hb233.size
  have h259 := h252.below b235
  have h260 := h253.below b235
  have p261 := p254.below b235
  have p262 := p255.below b235
  have p263 := p256.below b235
  have p264 := p257.below b235
  have hb265 := below_call hb258 b235 hb258.size
  obtain ⟨k266, k267, k268⟩ := blk3 p261
  have k269 := p261.lt
  obtain ⟨k270, k271, k272⟩ := blk3 p262
  have k273 := p262.lt
  obtain ⟨k274, k275, k276⟩ := blk3 p263
  have k277 := p263.lt
  obtain ⟨k278, k279, k280⟩ := blk3 p264
  have k281 := p264.lt
  go_wp2
  go_ret
  exact ⟨rfl, hb265⟩

end Go.Proofs.Yteaiikbebleiiaa
