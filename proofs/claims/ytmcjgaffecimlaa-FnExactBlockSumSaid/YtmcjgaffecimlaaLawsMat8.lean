/- The walk of the law BlockSum. -/
import Derived.Test.YtmcjgaffecimlaaMat10
import Derived.Test.YtmcjgaffecimlaaMatAux
import Derived.Test.YtmcjgaffecimlaaLawR
namespace Go.Proofs.Ytmcjgaffecimlaa
open Go.RowKit
set_option linter.unusedVariables false
set_option linter.unusedSimpArgs false

theorem blkM_len (p ra ca rb cb : Int) (la lb : List Int) : (mL (blkMOK p ra ca rb cb la lb) (blkR ra ca rb cb la lb)).length ≤ 64 := by
  unfold mL
  cases h : blkMOK p ra ca rb cb la lb
  · simp
  · unfold blkMOK at h
    simp only [Bool.and_eq_true, decide_eq_true_eq] at h
    obtain ⟨⟨⟨h1, h2⟩, h3⟩, h4⟩ := h
    obtain ⟨r0, _, c0, _, _, _⟩ := isM_true h1
    obtain ⟨s0, _, d0, _, _, _⟩ := isM_true h2
    simp only [if_true, blkR]
    unfold blkL
    rw [matL_len]
    exact Nat.mul_le_mul (show ra.toNat + rb.toNat ≤ 8 by omega) (show ca.toNat + cb.toNat ≤ 8 by omega)
-- walks
set_option maxRecDepth 100000 in
set_option maxHeartbeats 4000000 in
set_option linter.unusedVariables false in
theorem law_FnExactBlockSum (p : Int) (aa0 : Int) (aa1 : Int) (aa2 : Value) (laa2 : List Int) (bb0 : Int) (bb1 : Int) (bb2 : Value) (lbb2 : List Int) (w : World) (wf_p : (Lit.int .i64 p).wf = true) (wf_aa0 : (Lit.int .i64 aa0).wf = true) (wf_aa1 : (Lit.int .i64 aa1).wf = true) (raa2 : Raw w aa2 laa2) (bdaa2 : Bd laa2) (wf_bb0 : (Lit.int .i64 bb0).wf = true) (wf_bb1 : (Lit.int .i64 bb1).wf = true) (rbb2 : Raw w bb2 lbb2) (bdbb2 : Bd lbb2) :
    Calls Try.prog 3 #[.int .i64 p, .agg #[.int .i64 aa0, .int .i64 aa1, aa2], .agg #[.int .i64 bb0, .int .i64 bb1, bb2]] w fun e w' => e = .returned (.bool true) ∧ Below w.heap.size w w' := by
  obtain ⟨lo_p, hi_p⟩ := wf_i64 wf_p
  clear wf_p
  obtain ⟨lo_aa0, hi_aa0⟩ := wf_i64 wf_aa0
  clear wf_aa0
  obtain ⟨lo_aa1, hi_aa1⟩ := wf_i64 wf_aa1
  clear wf_aa1
  have Raa2 := Lib.hid raa2
  have BDaa2 := Lib.hid bdaa2
  obtain ⟨a_aa2, cap_aa2, rfl, hlc_aa2, hcm_aa2⟩ := raa2.shape
  clear raa2 bdaa2
  obtain ⟨lo_bb0, hi_bb0⟩ := wf_i64 wf_bb0
  clear wf_bb0
  obtain ⟨lo_bb1, hi_bb1⟩ := wf_i64 wf_bb1
  clear wf_bb1
  have Rbb2 := Lib.hid rbb2
  have BDbb2 := Lib.hid bdbb2
  obtain ⟨a_bb2, cap_bb2, rfl, hlc_bb2, hcm_bb2⟩ := rbb2.shape
  clear rbb2 bdbb2
  have b1 : Below w.heap.size w (w.alloc (.cells #[.int .i64 aa0, .int .i64 aa1, .slice a_aa2 laa2.length cap_aa2] 24)) := (Below.refl _ _).alloc (Nat.le_refl _) _
  have hb2 := b1
  have p3 := Blk.new w #[.int .i64 aa0, .int .i64 aa1, .slice a_aa2 laa2.length cap_aa2] 24
  have b4 : Below (w.alloc (.cells #[.int .i64 aa0, .int .i64 aa1, .slice a_aa2 laa2.length cap_aa2] 24)).heap.size (w.alloc (.cells #[.int .i64 aa0, .int .i64 aa1, .slice a_aa2 laa2.length cap_aa2] 24)) ((w.alloc (.cells #[.int .i64 aa0, .int .i64 aa1, .slice a_aa2 laa2.length cap_aa2] 24)).alloc (.cells #[.int .i64 bb0, .int .i64 bb1, .slice a_bb2 lbb2.length cap_bb2] 24)) := (Below.refl _ _).alloc (Nat.le_refl _) _
  have p5 := p3.below b4
  have hb6 := below_call hb2 b4 hb2.size
  have p7 : Blk ((w.alloc (.cells #[.int .i64 aa0, .int .i64 aa1, .slice a_aa2 laa2.length cap_aa2] 24)).alloc (.cells #[.int .i64 bb0, .int .i64 bb1, .slice a_bb2 lbb2.length cap_bb2] 24)) (w.heap.size + 1) #[.int .i64 bb0, .int .i64 bb1, .slice a_bb2 lbb2.length cap_bb2] 24 := by simpa using Blk.new (w.alloc (.cells #[.int .i64 aa0, .int .i64 aa1, .slice a_aa2 laa2.length cap_aa2] 24)) #[.int .i64 bb0, .int .i64 bb1, .slice a_bb2 lbb2.length cap_bb2] 24
  by_cases hL0 : laa2.length ≤ 1048576
  rotate_left
  · skip
    go_enter Try.func3, Try.ntmps3
    have es8 : szI 1048576 laa2 = -1 := by unfold szI; rw [if_pos (by omega)]
    obtain ⟨k9, k10, k11⟩ := blk3 p5
    have k12 := p5.lt
    obtain ⟨k13, k14, k15⟩ := blk3 p7
    have k16 := p7.lt
    go_wp2_with fail
    refine (l_szMatrix _ _ _ laa2 1048576 _ (Raa2.out.below hb6) (by omega) (by omega)).mono ?_; rintro e w8 ⟨rfl, b8⟩
    clear k9 k10 k11 k12 k13 k14 k15 k16
    have p17 := p5.below b8
    have p18 := p7.below b8
    have hb19 := below_call hb6 b8 hb6.size
    obtain ⟨k20, k21, k22⟩ := blk3 p17
    have k23 := p17.lt
    obtain ⟨k24, k25, k26⟩ := blk3 p18
    have k27 := p18.lt
    go_wp2
    go_ret
    exact ⟨rfl, hb19⟩
  by_cases hL1 : lbb2.length ≤ 1048576 - laa2.length
  rotate_left
  · skip
    go_enter Try.func3, Try.ntmps3
    have es28 : szI 1048576 laa2 = 1048576 - (laa2.length : Int) := by unfold szI; rw [if_neg (by omega)]
    obtain ⟨k29, k30, k31⟩ := blk3 p5
    have k32 := p5.lt
    obtain ⟨k33, k34, k35⟩ := blk3 p7
    have k36 := p7.lt
    go_wp2_with fail
    refine (l_szMatrix _ _ _ laa2 1048576 _ (Raa2.out.below hb6) (by omega) (by omega)).mono ?_; rintro e w28 ⟨rfl, b28⟩
    clear k29 k30 k31 k32 k33 k34 k35 k36
    have p37 := p5.below b28
    have p38 := p7.below b28
    have hb39 := below_call hb6 b28 hb6.size
    have es40 : szI (1048576 - (laa2.length : Int)) lbb2 = -1 := by unfold szI; rw [if_pos (by omega)]
    obtain ⟨k41, k42, k43⟩ := blk3 p37
    have k44 := p37.lt
    obtain ⟨k45, k46, k47⟩ := blk3 p38
    have k48 := p38.lt
    go_wp2_with fail
    refine (l_szMatrix _ _ _ lbb2 (1048576 - (laa2.length : Int)) _ (Rbb2.out.below hb39) (by omega) (by omega)).mono ?_; rintro e w40 ⟨rfl, b40⟩
    clear k41 k42 k43 k44 k45 k46 k47 k48
    have p49 := p37.below b40
    have p50 := p38.below b40
    have hb51 := below_call hb39 b40 hb39.size
    obtain ⟨k52, k53, k54⟩ := blk3 p49
    have k55 := p49.lt
    obtain ⟨k56, k57, k58⟩ := blk3 p50
    have k59 := p50.lt
    go_wp2
    go_ret
    exact ⟨rfl, hb51⟩
  have hn60 := blkM_len p aa0 aa1 bb0 bb1 laa2 lbb2
  go_enter Try.func3, Try.ntmps3
  have es61 : szI 1048576 laa2 = 1048576 - (laa2.length : Int) := by unfold szI; rw [if_neg (by omega)]
  obtain ⟨k62, k63, k64⟩ := blk3 p5
  have k65 := p5.lt
  obtain ⟨k66, k67, k68⟩ := blk3 p7
  have k69 := p7.lt
  go_wp2_with fail
  refine (l_szMatrix _ _ _ laa2 1048576 _ (Raa2.out.below hb6) (by omega) (by omega)).mono ?_; rintro e w61 ⟨rfl, b61⟩
  clear k62 k63 k64 k65 k66 k67 k68 k69
  have p70 := p5.below b61
  have p71 := p7.below b61
  have hb72 := below_call hb6 b61 hb6.size
  have es73 : szI (1048576 - (laa2.length : Int)) lbb2 = (1048576 - (laa2.length : Int)) - (lbb2.length : Int) := by unfold szI; rw [if_neg (by omega)]
  obtain ⟨k74, k75, k76⟩ := blk3 p70
  have k77 := p70.lt
  obtain ⟨k78, k79, k80⟩ := blk3 p71
  have k81 := p71.lt
  go_wp2_with fail
  refine (l_szMatrix _ _ _ lbb2 (1048576 - (laa2.length : Int)) _ (Rbb2.out.below hb72) (by omega) (by omega)).mono ?_; rintro e w73 ⟨rfl, b73⟩
  clear k74 k75 k76 k77 k78 k79 k80 k81
  have p82 := p70.below b73
  have p83 := p71.below b73
  have hb84 := below_call hb72 b73 hb72.size
  obtain ⟨k86, k87, k88⟩ := blk3 p82
  have k89 := p82.lt
  obtain ⟨k90, k91, k92⟩ := blk3 p83
  have k93 := p83.lt
  have HS85 := Lib.hid (fun (w' : World) (hb : Below w73.heap.size w73 w') => (show (w'.cell? ⟨w.heap.size, 0, none⟩ = some (.int .i64 aa0) ∧ w'.cell? ⟨w.heap.size, 1, none⟩ = some (.int .i64 aa1) ∧ w'.cell? ⟨w.heap.size, 2, none⟩ = some (.slice a_aa2 laa2.length cap_aa2) ∧ w'.cell? ⟨w.heap.size + 1, 0, none⟩ = some (.int .i64 bb0) ∧ w'.cell? ⟨w.heap.size + 1, 1, none⟩ = some (.int .i64 bb1) ∧ w'.cell? ⟨w.heap.size + 1, 2, none⟩ = some (.slice a_bb2 lbb2.length cap_bb2)) ∧ Below w73.heap.size w73 w' from ⟨⟨(p82.below hb).cell 0, (p82.below hb).cell 1, (p82.below hb).cell 2, (p83.below hb).cell 0, (p83.below hb).cell 1, (p83.below hb).cell 2⟩, hb⟩))
  go_upto_region 8 with fail
  go_cut [8, 9] (fun sp sb wx => ∃ gg : Nat, sp = .pointer (some ⟨gg, 0, none⟩) ∧ sb = .bool (blkMOK p aa0 aa1 bb0 bb1 laa2 lbb2) ∧ In3 26 w73 gg (.int .i64 (mR (blkMOK p aa0 aa1 bb0 bb1 laa2 lbb2) (aa0 + bb0))) (.int .i64 (mR (blkMOK p aa0 aa1 bb0 bb1 laa2 lbb2) (aa1 + bb1))) (mL (blkMOK p aa0 aa1 bb0 bb1 laa2 lbb2) (blkR aa0 aa1 bb0 bb1 laa2 lbb2)) wx)
  case first =>
    go_region_held3 (fun w' => (w'.cell? ⟨w.heap.size, 0, none⟩ = some (.int .i64 aa0) ∧ w'.cell? ⟨w.heap.size, 1, none⟩ = some (.int .i64 aa1) ∧ w'.cell? ⟨w.heap.size, 2, none⟩ = some (.slice a_aa2 laa2.length cap_aa2) ∧ w'.cell? ⟨w.heap.size + 1, 0, none⟩ = some (.int .i64 bb0) ∧ w'.cell? ⟨w.heap.size + 1, 1, none⟩ = some (.int .i64 bb1) ∧ w'.cell? ⟨w.heap.size + 1, 2, none⟩ = some (.slice a_bb2 lbb2.length cap_bb2)) ∧ Below w73.heap.size w73 w')
      (first
        | with_reducible exact (HS85.out _ ((Below.refl _ _).drew))
        | with_reducible exact (HS85.out _ (held_call ‹_ ∧ Below _ _ _› ‹Below _ _ _›))
        | with_reducible exact (HS85.out _ (held_allocd ‹_ ∧ Below _ _ _› _))
        | with_reducible exact (HS85.out _ (held_alloc ‹_ ∧ Below _ _ _› _))
        | with_reducible exact HS85.out _ ((hpre96.trans (b96.mono hpre96.size)).alloc (hpre96.trans (b96.mono hpre96.size)).size _)
        | exact HS85.out _ (held_set3 ‹_ ∧ Below _ _ _› (by first | exact Nat.le_refl _ | assumption) _ _ _))
      (first
        | (go_at_call 9; (with_reducible refine (l_toMatrix _ _ _ laa2 _ ?_ (by omega)).mono ?_); (exact ((Raa2.out.below hb84)).below (And.right ‹_ ∧ Below _ _ _›)); rintro e w94 ⟨v94_0, rfl, h94_0, f94_0, b94⟩; have hgi_b94 := (held_call ‹_ ∧ Below _ _ _› b94).size; (try (have kk0_0 := Blk.below (Blk.drew (Blk.new w73 #[.int .i64 0, .int .i64 0, .slice none 0 0] 26)) b94)))
        | (go_at_call 9; (with_reducible refine (l_toMatrix _ _ _ lbb2 _ ?_ (by omega)).mono ?_); (exact ((Rbb2.out.below hb84)).below (And.right ‹_ ∧ Below _ _ _›)); rintro e w95 ⟨v95_0, rfl, h95_0, f95_0, b95⟩; (have h94_0' : Ints w95 v94_0 laa2 := by first | exact h94_0.below b95 | exact (h94_0.below ((Below.refl _ _).alloc (Nat.le_refl _) _)).below b95); have hgi_b95 := (held_call ‹_ ∧ Below _ _ _› b95).size; (try (have kk0_1 := Blk.below kk0_0 b95)); (try (have kk1_1 := Blk.below (Blk.new w94 #[.int .i64 0, .int .i64 0, .slice none 0 0] 26) b95)))
        | (go_at_call 8; (with_reducible refine (s_BlockSum _ _ _ _ laa2 _ _ _ lbb2 _ ?_ ?_).mono ?_); (first | exact h94_0' | exact h94_0'.below ((Below.refl _ _).alloc (Nat.le_refl _) _)); (first | exact h95_0 | exact h95_0.below ((Below.refl _ _).alloc (Nat.le_refl _) _)); rintro e w96 ⟨v96, rfl, hv96, hf96, b96⟩; have hgi_b96 := (held_call ‹_ ∧ Below _ _ _› b96).size; (try (have kk0_2 := Blk.below kk0_1 b96)); (try (have ka0_0 : _ = some (Value.int .i64 0) := kk0_2.cell 0)); (try (have kf0_0 := kk0_2.frozen 0)); (try (have ka0_1 : _ = some (Value.int .i64 0) := kk0_2.cell 1)); (try (have kf0_1 := kk0_2.frozen 1)); (try (have ka0_2 : _ = some (Value.slice none 0 0) := kk0_2.cell 2)); (try (have kf0_2 := kk0_2.frozen 2)); (try (have kl0 := Lib.hid kk0_2; clear kk0_2)); (try (have kk1_2 := Blk.below kk1_1 b96)); (try (have ka1_0 : _ = some (Value.int .i64 0) := kk1_2.cell 0)); (try (have kf1_0 := kk1_2.frozen 0)); (try (have ka1_1 : _ = some (Value.int .i64 0) := kk1_2.cell 1)); (try (have kf1_1 := kk1_2.frozen 1)); (try (have ka1_2 : _ = some (Value.slice none 0 0) := kk1_2.cell 2)); (try (have kf1_2 := kk1_2.frozen 2)); (try (have kl1 := Lib.hid kk1_2; clear kk1_2)); (try (have kk2_2 := Blk.below (Blk.new w95 #[.int .i64 0, .int .i64 0, .slice none 0 0] 26) b96)); (try (have ka2_0 : _ = some (Value.int .i64 0) := kk2_2.cell 0)); (try (have kf2_0 := kk2_2.frozen 0)); (try (have ka2_1 : _ = some (Value.int .i64 0) := kk2_2.cell 1)); (try (have kf2_1 := kk2_2.frozen 1)); (try (have ka2_2 : _ = some (Value.slice none 0 0) := kk2_2.cell 2)); (try (have kf2_2 := kk2_2.frozen 2)); (try (have kl2 := Lib.hid kk2_2; clear kk2_2)); have hpre96 := And.right ‹_ ∧ Below _ _ _›; obtain ⟨a96, cap96, rfl, _, _⟩ := hv96.shape))
    all_goals (go_wp2_with fail; go_meet; have hfin := hpre96.trans (b96.mono hpre96.size))
    · refine ⟨_, rfl, rfl, ?_⟩
      exact in3_new _ _ hfin hv96 (fun q hq => Nat.le_trans hpre96.size (hf96 q hq))
    · refine ⟨_, rfl, rfl, ?_⟩
      have hlt := Res3.lt (res3_new w95 (.int .i64 0) (.int .i64 0) (.slice none 0 0) 26)
      have z0 := b94.size
      have z1 := b95.size
      skip
      have hge : w73.heap.size ≤ w95.heap.size := Nat.le_trans (b94.size) b95.size
      exact in3_mk _ _ hfin ((res3_new w95 (.int .i64 0) (.int .i64 0) (.slice none 0 0) 26).below b96) hge hv96 (fun q hq => ⟨Nat.le_trans hpre96.size (hf96 q hq), fun e => by have z1 := hf96 q hq; have z2 := hlt; omega⟩)
    · refine ⟨_, rfl, rfl, ?_⟩
      have hlt := Res3.lt ((res3_new w94 (.int .i64 0) (.int .i64 0) (.slice none 0 0) 26).below b95)
      have z0 := b94.size
      skip
      have hge : w73.heap.size ≤ w94.heap.size := b94.size
      exact in3_mk _ _ hfin (((res3_new w94 (.int .i64 0) (.int .i64 0) (.slice none 0 0) 26).below b95).below b96) hge hv96 (fun q hq => ⟨Nat.le_trans hpre96.size (hf96 q hq), fun e => by have z1 := hf96 q hq; have z2 := hlt; omega⟩)
    · refine ⟨_, rfl, rfl, ?_⟩
      have hlt := Res3.lt (((res3_newd w73 (.int .i64 0) (.int .i64 0) (.slice none 0 0) 26).below b94).below b95)
      have hge := Nat.le_refl w73.heap.size
      exact in3_mk _ _ hfin ((((res3_newd w73 (.int .i64 0) (.int .i64 0) (.slice none 0 0) 26).below b94).below b95).below b96) hge hv96 (fun q hq => ⟨Nat.le_trans hpre96.size (hf96 q hq), fun e => by have z1 := hf96 q hq; have z2 := hlt; omega⟩)
  case rest =>
    obtain ⟨gg97, rfl, rfl, v97, p97, h97, f97, ng97, hg97, b97⟩ := hcut
    obtain ⟨w97, rfl⟩ : ∃ x, x = wc := ⟨_, rfl⟩
    clear k86 k87 k88 k89 k90 k91 k92 k93 HS85
    obtain ⟨a97, cap97, rfl, _, _⟩ := h97.shape
    have p98 := p82.below b97
    have p99 := p83.below b97
    have hb100 := below_call hb84 b97 hb84.size
    have F97 := Lib.hid f97
    have NG97 := Lib.hid ng97
    have HG97 := Lib.hid hg97
    have sb101 := Lib.hid (sep_blk_new p82 F97.out)
    have sb102 := Lib.hid (sep_blk_new p83 F97.out)
    clear f97 ng97 hg97
    obtain ⟨k104, k105, k106⟩ := blk3 p98
    have k107 := p98.lt
    obtain ⟨k108, k109, k110⟩ := blk3 p99
    have k111 := p99.lt
    obtain ⟨k112, k113, k114⟩ := blk3 p97
    have k115 := p97.lt
    go_wp2_with fail
    refine (l_toMatrix _ _ _ laa2 _ (Raa2.out.below hb100) (by omega)).mono ?_; rintro e w103 ⟨v103_0, rfl, h103_0, f103_0, b103⟩
    clear k104 k105 k106 k107 k108 k109 k110 k111 k112 k113 k114 k115
    have h116 := h97.below b103
    have p117 := p98.below b103
    have p118 := p99.below b103
    have p119 := p97.below b103
    have hb120 := below_call hb100 b103 hb100.size
    obtain ⟨a103_0, cap103_0, rfl, _, _⟩ := h103_0.shape
    have sp121 := Lib.hid (sep_new h97 f103_0)
    have sp122 := Lib.hid (sep_symm sp121.out)
    have sb123 := Lib.hid (sep_blk_new p98 f103_0)
    have sb124 := Lib.hid (sep_blk_new p99 f103_0)
    have sb125 := Lib.hid (sep_blk_new p97 f103_0)
    have Ff103_0 := Lib.hid f103_0
    clear f103_0
    obtain ⟨k126, k127, k128⟩ := blk3 p117
    have k129 := p117.lt
    obtain ⟨k130, k131, k132⟩ := blk3 p118
    have k133 := p118.lt
    obtain ⟨k134, k135, k136⟩ := blk3 p119
    have k137 := p119.lt
    have sb138 := Lib.hid (sep_blk_old h116)
    have sb139 := Lib.hid (sep_blk_old h103_0)
    have b140 : Below w103.heap.size w103 (w103.alloc (.cells #[.int .i64 aa0, .int .i64 aa1, .slice a103_0 (laa2).length cap103_0] 26)) := (Below.refl _ w103).alloc (Nat.le_refl _) _
    have h141 := h116.below b140
    have h142 := h103_0.below b140
    have p143 := p117.below b140
    have p144 := p118.below b140
    have p145 := p119.below b140
    have hb146 := below_call hb120 b140 hb120.size
    have p147 := Blk.new w103 #[.int .i64 aa0, .int .i64 aa1, .slice a103_0 (laa2).length cap103_0] 26
    obtain ⟨k149, k150, k151⟩ := blk3 p143
    have k152 := p143.lt
    obtain ⟨k153, k154, k155⟩ := blk3 p144
    have k156 := p144.lt
    obtain ⟨k157, k158, k159⟩ := blk3 p145
    have k160 := p145.lt
    obtain ⟨k161, k162, k163⟩ := blk3 p147
    have k164 := p147.lt
    go_wp2_with fail
    refine (l_toMatrix _ _ _ lbb2 _ (Rbb2.out.below hb146) (by omega)).mono ?_; rintro e w148 ⟨v148_0, rfl, h148_0, f148_0, b148⟩
    clear k149 k150 k151 k152 k153 k154 k155 k156 k157 k158 k159 k160 k161 k162 k163 k164
    have h165 := h141.below b148
    have h166 := h142.below b148
    have p167 := p143.below b148
    have p168 := p144.below b148
    have p169 := p145.below b148
    have p170 := p147.below b148
    have hb171 := below_call hb146 b148 hb146.size
    obtain ⟨a148_0, cap148_0, rfl, _, _⟩ := h148_0.shape
    have sp172 := Lib.hid (sep_new h141 f148_0)
    have sp173 := Lib.hid (sep_symm sp172.out)
    have sp174 := Lib.hid (sep_new h142 f148_0)
    have sp175 := Lib.hid (sep_symm sp174.out)
    have sb176 := Lib.hid (sep_blk_new p143 f148_0)
    have sb177 := Lib.hid (sep_blk_new p144 f148_0)
    have sb178 := Lib.hid (sep_blk_new p145 f148_0)
    have sb179 := Lib.hid (sep_blk_new p147 f148_0)
    have Ff148_0 := Lib.hid f148_0
    clear f148_0
    obtain ⟨k180, k181, k182⟩ := blk3 p167
    have k183 := p167.lt
    obtain ⟨k184, k185, k186⟩ := blk3 p168
    have k187 := p168.lt
    obtain ⟨k188, k189, k190⟩ := blk3 p169
    have k191 := p169.lt
    obtain ⟨k192, k193, k194⟩ := blk3 p170
    have k195 := p170.lt
    have sb196 := Lib.hid (sep_blk_old h165)
    have sb197 := Lib.hid (sep_blk_old h166)
    have sb198 := Lib.hid (sep_blk_old h148_0)
    have b199 : Below w148.heap.size w148 (w148.alloc (.cells #[.int .i64 bb0, .int .i64 bb1, .slice a148_0 (lbb2).length cap148_0] 26)) := (Below.refl _ w148).alloc (Nat.le_refl _) _
    have h200 := h165.below b199
    have h201 := h166.below b199
    have h202 := h148_0.below b199
    have p203 := p167.below b199
    have p204 := p168.below b199
    have p205 := p169.below b199
    have p206 := p170.below b199
    have hb207 := below_call hb171 b199 hb171.size
    have p208 := Blk.new w148 #[.int .i64 bb0, .int .i64 bb1, .slice a148_0 (lbb2).length cap148_0] 26
    obtain ⟨k210, k211, k212⟩ := blk3 p203
    have k213 := p203.lt
    obtain ⟨k214, k215, k216⟩ := blk3 p204
    have k217 := p204.lt
    obtain ⟨k218, k219, k220⟩ := blk3 p205
    have k221 := p205.lt
    obtain ⟨k222, k223, k224⟩ := blk3 p206
    have k225 := p206.lt
    obtain ⟨k226, k227, k228⟩ := blk3 p208
    have k229 := p208.lt
    go_wp2_with fail
    refine (i_BlockSum _ _ _ _ laa2 _ _ _ lbb2 _ h201 h202).mono ?_; rintro e w209 ⟨v209_0, rfl, h209_0, f209_0, b209⟩
    clear k210 k211 k212 k213 k214 k215 k216 k217 k218 k219 k220 k221 k222 k223 k224 k225 k226 k227 k228 k229
    have h230 := h200.below b209
    have h231 := h201.below b209
    have h232 := h202.below b209
    have p233 := p203.below b209
    have p234 := p204.below b209
    have p235 := p205.below b209
    have p236 := p206.below b209
    have p237 := p208.below b209
    have hb238 := below_call hb207 b209 hb207.size
    obtain ⟨a209_0, cap209_0, rfl, _, _⟩ := h209_0.shape
    have sp239 := Lib.hid (sep_new h200 f209_0)
    have sp240 := Lib.hid (sep_symm sp239.out)
    have sp241 := Lib.hid (sep_new h201 f209_0)
    have sp242 := Lib.hid (sep_symm sp241.out)
    have sp243 := Lib.hid (sep_new h202 f209_0)
    have sp244 := Lib.hid (sep_symm sp243.out)
    have sb245 := Lib.hid (sep_blk_new p203 f209_0)
    have sb246 := Lib.hid (sep_blk_new p204 f209_0)
    have sb247 := Lib.hid (sep_blk_new p205 f209_0)
    have sb248 := Lib.hid (sep_blk_new p206 f209_0)
    have sb249 := Lib.hid (sep_blk_new p208 f209_0)
    have Ff209_0 := Lib.hid f209_0
    clear f209_0
    obtain ⟨k250, k251, k252⟩ := blk3 p233
    have k253 := p233.lt
    obtain ⟨k254, k255, k256⟩ := blk3 p234
    have k257 := p234.lt
    obtain ⟨k258, k259, k260⟩ := blk3 p235
    have k261 := p235.lt
    obtain ⟨k262, k263, k264⟩ := blk3 p236
    have k265 := p236.lt
    obtain ⟨k266, k267, k268⟩ := blk3 p237
    have k269 := p237.lt
    have sb270 := Lib.hid (sep_blk_old h230)
    have sb271 := Lib.hid (sep_blk_old h231)
    have sb272 := Lib.hid (sep_blk_old h232)
    have sb273 := Lib.hid (sep_blk_old h209_0)
    have b274 : Below w209.heap.size w209 (w209.alloc (.cells #[.int .i64 (mR (blkMOK p aa0 aa1 bb0 bb1 laa2 lbb2) (aa0 + bb0)), .int .i64 (mR (blkMOK p aa0 aa1 bb0 bb1 laa2 lbb2) (aa1 + bb1)), .slice a209_0 ((mL (blkMOK p aa0 aa1 bb0 bb1 laa2 lbb2) (blkR aa0 aa1 bb0 bb1 laa2 lbb2))).length cap209_0] 26)) := (Below.refl _ w209).alloc (Nat.le_refl _) _
    have h275 := h230.below b274
    have h276 := h231.below b274
    have h277 := h232.below b274
    have h278 := h209_0.below b274
    have p279 := p233.below b274
    have p280 := p234.below b274
    have p281 := p235.below b274
    have p282 := p236.below b274
    have p283 := p237.below b274
    have hb284 := below_call hb238 b274 hb238.size
    have p285 := Blk.new w209 #[.int .i64 (mR (blkMOK p aa0 aa1 bb0 bb1 laa2 lbb2) (aa0 + bb0)), .int .i64 (mR (blkMOK p aa0 aa1 bb0 bb1 laa2 lbb2) (aa1 + bb1)), .slice a209_0 ((mL (blkMOK p aa0 aa1 bb0 bb1 laa2 lbb2) (blkR aa0 aa1 bb0 bb1 laa2 lbb2))).length cap209_0] 26
    have e286 := eqM_refl (mR (blkMOK p aa0 aa1 bb0 bb1 laa2 lbb2) (aa0 + bb0)) (mR (blkMOK p aa0 aa1 bb0 bb1 laa2 lbb2) (aa1 + bb1)) (mL (blkMOK p aa0 aa1 bb0 bb1 laa2 lbb2) (blkR aa0 aa1 bb0 bb1 laa2 lbb2))
    obtain ⟨k287, k288, k289⟩ := blk3 p279
    have k290 := p279.lt
    obtain ⟨k291, k292, k293⟩ := blk3 p280
    have k294 := p280.lt
    obtain ⟨k295, k296, k297⟩ := blk3 p281
    have k298 := p281.lt
    obtain ⟨k299, k300, k301⟩ := blk3 p282
    have k302 := p282.lt
    obtain ⟨k303, k304, k305⟩ := blk3 p283
    have k306 := p283.lt
    obtain ⟨k307, k308, k309⟩ := blk3 p285
    have k310 := p285.lt
    go_wp2_with fail
    refine (l_eqMatrix _ _ _ _ _ _ _ _ _ h278 h275).mono ?_; rintro e w286 ⟨rfl, b286⟩
    clear k287 k288 k289 k290 k291 k292 k293 k294 k295 k296 k297 k298 k299 k300 k301 k302 k303 k304 k305 k306 k307 k308 k309 k310
    have h311 := h275.below b286
    have h312 := h276.below b286
    have h313 := h277.below b286
    have h314 := h278.below b286
    have p315 := p279.below b286
    have p316 := p280.below b286
    have p317 := p281.below b286
    have p318 := p282.below b286
    have p319 := p283.below b286
    have p320 := p285.below b286
    have hb321 := below_call hb284 b286 hb284.size
    have e323 := eqM_refl aa0 aa1 laa2
    obtain ⟨k324, k325, k326⟩ := blk3 p315
    have k327 := p315.lt
    obtain ⟨k328, k329, k330⟩ := blk3 p316
    have k331 := p316.lt
    obtain ⟨k332, k333, k334⟩ := blk3 p317
    have k335 := p317.lt
    obtain ⟨k336, k337, k338⟩ := blk3 p318
    have k339 := p318.lt
    obtain ⟨k340, k341, k342⟩ := blk3 p319
    have k343 := p319.lt
    obtain ⟨k344, k345, k346⟩ := blk3 p320
    have k347 := p320.lt
    go_wp2_with fail
    go_region_held3 (fun w' => w'.cell? ⟨w.heap.size, 0, none⟩ = some (.int .i64 aa0) ∧ w'.cell? ⟨w.heap.size, 1, none⟩ = some (.int .i64 aa1) ∧ w'.cell? ⟨w.heap.size, 2, none⟩ = some (.slice a_aa2 laa2.length cap_aa2) ∧ w'.cell? ⟨w.heap.size + 1, 0, none⟩ = some (.int .i64 bb0) ∧ w'.cell? ⟨w.heap.size + 1, 1, none⟩ = some (.int .i64 bb1) ∧ w'.cell? ⟨w.heap.size + 1, 2, none⟩ = some (.slice a_bb2 lbb2.length cap_bb2) ∧ w'.cell? ⟨gg97, 0, none⟩ = some (.int .i64 (mR (blkMOK p aa0 aa1 bb0 bb1 laa2 lbb2) (aa0 + bb0))) ∧ w'.cell? ⟨gg97, 1, none⟩ = some (.int .i64 (mR (blkMOK p aa0 aa1 bb0 bb1 laa2 lbb2) (aa1 + bb1))) ∧ w'.cell? ⟨gg97, 2, none⟩ = some (.slice a97 ((mL (blkMOK p aa0 aa1 bb0 bb1 laa2 lbb2) (blkR aa0 aa1 bb0 bb1 laa2 lbb2))).length cap97) ∧ w'.cell? ⟨w103.heap.size, 0, none⟩ = some (.int .i64 aa0) ∧ w'.cell? ⟨w103.heap.size, 1, none⟩ = some (.int .i64 aa1) ∧ w'.cell? ⟨w103.heap.size, 2, none⟩ = some (.slice a103_0 (laa2).length cap103_0) ∧ w'.cell? ⟨w148.heap.size, 0, none⟩ = some (.int .i64 bb0) ∧ w'.cell? ⟨w148.heap.size, 1, none⟩ = some (.int .i64 bb1) ∧ w'.cell? ⟨w148.heap.size, 2, none⟩ = some (.slice a148_0 (lbb2).length cap148_0) ∧ w'.cell? ⟨w209.heap.size, 0, none⟩ = some (.int .i64 (mR (blkMOK p aa0 aa1 bb0 bb1 laa2 lbb2) (aa0 + bb0))) ∧ w'.cell? ⟨w209.heap.size, 1, none⟩ = some (.int .i64 (mR (blkMOK p aa0 aa1 bb0 bb1 laa2 lbb2) (aa1 + bb1))) ∧ w'.cell? ⟨w209.heap.size, 2, none⟩ = some (.slice a209_0 ((mL (blkMOK p aa0 aa1 bb0 bb1 laa2 lbb2) (blkR aa0 aa1 bb0 bb1 laa2 lbb2))).length cap209_0))
      (first
        | go_keep
        | exact ⟨(p315.below (below_of_drew b322)).cell 0, (p315.below (below_of_drew b322)).cell 1, (p315.below (below_of_drew b322)).cell 2, (p316.below (below_of_drew b322)).cell 0, (p316.below (below_of_drew b322)).cell 1, (p316.below (below_of_drew b322)).cell 2, (p317.below (below_of_drew b322)).cell 0, (p317.below (below_of_drew b322)).cell 1, (p317.below (below_of_drew b322)).cell 2, (p318.below (below_of_drew b322)).cell 0, (p318.below (below_of_drew b322)).cell 1, (p318.below (below_of_drew b322)).cell 2, (p319.below (below_of_drew b322)).cell 0, (p319.below (below_of_drew b322)).cell 1, (p319.below (below_of_drew b322)).cell 2, (p320.below (below_of_drew b322)).cell 0, (p320.below (below_of_drew b322)).cell 1, (p320.below (below_of_drew b322)).cell 2⟩
        | exact ⟨((p315.below (below_of_drew b322)).below b323).cell 0, ((p315.below (below_of_drew b322)).below b323).cell 1, ((p315.below (below_of_drew b322)).below b323).cell 2, ((p316.below (below_of_drew b322)).below b323).cell 0, ((p316.below (below_of_drew b322)).below b323).cell 1, ((p316.below (below_of_drew b322)).below b323).cell 2, ((p317.below (below_of_drew b322)).below b323).cell 0, ((p317.below (below_of_drew b322)).below b323).cell 1, ((p317.below (below_of_drew b322)).below b323).cell 2, ((p318.below (below_of_drew b322)).below b323).cell 0, ((p318.below (below_of_drew b322)).below b323).cell 1, ((p318.below (below_of_drew b322)).below b323).cell 2, ((p319.below (below_of_drew b322)).below b323).cell 0, ((p319.below (below_of_drew b322)).below b323).cell 1, ((p319.below (below_of_drew b322)).below b323).cell 2, ((p320.below (below_of_drew b322)).below b323).cell 0, ((p320.below (below_of_drew b322)).below b323).cell 1, ((p320.below (below_of_drew b322)).below b323).cell 2⟩)
      (first
        | (go_at_call 9; (with_reducible refine (l_toMatrix _ _ _ laa2 _ (Raa2.out.below hb321).drew (by omega)).mono ?_); rintro e w322 ⟨v322_0, rfl, h322_0, f322_0, b322⟩)
        | (go_at_call 11; (with_reducible refine (l_eqMatrix _ _ _ _ _ _ _ _ _ (h312.below (below_of_drew b322)) h322_0).mono ?_); rintro e w323 ⟨rfl, b323⟩))
    clear k324 k325 k326 k327 k328 k329 k330 k331 k332 k333 k334 k335 k336 k337 k338 k339 k340 k341 k342 k343 k344 k345 k346 k347
    have Db322 := below_of_drew b322
    have h348 := h311.below Db322
    have h349 := h312.below Db322
    have h350 := h313.below Db322
    have h351 := h314.below Db322
    have p352 := p315.below Db322
    have p353 := p316.below Db322
    have p354 := p317.below Db322
    have p355 := p318.below Db322
    have p356 := p319.below Db322
    have p357 := p320.below Db322
    have hb358 := below_call hb321 Db322 hb321.size
    have h359 := h348.below b323
    have h360 := h349.below b323
    have h361 := h350.below b323
    have h362 := h351.below b323
    have p363 := p352.below b323
    have p364 := p353.below b323
    have p365 := p354.below b323
    have p366 := p355.below b323
    have p367 := p356.below b323
    have p368 := p357.below b323
    have hb369 := below_call hb358 b323 hb358.size
    have e371 := eqM_refl bb0 bb1 lbb2
    obtain ⟨k372, k373, k374⟩ := blk3 p363
    have k375 := p363.lt
    obtain ⟨k376, k377, k378⟩ := blk3 p364
    have k379 := p364.lt
    obtain ⟨k380, k381, k382⟩ := blk3 p365
    have k383 := p365.lt
    obtain ⟨k384, k385, k386⟩ := blk3 p366
    have k387 := p366.lt
    obtain ⟨k388, k389, k390⟩ := blk3 p367
    have k391 := p367.lt
    obtain ⟨k392, k393, k394⟩ := blk3 p368
    have k395 := p368.lt
    go_wp2_with fail
    go_region_held3 (fun w' => w'.cell? ⟨w.heap.size, 0, none⟩ = some (.int .i64 aa0) ∧ w'.cell? ⟨w.heap.size, 1, none⟩ = some (.int .i64 aa1) ∧ w'.cell? ⟨w.heap.size, 2, none⟩ = some (.slice a_aa2 laa2.length cap_aa2) ∧ w'.cell? ⟨w.heap.size + 1, 0, none⟩ = some (.int .i64 bb0) ∧ w'.cell? ⟨w.heap.size + 1, 1, none⟩ = some (.int .i64 bb1) ∧ w'.cell? ⟨w.heap.size + 1, 2, none⟩ = some (.slice a_bb2 lbb2.length cap_bb2) ∧ w'.cell? ⟨gg97, 0, none⟩ = some (.int .i64 (mR (blkMOK p aa0 aa1 bb0 bb1 laa2 lbb2) (aa0 + bb0))) ∧ w'.cell? ⟨gg97, 1, none⟩ = some (.int .i64 (mR (blkMOK p aa0 aa1 bb0 bb1 laa2 lbb2) (aa1 + bb1))) ∧ w'.cell? ⟨gg97, 2, none⟩ = some (.slice a97 ((mL (blkMOK p aa0 aa1 bb0 bb1 laa2 lbb2) (blkR aa0 aa1 bb0 bb1 laa2 lbb2))).length cap97) ∧ w'.cell? ⟨w103.heap.size, 0, none⟩ = some (.int .i64 aa0) ∧ w'.cell? ⟨w103.heap.size, 1, none⟩ = some (.int .i64 aa1) ∧ w'.cell? ⟨w103.heap.size, 2, none⟩ = some (.slice a103_0 (laa2).length cap103_0) ∧ w'.cell? ⟨w148.heap.size, 0, none⟩ = some (.int .i64 bb0) ∧ w'.cell? ⟨w148.heap.size, 1, none⟩ = some (.int .i64 bb1) ∧ w'.cell? ⟨w148.heap.size, 2, none⟩ = some (.slice a148_0 (lbb2).length cap148_0) ∧ w'.cell? ⟨w209.heap.size, 0, none⟩ = some (.int .i64 (mR (blkMOK p aa0 aa1 bb0 bb1 laa2 lbb2) (aa0 + bb0))) ∧ w'.cell? ⟨w209.heap.size, 1, none⟩ = some (.int .i64 (mR (blkMOK p aa0 aa1 bb0 bb1 laa2 lbb2) (aa1 + bb1))) ∧ w'.cell? ⟨w209.heap.size, 2, none⟩ = some (.slice a209_0 ((mL (blkMOK p aa0 aa1 bb0 bb1 laa2 lbb2) (blkR aa0 aa1 bb0 bb1 laa2 lbb2))).length cap209_0))
      (first
        | go_keep
        | exact ⟨(p363.below (below_of_drew b370)).cell 0, (p363.below (below_of_drew b370)).cell 1, (p363.below (below_of_drew b370)).cell 2, (p364.below (below_of_drew b370)).cell 0, (p364.below (below_of_drew b370)).cell 1, (p364.below (below_of_drew b370)).cell 2, (p365.below (below_of_drew b370)).cell 0, (p365.below (below_of_drew b370)).cell 1, (p365.below (below_of_drew b370)).cell 2, (p366.below (below_of_drew b370)).cell 0, (p366.below (below_of_drew b370)).cell 1, (p366.below (below_of_drew b370)).cell 2, (p367.below (below_of_drew b370)).cell 0, (p367.below (below_of_drew b370)).cell 1, (p367.below (below_of_drew b370)).cell 2, (p368.below (below_of_drew b370)).cell 0, (p368.below (below_of_drew b370)).cell 1, (p368.below (below_of_drew b370)).cell 2⟩
        | exact ⟨((p363.below (below_of_drew b370)).below b371).cell 0, ((p363.below (below_of_drew b370)).below b371).cell 1, ((p363.below (below_of_drew b370)).below b371).cell 2, ((p364.below (below_of_drew b370)).below b371).cell 0, ((p364.below (below_of_drew b370)).below b371).cell 1, ((p364.below (below_of_drew b370)).below b371).cell 2, ((p365.below (below_of_drew b370)).below b371).cell 0, ((p365.below (below_of_drew b370)).below b371).cell 1, ((p365.below (below_of_drew b370)).below b371).cell 2, ((p366.below (below_of_drew b370)).below b371).cell 0, ((p366.below (below_of_drew b370)).below b371).cell 1, ((p366.below (below_of_drew b370)).below b371).cell 2, ((p367.below (below_of_drew b370)).below b371).cell 0, ((p367.below (below_of_drew b370)).below b371).cell 1, ((p367.below (below_of_drew b370)).below b371).cell 2, ((p368.below (below_of_drew b370)).below b371).cell 0, ((p368.below (below_of_drew b370)).below b371).cell 1, ((p368.below (below_of_drew b370)).below b371).cell 2⟩)
      (first
        | (go_at_call 9; (with_reducible refine (l_toMatrix _ _ _ lbb2 _ (Rbb2.out.below hb369).drew (by omega)).mono ?_); rintro e w370 ⟨v370_0, rfl, h370_0, f370_0, b370⟩)
        | (go_at_call 11; (with_reducible refine (l_eqMatrix _ _ _ _ _ _ _ _ _ (h361.below (below_of_drew b370)) h370_0).mono ?_); rintro e w371 ⟨rfl, b371⟩))
    clear k372 k373 k374 k375 k376 k377 k378 k379 k380 k381 k382 k383 k384 k385 k386 k387 k388 k389 k390 k391 k392 k393 k394 k395
    have Db370 := below_of_drew b370
    have h396 := h359.below Db370
    have h397 := h360.below Db370
    have h398 := h361.below Db370
    have h399 := h362.below Db370
    have p400 := p363.below Db370
    have p401 := p364.below Db370
    have p402 := p365.below Db370
    have p403 := p366.below Db370
    have p404 := p367.below Db370
    have p405 := p368.below Db370
    have hb406 := below_call hb369 Db370 hb369.size
    have h407 := h396.below b371
    have h408 := h397.below b371
    have h409 := h398.below b371
    have h410 := h399.below b371
    have p411 := p400.below b371
    have p412 := p401.below b371
    have p413 := p402.below b371
    have p414 := p403.below b371
    have p415 := p404.below b371
    have p416 := p405.below b371
    have hb417 := below_call hb406 b371 hb406.size
    obtain ⟨k419, k420, k421⟩ := blk3 p411
    have k422 := p411.lt
    obtain ⟨k423, k424, k425⟩ := blk3 p412
    have k426 := p412.lt
    obtain ⟨k427, k428, k429⟩ := blk3 p413
    have k430 := p413.lt
    obtain ⟨k431, k432, k433⟩ := blk3 p414
    have k434 := p414.lt
    obtain ⟨k435, k436, k437⟩ := blk3 p415
    have k438 := p415.lt
    obtain ⟨k439, k440, k441⟩ := blk3 p416
    have k442 := p416.lt
    go_wp2_with fail
    refine (l_markMatrix _ _ _ laa2 _ _ h408 (by omega) (by omega)).mono ?_; rintro e w418 ⟨rfl, h418_0, c418⟩
    clear k419 k420 k421 k422 k423 k424 k425 k426 k427 k428 k429 k430 k431 k432 k433 k434 k435 k436 k437 k438 k439 k440 k441 k442
    have p443 := p411.chg c418 sb123.out
    have p444 := p412.chg c418 sb124.out
    have p445 := p413.chg c418 sb125.out
    have p446 := p414.chg c418 sb139.out
    have p447 := p415.chg c418 sb197.out
    have p448 := p416.chg c418 sb271.out
    have h449 := h407.chg c418 sp121.out
    have h450 := h409.chg c418 sp175.out
    have h451 := h410.chg c418 sp242.out
    have hb452 := below_chg hb417 c418 hb417.size (fun k h => Nat.le_trans hb100.size (Ff103_0.out k h))
    obtain ⟨k454, k455, k456⟩ := blk3 p443
    have k457 := p443.lt
    obtain ⟨k458, k459, k460⟩ := blk3 p444
    have k461 := p444.lt
    obtain ⟨k462, k463, k464⟩ := blk3 p445
    have k465 := p445.lt
    obtain ⟨k466, k467, k468⟩ := blk3 p446
    have k469 := p446.lt
    obtain ⟨k470, k471, k472⟩ := blk3 p447
    have k473 := p447.lt
    obtain ⟨k474, k475, k476⟩ := blk3 p448
    have k477 := p448.lt
    go_wp2_with fail
    refine (l_markMatrix _ _ _ lbb2 _ _ h450 (by omega) (by omega)).mono ?_; rintro e w453 ⟨rfl, h453_0, c453⟩
    clear k454 k455 k456 k457 k458 k459 k460 k461 k462 k463 k464 k465 k466 k467 k468 k469 k470 k471 k472 k473 k474 k475 k476 k477
    have p478 := p443.chg c453 sb176.out
    have p479 := p444.chg c453 sb177.out
    have p480 := p445.chg c453 sb178.out
    have p481 := p446.chg c453 sb179.out
    have p482 := p447.chg c453 sb198.out
    have p483 := p448.chg c453 sb272.out
    have h484 := h449.chg c453 sp172.out
    have h485 := h418_0.chg c453 sp174.out
    have h486 := h451.chg c453 sp244.out
    have hb487 := below_chg hb452 c453 hb452.size (fun k h => Nat.le_trans hb146.size (Ff148_0.out k h))
    have e488 := eqM_refl (mR (blkMOK p aa0 aa1 bb0 bb1 laa2 lbb2) (aa0 + bb0)) (mR (blkMOK p aa0 aa1 bb0 bb1 laa2 lbb2) (aa1 + bb1)) (mL (blkMOK p aa0 aa1 bb0 bb1 laa2 lbb2) (blkR aa0 aa1 bb0 bb1 laa2 lbb2))
    obtain ⟨k489, k490, k491⟩ := blk3 p478
    have k492 := p478.lt
    obtain ⟨k493, k494, k495⟩ := blk3 p479
    have k496 := p479.lt
    obtain ⟨k497, k498, k499⟩ := blk3 p480
    have k500 := p480.lt
    obtain ⟨k501, k502, k503⟩ := blk3 p481
    have k504 := p481.lt
    obtain ⟨k505, k506, k507⟩ := blk3 p482
    have k508 := p482.lt
    obtain ⟨k509, k510, k511⟩ := blk3 p483
    have k512 := p483.lt
    go_wp2_with fail
    refine (l_eqMatrix _ _ _ _ _ _ _ _ _ h486 h484).mono ?_; rintro e w488 ⟨rfl, b488⟩
    clear k489 k490 k491 k492 k493 k494 k495 k496 k497 k498 k499 k500 k501 k502 k503 k504 k505 k506 k507 k508 k509 k510 k511 k512
    have h513 := h484.below b488
    have h514 := h485.below b488
    have h515 := h453_0.below b488
    have h516 := h486.below b488
    have p517 := p478.below b488
    have p518 := p479.below b488
    have p519 := p480.below b488
    have p520 := p481.below b488
    have p521 := p482.below b488
    have p522 := p483.below b488
    have hb523 := below_call hb487 b488 hb487.size
    obtain ⟨k525, k526, k527⟩ := blk3 p517
    have k528 := p517.lt
    obtain ⟨k529, k530, k531⟩ := blk3 p518
    have k532 := p518.lt
    obtain ⟨k533, k534, k535⟩ := blk3 p519
    have k536 := p519.lt
    obtain ⟨k537, k538, k539⟩ := blk3 p522
    have k540 := p522.lt
    go_wp2_with fail
    refine (l_markMatrix _ _ _ (mL (blkMOK p aa0 aa1 bb0 bb1 laa2 lbb2) (blkR aa0 aa1 bb0 bb1 laa2 lbb2)) _ _ h516 (by omega) (by omega)).mono ?_; rintro e w524 ⟨rfl, h524_0, c524⟩
    clear k525 k526 k527 k528 k529 k530 k531 k532 k533 k534 k535 k536 k537 k538 k539 k540
    have p541 := p517.chg c524 sb245.out
    have p542 := p518.chg c524 sb246.out
    have p543 := p519.chg c524 sb247.out
    have p544 := p522.chg c524 sb273.out
    have h545 := h513.chg c524 sp239.out
    have hb546 := below_chg hb523 c524 hb523.size (fun k h => Nat.le_trans hb207.size (Ff209_0.out k h))
    obtain ⟨k548, k549, k550⟩ := blk3 p541
    have k551 := p541.lt
    obtain ⟨k552, k553, k554⟩ := blk3 p542
    have k555 := p542.lt
    obtain ⟨k556, k557, k558⟩ := blk3 p543
    have k559 := p543.lt
    obtain ⟨k560, k561, k562⟩ := blk3 p544
    have k563 := p544.lt
    go_wp2_with fail
    refine (l_heldMatrix _ _ _ _ _ _ h524_0 (by omega) (by omega)).mono ?_; rintro e w547 ⟨rfl, b547⟩
    clear k548 k549 k550 k551 k552 k553 k554 k555 k556 k557 k558 k559 k560 k561 k562 k563
    have h564 := h545.below b547
    have h565 := h524_0.below b547
    have p566 := p541.below b547
    have p567 := p542.below b547
    have p568 := p543.below b547
    have p569 := p544.below b547
    have hb570 := below_call hb546 b547 hb546.size
    obtain ⟨k572, k573, k574⟩ := blk3 p566
    have k575 := p566.lt
    obtain ⟨k576, k577, k578⟩ := blk3 p567
    have k579 := p567.lt
    obtain ⟨k580, k581, k582⟩ := blk3 p568
    have k583 := p568.lt
    obtain ⟨k584, k585, k586⟩ := blk3 p569
    have k587 := p569.lt
    have HS571 := Lib.hid (fun (w' : World) (hb : Below w547.heap.size w547 w') => (show (w'.cell? ⟨w.heap.size, 0, none⟩ = some (.int .i64 aa0) ∧ w'.cell? ⟨w.heap.size, 1, none⟩ = some (.int .i64 aa1) ∧ w'.cell? ⟨w.heap.size, 2, none⟩ = some (.slice a_aa2 laa2.length cap_aa2) ∧ w'.cell? ⟨w.heap.size + 1, 0, none⟩ = some (.int .i64 bb0) ∧ w'.cell? ⟨w.heap.size + 1, 1, none⟩ = some (.int .i64 bb1) ∧ w'.cell? ⟨w.heap.size + 1, 2, none⟩ = some (.slice a_bb2 lbb2.length cap_bb2) ∧ w'.cell? ⟨gg97, 0, none⟩ = some (.int .i64 (mR (blkMOK p aa0 aa1 bb0 bb1 laa2 lbb2) (aa0 + bb0))) ∧ w'.cell? ⟨gg97, 1, none⟩ = some (.int .i64 (mR (blkMOK p aa0 aa1 bb0 bb1 laa2 lbb2) (aa1 + bb1))) ∧ w'.cell? ⟨gg97, 2, none⟩ = some (.slice a97 ((mL (blkMOK p aa0 aa1 bb0 bb1 laa2 lbb2) (blkR aa0 aa1 bb0 bb1 laa2 lbb2))).length cap97) ∧ w'.cell? ⟨w209.heap.size, 0, none⟩ = some (.int .i64 (mR (blkMOK p aa0 aa1 bb0 bb1 laa2 lbb2) (aa0 + bb0))) ∧ w'.cell? ⟨w209.heap.size, 1, none⟩ = some (.int .i64 (mR (blkMOK p aa0 aa1 bb0 bb1 laa2 lbb2) (aa1 + bb1))) ∧ w'.cell? ⟨w209.heap.size, 2, none⟩ = some (.slice a209_0 ((mL (blkMOK p aa0 aa1 bb0 bb1 laa2 lbb2) (blkR aa0 aa1 bb0 bb1 laa2 lbb2))).length cap209_0)) ∧ Below w547.heap.size w547 w' from ⟨⟨(p566.below hb).cell 0, (p566.below hb).cell 1, (p566.below hb).cell 2, (p567.below hb).cell 0, (p567.below hb).cell 1, (p567.below hb).cell 2, (p568.below hb).cell 0, (p568.below hb).cell 1, (p568.below hb).cell 2, (p569.below hb).cell 0, (p569.below hb).cell 1, (p569.below hb).cell 2⟩, hb⟩))
    go_upto_region 31 with fail
    go_cut [17, 18] (fun sp sb wx => ∃ gg : Nat, sp = .pointer (some ⟨gg, 0, none⟩) ∧ sb = .bool (blkMOK p aa0 aa1 bb0 bb1 laa2 lbb2) ∧ In3 26 w547 gg (.int .i64 (mR (blkMOK p aa0 aa1 bb0 bb1 laa2 lbb2) (aa0 + bb0))) (.int .i64 (mR (blkMOK p aa0 aa1 bb0 bb1 laa2 lbb2) (aa1 + bb1))) (mL (blkMOK p aa0 aa1 bb0 bb1 laa2 lbb2) (blkR aa0 aa1 bb0 bb1 laa2 lbb2)) wx)
    case first =>
      go_region_held3 (fun w' => (w'.cell? ⟨w.heap.size, 0, none⟩ = some (.int .i64 aa0) ∧ w'.cell? ⟨w.heap.size, 1, none⟩ = some (.int .i64 aa1) ∧ w'.cell? ⟨w.heap.size, 2, none⟩ = some (.slice a_aa2 laa2.length cap_aa2) ∧ w'.cell? ⟨w.heap.size + 1, 0, none⟩ = some (.int .i64 bb0) ∧ w'.cell? ⟨w.heap.size + 1, 1, none⟩ = some (.int .i64 bb1) ∧ w'.cell? ⟨w.heap.size + 1, 2, none⟩ = some (.slice a_bb2 lbb2.length cap_bb2) ∧ w'.cell? ⟨gg97, 0, none⟩ = some (.int .i64 (mR (blkMOK p aa0 aa1 bb0 bb1 laa2 lbb2) (aa0 + bb0))) ∧ w'.cell? ⟨gg97, 1, none⟩ = some (.int .i64 (mR (blkMOK p aa0 aa1 bb0 bb1 laa2 lbb2) (aa1 + bb1))) ∧ w'.cell? ⟨gg97, 2, none⟩ = some (.slice a97 ((mL (blkMOK p aa0 aa1 bb0 bb1 laa2 lbb2) (blkR aa0 aa1 bb0 bb1 laa2 lbb2))).length cap97) ∧ w'.cell? ⟨w209.heap.size, 0, none⟩ = some (.int .i64 (mR (blkMOK p aa0 aa1 bb0 bb1 laa2 lbb2) (aa0 + bb0))) ∧ w'.cell? ⟨w209.heap.size, 1, none⟩ = some (.int .i64 (mR (blkMOK p aa0 aa1 bb0 bb1 laa2 lbb2) (aa1 + bb1))) ∧ w'.cell? ⟨w209.heap.size, 2, none⟩ = some (.slice a209_0 ((mL (blkMOK p aa0 aa1 bb0 bb1 laa2 lbb2) (blkR aa0 aa1 bb0 bb1 laa2 lbb2))).length cap209_0)) ∧ Below w547.heap.size w547 w')
        (first
          | with_reducible exact (HS571.out _ ((Below.refl _ _).drew))
          | with_reducible exact (HS571.out _ (held_call ‹_ ∧ Below _ _ _› ‹Below _ _ _›))
          | with_reducible exact (HS571.out _ (held_allocd ‹_ ∧ Below _ _ _› _))
          | with_reducible exact (HS571.out _ (held_alloc ‹_ ∧ Below _ _ _› _))
          | with_reducible exact HS571.out _ ((hpre590.trans (b590.mono hpre590.size)).alloc (hpre590.trans (b590.mono hpre590.size)).size _)
          | exact HS571.out _ (held_set3 ‹_ ∧ Below _ _ _› (by first | exact Nat.le_refl _ | assumption) _ _ _))
        (first
          | (go_at_call 9; (with_reducible refine (l_toMatrix _ _ _ laa2 _ ?_ (by omega)).mono ?_); (exact ((Raa2.out.below hb570)).below (And.right ‹_ ∧ Below _ _ _›)); rintro e w588 ⟨v588_0, rfl, h588_0, f588_0, b588⟩; have hgi_b588 := (held_call ‹_ ∧ Below _ _ _› b588).size; (try (have kk0_0 := Blk.below (Blk.drew (Blk.new w547 #[.int .i64 0, .int .i64 0, .slice none 0 0] 26)) b588)))
          | (go_at_call 9; (with_reducible refine (l_toMatrix _ _ _ lbb2 _ ?_ (by omega)).mono ?_); (exact ((Rbb2.out.below hb570)).below (And.right ‹_ ∧ Below _ _ _›)); rintro e w589 ⟨v589_0, rfl, h589_0, f589_0, b589⟩; (have h588_0' : Ints w589 v588_0 laa2 := by first | exact h588_0.below b589 | exact (h588_0.below ((Below.refl _ _).alloc (Nat.le_refl _) _)).below b589); have hgi_b589 := (held_call ‹_ ∧ Below _ _ _› b589).size; (try (have kk0_1 := Blk.below kk0_0 b589)); (try (have kk1_1 := Blk.below (Blk.new w588 #[.int .i64 0, .int .i64 0, .slice none 0 0] 26) b589)))
          | (go_at_call 10; (with_reducible refine (i_BlockSum _ _ _ _ laa2 _ _ _ lbb2 _ ?_ ?_).mono ?_); (first | exact h588_0' | exact h588_0'.below ((Below.refl _ _).alloc (Nat.le_refl _) _)); (first | exact h589_0 | exact h589_0.below ((Below.refl _ _).alloc (Nat.le_refl _) _)); rintro e w590 ⟨v590, rfl, hv590, hf590, b590⟩; have hgi_b590 := (held_call ‹_ ∧ Below _ _ _› b590).size; (try (have kk0_2 := Blk.below kk0_1 b590)); (try (have ka0_0 : _ = some (Value.int .i64 0) := kk0_2.cell 0)); (try (have kf0_0 := kk0_2.frozen 0)); (try (have ka0_1 : _ = some (Value.int .i64 0) := kk0_2.cell 1)); (try (have kf0_1 := kk0_2.frozen 1)); (try (have ka0_2 : _ = some (Value.slice none 0 0) := kk0_2.cell 2)); (try (have kf0_2 := kk0_2.frozen 2)); (try (have kl0 := Lib.hid kk0_2; clear kk0_2)); (try (have kk1_2 := Blk.below kk1_1 b590)); (try (have ka1_0 : _ = some (Value.int .i64 0) := kk1_2.cell 0)); (try (have kf1_0 := kk1_2.frozen 0)); (try (have ka1_1 : _ = some (Value.int .i64 0) := kk1_2.cell 1)); (try (have kf1_1 := kk1_2.frozen 1)); (try (have ka1_2 : _ = some (Value.slice none 0 0) := kk1_2.cell 2)); (try (have kf1_2 := kk1_2.frozen 2)); (try (have kl1 := Lib.hid kk1_2; clear kk1_2)); (try (have kk2_2 := Blk.below (Blk.new w589 #[.int .i64 0, .int .i64 0, .slice none 0 0] 26) b590)); (try (have ka2_0 : _ = some (Value.int .i64 0) := kk2_2.cell 0)); (try (have kf2_0 := kk2_2.frozen 0)); (try (have ka2_1 : _ = some (Value.int .i64 0) := kk2_2.cell 1)); (try (have kf2_1 := kk2_2.frozen 1)); (try (have ka2_2 : _ = some (Value.slice none 0 0) := kk2_2.cell 2)); (try (have kf2_2 := kk2_2.frozen 2)); (try (have kl2 := Lib.hid kk2_2; clear kk2_2)); have hpre590 := And.right ‹_ ∧ Below _ _ _›; obtain ⟨a590, cap590, rfl, _, _⟩ := hv590.shape))
      all_goals (go_wp2_with fail; go_meet; have hfin := hpre590.trans (b590.mono hpre590.size))
      · refine ⟨_, rfl, rfl, ?_⟩
        exact in3_new _ _ hfin hv590 (fun q hq => Nat.le_trans hpre590.size (hf590 q hq))
      · refine ⟨_, rfl, rfl, ?_⟩
        have hlt := Res3.lt (res3_new w589 (.int .i64 0) (.int .i64 0) (.slice none 0 0) 26)
        have z0 := b588.size
        have z1 := b589.size
        skip
        have hge : w547.heap.size ≤ w589.heap.size := Nat.le_trans (b588.size) b589.size
        exact in3_mk _ _ hfin ((res3_new w589 (.int .i64 0) (.int .i64 0) (.slice none 0 0) 26).below b590) hge hv590 (fun q hq => ⟨Nat.le_trans hpre590.size (hf590 q hq), fun e => by have z1 := hf590 q hq; have z2 := hlt; omega⟩)
      · refine ⟨_, rfl, rfl, ?_⟩
        have hlt := Res3.lt ((res3_new w588 (.int .i64 0) (.int .i64 0) (.slice none 0 0) 26).below b589)
        have z0 := b588.size
        skip
        have hge : w547.heap.size ≤ w588.heap.size := b588.size
        exact in3_mk _ _ hfin (((res3_new w588 (.int .i64 0) (.int .i64 0) (.slice none 0 0) 26).below b589).below b590) hge hv590 (fun q hq => ⟨Nat.le_trans hpre590.size (hf590 q hq), fun e => by have z1 := hf590 q hq; have z2 := hlt; omega⟩)
      · refine ⟨_, rfl, rfl, ?_⟩
        have hlt := Res3.lt (((res3_newd w547 (.int .i64 0) (.int .i64 0) (.slice none 0 0) 26).below b588).below b589)
        have hge := Nat.le_refl w547.heap.size
        exact in3_mk _ _ hfin ((((res3_newd w547 (.int .i64 0) (.int .i64 0) (.slice none 0 0) 26).below b588).below b589).below b590) hge hv590 (fun q hq => ⟨Nat.le_trans hpre590.size (hf590 q hq), fun e => by have z1 := hf590 q hq; have z2 := hlt; omega⟩)
    case rest =>
      obtain ⟨gg591, rfl, rfl, v591, p591, h591, f591, ng591, hg591, b591⟩ := hcut
      obtain ⟨w591, rfl⟩ : ∃ x, x = wc := ⟨_, rfl⟩
      clear k572 k573 k574 k575 k576 k577 k578 k579 k580 k581 k582 k583 k584 k585 k586 k587 HS571
      obtain ⟨a591, cap591, rfl, _, _⟩ := h591.shape
      have h592 := h564.below b591
      have h593 := h565.below b591
      have p594 := p566.below b591
      have p595 := p567.below b591
      have p596 := p568.below b591
      have p597 := p569.below b591
      have hb598 := below_call hb570 b591 hb570.size
      have F591 := Lib.hid f591
      have NG591 := Lib.hid ng591
      have HG591 := Lib.hid hg591
      have sp599 := Lib.hid (sep_new h564 F591.out)
      have sp600 := Lib.hid (sep_symm sp599.out)
      have sb601 := Lib.hid (sep_blk_ge h564 HG591.out)
      have sp602 := Lib.hid (sep_new h565 F591.out)
      have sp603 := Lib.hid (sep_symm sp602.out)
      have sb604 := Lib.hid (sep_blk_ge h565 HG591.out)
      have sb605 := Lib.hid (sep_blk_new p566 F591.out)
      have sb606 := Lib.hid (sep_blk_new p567 F591.out)
      have sb607 := Lib.hid (sep_blk_new p568 F591.out)
      have sb608 := Lib.hid (sep_blk_new p569 F591.out)
      clear f591 ng591 hg591
      have e609 := eqM_refl (mR (blkMOK p aa0 aa1 bb0 bb1 laa2 lbb2) (aa0 + bb0)) (mR (blkMOK p aa0 aa1 bb0 bb1 laa2 lbb2) (aa1 + bb1)) (mL (blkMOK p aa0 aa1 bb0 bb1 laa2 lbb2) (blkR aa0 aa1 bb0 bb1 laa2 lbb2))
      obtain ⟨k610, k611, k612⟩ := blk3 p594
      have k613 := p594.lt
      obtain ⟨k614, k615, k616⟩ := blk3 p595
      have k617 := p595.lt
      obtain ⟨k618, k619, k620⟩ := blk3 p596
      have k621 := p596.lt
      obtain ⟨k622, k623, k624⟩ := blk3 p597
      have k625 := p597.lt
      obtain ⟨k626, k627, k628⟩ := blk3 p591
      have k629 := p591.lt
      go_wp2_with fail
      refine (l_eqMatrix _ _ _ _ _ _ _ _ _ h591 h592).mono ?_; rintro e w609 ⟨rfl, b609⟩
      clear k610 k611 k612 k613 k614 k615 k616 k617 k618 k619 k620 k621 k622 k623 k624 k625 k626 k627 k628 k629
      have h630 := h592.below b609
      have h631 := h593.below b609
      have h632 := h591.below b609
      have p633 := p594.below b609
      have p634 := p595.below b609
      have p635 := p596.below b609
      have p636 := p597.below b609
      have p637 := p591.below b609
      have hb638 := below_call hb598 b609 hb598.size
      obtain ⟨k640, k641, k642⟩ := blk3 p633
      have k643 := p633.lt
      obtain ⟨k644, k645, k646⟩ := blk3 p634
      have k647 := p634.lt
      obtain ⟨k648, k649, k650⟩ := blk3 p636
      have k651 := p636.lt
      go_wp2_with fail
      refine (l_heldMatrix _ _ _ _ _ _ h631 (by omega) (by omega)).mono ?_; rintro e w639 ⟨rfl, b639⟩
      clear k640 k641 k642 k643 k644 k645 k646 k647 k648 k649 k650 k651
      have h652 := h631.below b639
      have p653 := p633.below b639
      have p654 := p634.below b639
      have p655 := p636.below b639
      have hb656 := below_call hb638 b639 hb638.size
      obtain ⟨k657, k658, k659⟩ := blk3 p653
      have k660 := p653.lt
      obtain ⟨k661, k662, k663⟩ := blk3 p654
      have k664 := p654.lt
      obtain ⟨k665, k666, k667⟩ := blk3 p655
      have k668 := p655.lt
      go_wp2
      go_ret
      exact ⟨rfl, hb656⟩

end Go.Proofs.Ytmcjgaffecimlaa
