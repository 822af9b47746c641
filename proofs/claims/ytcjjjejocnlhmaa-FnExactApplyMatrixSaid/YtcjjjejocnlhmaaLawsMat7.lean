/- The walk of the law ApplyMatrix. -/
import Derived.Test.YtcjjjejocnlhmaaMat8
import Derived.Test.YtcjjjejocnlhmaaMatAux
namespace Go.Proofs.Ytcjjjejocnlhmaa
open Go.RowKit
set_option linter.unusedVariables false
set_option linter.unusedSimpArgs false

theorem appL_len (p ra ca : Int) (la lv : List Int) : (appL p ra ca la lv).length ≤ 8 := by
  unfold appL
  cases h : appMOK p ra ca la lv
  · simp
  · unfold appMOK at h
    simp only [Bool.and_eq_true] at h
    obtain ⟨r0, r8, _⟩ := isM_true h.1.1
    simp only [if_true, appR, mulL, matL_len]
    omega
-- walks
set_option maxRecDepth 100000 in
set_option maxHeartbeats 4000000 in
set_option linter.unusedVariables false in
theorem law_FnExactApplyMatrix (p : Int) (mm0 : Int) (mm1 : Int) (mm2 : Value) (lmm2 : List Int) (xx0 : Value) (lxx0 : List Int) (w : World) (wf_p : (Lit.int .i64 p).wf = true) (wf_mm0 : (Lit.int .i64 mm0).wf = true) (wf_mm1 : (Lit.int .i64 mm1).wf = true) (rmm2 : Raw w mm2 lmm2) (bdmm2 : Bd lmm2) (rxx0 : Raw w xx0 lxx0) (bdxx0 : Bd lxx0) :
    Calls Try.prog 6 #[.int .i64 p, .agg #[.int .i64 mm0, .int .i64 mm1, mm2], xx0] w fun e w' => e = .returned (.bool true) ∧ Below w.heap.size w w' := by
  obtain ⟨lo_p, hi_p⟩ := wf_i64 wf_p
  clear wf_p
  obtain ⟨lo_mm0, hi_mm0⟩ := wf_i64 wf_mm0
  clear wf_mm0
  obtain ⟨lo_mm1, hi_mm1⟩ := wf_i64 wf_mm1
  clear wf_mm1
  have Rmm2 := Lib.hid rmm2
  have BDmm2 := Lib.hid bdmm2
  obtain ⟨a_mm2, cap_mm2, rfl, hlc_mm2, hcm_mm2⟩ := rmm2.shape
  clear rmm2 bdmm2
  have Rxx0 := Lib.hid rxx0
  have BDxx0 := Lib.hid bdxx0
  obtain ⟨a_xx0, cap_xx0, rfl, hlc_xx0, hcm_xx0⟩ := rxx0.shape
  clear rxx0 bdxx0
  have b1 : Below w.heap.size w (w.alloc (.cells #[.int .i64 mm0, .int .i64 mm1, .slice a_mm2 lmm2.length cap_mm2] 24)) := (Below.refl _ _).alloc (Nat.le_refl _) _
  have hb2 := b1
  have p3 := Blk.new w #[.int .i64 mm0, .int .i64 mm1, .slice a_mm2 lmm2.length cap_mm2] 24
  by_cases hL0 : lxx0.length ≤ 1048576
  rotate_left
  · skip
    go_enter Try.func6, Try.ntmps6
    obtain ⟨k4, k5, k6⟩ := blk3 p3
    have k7 := p3.lt
    go_wp2
    go_ret
    exact ⟨rfl, hb2⟩
  by_cases hL1 : lmm2.length ≤ 1048576
  rotate_left
  · skip
    go_enter Try.func6, Try.ntmps6
    have es8 : szI 1048576 lmm2 = -1 := by unfold szI; rw [if_pos (by omega)]
    obtain ⟨k9, k10, k11⟩ := blk3 p3
    have k12 := p3.lt
    go_wp2_with fail
    refine (l_szMatrix _ _ _ lmm2 1048576 _ (Rmm2.out.below hb2) (by omega) (by omega)).mono ?_; rintro e w8 ⟨rfl, b8⟩
    clear k9 k10 k11 k12
    have p13 := p3.below b8
    have hb14 := below_call hb2 b8 hb2.size
    obtain ⟨k15, k16, k17⟩ := blk3 p13
    have k18 := p13.lt
    go_wp2
    go_ret
    exact ⟨rfl, hb14⟩
  have hn19 := appL_len p mm0 mm1 lmm2 lxx0
  go_enter Try.func6, Try.ntmps6
  have es20 : szI 1048576 lmm2 = 1048576 - (lmm2.length : Int) := by unfold szI; rw [if_neg (by omega)]
  obtain ⟨k21, k22, k23⟩ := blk3 p3
  have k24 := p3.lt
  go_wp2_with fail
  refine (l_szMatrix _ _ _ lmm2 1048576 _ (Rmm2.out.below hb2) (by omega) (by omega)).mono ?_; rintro e w20 ⟨rfl, b20⟩
  clear k21 k22 k23 k24
  have p25 := p3.below b20
  have hb26 := below_call hb2 b20 hb2.size
  obtain ⟨k28, k29, k30⟩ := blk3 p25
  have k31 := p25.lt
  go_wp2_with fail
  refine (l_toMatrix _ _ _ lmm2 _ (Rmm2.out.below hb26) (by omega)).mono ?_; rintro e w27 ⟨v27_0, rfl, h27_0, f27_0, b27⟩
  clear k28 k29 k30 k31
  have p32 := p25.below b27
  have hb33 := below_call hb26 b27 hb26.size
  obtain ⟨a27_0, cap27_0, rfl, _, _⟩ := h27_0.shape
  have sb34 := Lib.hid (sep_blk_new p25 f27_0)
  have Ff27_0 := Lib.hid f27_0
  clear f27_0
  obtain ⟨k36, k37, k38⟩ := blk3 p32
  have k39 := p32.lt
  go_wp2_with fail
  refine (l_toIntS _ lxx0 _ (Rxx0.out.below hb33) (by omega)).mono ?_; rintro e w35 ⟨v35_0, rfl, h35_0, f35_0, b35⟩
  clear k36 k37 k38 k39
  have h40 := h27_0.below b35
  have p41 := p32.below b35
  have hb42 := below_call hb33 b35 hb33.size
  obtain ⟨a35_0, cap35_0, rfl, _, _⟩ := h35_0.shape
  have sp43 := Lib.hid (sep_new h27_0 f35_0)
  have sp44 := Lib.hid (sep_symm sp43.out)
  have sb45 := Lib.hid (sep_blk_new p32 f35_0)
  have Ff35_0 := Lib.hid f35_0
  clear f35_0
  obtain ⟨k47, k48, k49⟩ := blk3 p41
  have k50 := p41.lt
  go_wp2_with fail
  refine (s_ApplyMatrix _ _ _ _ lmm2 _ lxx0 _ h40 h35_0).mono ?_; rintro e w46 ⟨v46_0, rfl, h46_0, f46_0, b46⟩
  clear k47 k48 k49 k50
  have h51 := h40.below b46
  have h52 := h35_0.below b46
  have p53 := p41.below b46
  have hb54 := below_call hb42 b46 hb42.size
  obtain ⟨a46_0, cap46_0, rfl, _, _⟩ := h46_0.shape
  have sp55 := Lib.hid (sep_new h40 f46_0)
  have sp56 := Lib.hid (sep_symm sp55.out)
  have sp57 := Lib.hid (sep_new h35_0 f46_0)
  have sp58 := Lib.hid (sep_symm sp57.out)
  have sb59 := Lib.hid (sep_blk_new p41 f46_0)
  have Ff46_0 := Lib.hid f46_0
  clear f46_0
  obtain ⟨k61, k62, k63⟩ := blk3 p53
  have k64 := p53.lt
  go_wp2_with fail
  refine (l_toMatrix _ _ _ lmm2 _ (Rmm2.out.below hb54) (by omega)).mono ?_; rintro e w60 ⟨v60_0, rfl, h60_0, f60_0, b60⟩
  clear k61 k62 k63 k64
  have h65 := h46_0.below b60
  have p66 := p53.below b60
  have hb67 := below_call hb54 b60 hb54.size
  obtain ⟨a60_0, cap60_0, rfl, _, _⟩ := h60_0.shape
  have sp68 := Lib.hid (sep_new h46_0 f60_0)
  have sp69 := Lib.hid (sep_symm sp68.out)
  have sb70 := Lib.hid (sep_blk_new p53 f60_0)
  have Ff60_0 := Lib.hid f60_0
  clear f60_0
  obtain ⟨k71, k72, k73⟩ := blk3 p66
  have k74 := p66.lt
  have sb75 := Lib.hid (sep_blk_old h65)
  have sb76 := Lib.hid (sep_blk_old h60_0)
  have b77 : Below w60.heap.size w60 (w60.alloc (.cells #[.int .i64 mm0, .int .i64 mm1, .slice a60_0 (lmm2).length cap60_0] 26)) := (Below.refl _ w60).alloc (Nat.le_refl _) _
  have h78 := h65.below b77
  have h79 := h60_0.below b77
  have p80 := p66.below b77
  have hb81 := below_call hb67 b77 hb67.size
  have p82 := Blk.new w60 #[.int .i64 mm0, .int .i64 mm1, .slice a60_0 (lmm2).length cap60_0] 26
  obtain ⟨k84, k85, k86⟩ := blk3 p80
  have k87 := p80.lt
  obtain ⟨k88, k89, k90⟩ := blk3 p82
  have k91 := p82.lt
  go_wp2_with fail
  refine (l_toIntS _ lxx0 _ (Rxx0.out.below hb81) (by omega)).mono ?_; rintro e w83 ⟨v83_0, rfl, h83_0, f83_0, b83⟩
  clear k84 k85 k86 k87 k88 k89 k90 k91
  have h92 := h78.below b83
  have h93 := h79.below b83
  have p94 := p80.below b83
  have p95 := p82.below b83
  have hb96 := below_call hb81 b83 hb81.size
  obtain ⟨a83_0, cap83_0, rfl, _, _⟩ := h83_0.shape
  have sp97 := Lib.hid (sep_new h78 f83_0)
  have sp98 := Lib.hid (sep_symm sp97.out)
  have sp99 := Lib.hid (sep_new h79 f83_0)
  have sp100 := Lib.hid (sep_symm sp99.out)
  have sb101 := Lib.hid (sep_blk_new p80 f83_0)
  have sb102 := Lib.hid (sep_blk_new p82 f83_0)
  have Ff83_0 := Lib.hid f83_0
  clear f83_0
  obtain ⟨k104, k105, k106⟩ := blk3 p94
  have k107 := p94.lt
  obtain ⟨k108, k109, k110⟩ := blk3 p95
  have k111 := p95.lt
  go_wp2_with fail
  refine (i_ApplyMatrix _ _ _ _ lmm2 _ lxx0 _ h93 h83_0).mono ?_; rintro e w103 ⟨v103_0, rfl, h103_0, f103_0, b103⟩
  clear k104 k105 k106 k107 k108 k109 k110 k111
  have h112 := h92.below b103
  have h113 := h93.below b103
  have h114 := h83_0.below b103
  have p115 := p94.below b103
  have p116 := p95.below b103
  have hb117 := below_call hb96 b103 hb96.size
  obtain ⟨a103_0, cap103_0, rfl, _, _⟩ := h103_0.shape
  have sp118 := Lib.hid (sep_new h92 f103_0)
  have sp119 := Lib.hid (sep_symm sp118.out)
  have sp120 := Lib.hid (sep_new h93 f103_0)
  have sp121 := Lib.hid (sep_symm sp120.out)
  have sp122 := Lib.hid (sep_new h83_0 f103_0)
  have sp123 := Lib.hid (sep_symm sp122.out)
  have sb124 := Lib.hid (sep_blk_new p94 f103_0)
  have sb125 := Lib.hid (sep_blk_new p95 f103_0)
  have Ff103_0 := Lib.hid f103_0
  clear f103_0
  obtain ⟨k127, k128, k129⟩ := blk3 p115
  have k130 := p115.lt
  obtain ⟨k131, k132, k133⟩ := blk3 p116
  have k134 := p116.lt
  go_wp2_with fail
  refine (l_eqIntS _ _ _ _ _ h103_0 h112).mono ?_; rintro e w126 ⟨rfl, b126⟩
  clear k127 k128 k129 k130 k131 k132 k133 k134
  have h135 := h112.below b126
  have h136 := h113.below b126
  have h137 := h114.below b126
  have h138 := h103_0.below b126
  have p139 := p115.below b126
  have p140 := p116.below b126
  have hb141 := below_call hb117 b126 hb117.size
  have e143 := eqM_refl mm0 mm1 lmm2
  obtain ⟨k144, k145, k146⟩ := blk3 p139
  have k147 := p139.lt
  obtain ⟨k148, k149, k150⟩ := blk3 p140
  have k151 := p140.lt
  go_wp2_with fail
  go_region_held3 (fun w' => w'.cell? ⟨w.heap.size, 0, none⟩ = some (.int .i64 mm0) ∧ w'.cell? ⟨w.heap.size, 1, none⟩ = some (.int .i64 mm1) ∧ w'.cell? ⟨w.heap.size, 2, none⟩ = some (.slice a_mm2 lmm2.length cap_mm2) ∧ w'.cell? ⟨w60.heap.size, 0, none⟩ = some (.int .i64 mm0) ∧ w'.cell? ⟨w60.heap.size, 1, none⟩ = some (.int .i64 mm1) ∧ w'.cell? ⟨w60.heap.size, 2, none⟩ = some (.slice a60_0 (lmm2).length cap60_0))
    (first
      | go_keep
      | exact ⟨(p139.below (below_of_drew b142)).cell 0, (p139.below (below_of_drew b142)).cell 1, (p139.below (below_of_drew b142)).cell 2, (p140.below (below_of_drew b142)).cell 0, (p140.below (below_of_drew b142)).cell 1, (p140.below (below_of_drew b142)).cell 2⟩
      | exact ⟨((p139.below (below_of_drew b142)).below b143).cell 0, ((p139.below (below_of_drew b142)).below b143).cell 1, ((p139.below (below_of_drew b142)).below b143).cell 2, ((p140.below (below_of_drew b142)).below b143).cell 0, ((p140.below (below_of_drew b142)).below b143).cell 1, ((p140.below (below_of_drew b142)).below b143).cell 2⟩)
    (first
      | (go_at_call 15; (with_reducible refine (l_toMatrix _ _ _ lmm2 _ (Rmm2.out.below hb141).drew (by omega)).mono ?_); rintro e w142 ⟨v142_0, rfl, h142_0, f142_0, b142⟩)
      | (go_at_call 17; (with_reducible refine (l_eqMatrix _ _ _ _ _ _ _ _ _ (h136.below (below_of_drew b142)) h142_0).mono ?_); rintro e w143 ⟨rfl, b143⟩))
  clear k144 k145 k146 k147 k148 k149 k150 k151
  have Db142 := below_of_drew b142
  have h152 := h135.below Db142
  have h153 := h136.below Db142
  have h154 := h137.below Db142
  have h155 := h138.below Db142
  have p156 := p139.below Db142
  have p157 := p140.below Db142
  have hb158 := below_call hb141 Db142 hb141.size
  have h159 := h152.below b143
  have h160 := h153.below b143
  have h161 := h154.below b143
  have h162 := h155.below b143
  have p163 := p156.below b143
  have p164 := p157.below b143
  have hb165 := below_call hb158 b143 hb158.size
  obtain ⟨k167, k168, k169⟩ := blk3 p163
  have k170 := p163.lt
  obtain ⟨k171, k172, k173⟩ := blk3 p164
  have k174 := p164.lt
  go_wp2_with fail
  refine (l_toIntS _ lxx0 _ (Rxx0.out.below hb165) (by omega)).mono ?_; rintro e w166 ⟨v166_0, rfl, h166_0, f166_0, b166⟩
  clear k167 k168 k169 k170 k171 k172 k173 k174
  have h175 := h159.below b166
  have h176 := h160.below b166
  have h177 := h161.below b166
  have h178 := h162.below b166
  have p179 := p163.below b166
  have p180 := p164.below b166
  have hb181 := below_call hb165 b166 hb165.size
  obtain ⟨a166_0, cap166_0, rfl, _, _⟩ := h166_0.shape
  have sp182 := Lib.hid (sep_new h159 f166_0)
  have sp183 := Lib.hid (sep_symm sp182.out)
  have sp184 := Lib.hid (sep_new h160 f166_0)
  have sp185 := Lib.hid (sep_symm sp184.out)
  have sp186 := Lib.hid (sep_new h161 f166_0)
  have sp187 := Lib.hid (sep_symm sp186.out)
  have sp188 := Lib.hid (sep_new h162 f166_0)
  have sp189 := Lib.hid (sep_symm sp188.out)
  have sb190 := Lib.hid (sep_blk_new p163 f166_0)
  have sb191 := Lib.hid (sep_blk_new p164 f166_0)
  have Ff166_0 := Lib.hid f166_0
  clear f166_0
  obtain ⟨k193, k194, k195⟩ := blk3 p179
  have k196 := p179.lt
  obtain ⟨k197, k198, k199⟩ := blk3 p180
  have k200 := p180.lt
  go_wp2_with fail
  refine (l_eqIntS _ _ _ _ _ h177 h166_0).mono ?_; rintro e w192 ⟨rfl, b192⟩
  clear k193 k194 k195 k196 k197 k198 k199 k200
  have h201 := h175.below b192
  have h202 := h176.below b192
  have h203 := h177.below b192
  have h204 := h178.below b192
  have h205 := h166_0.below b192
  have p206 := p179.below b192
  have p207 := p180.below b192
  have hb208 := below_call hb181 b192 hb181.size
  obtain ⟨k210, k211, k212⟩ := blk3 p206
  have k213 := p206.lt
  obtain ⟨k214, k215, k216⟩ := blk3 p207
  have k217 := p207.lt
  go_wp2_with fail
  refine (l_markMatrix _ _ _ lmm2 _ _ h202 (by omega) (by omega)).mono ?_; rintro e w209 ⟨rfl, h209_0, c209⟩
  clear k210 k211 k212 k213 k214 k215 k216 k217
  have p218 := p206.chg c209 sb70.out
  have p219 := p207.chg c209 sb76.out
  have h220 := h201.chg c209 sp68.out
  have h221 := h203.chg c209 sp100.out
  have h222 := h204.chg c209 sp121.out
  have hb223 := below_chg hb208 c209 hb208.size (fun k h => Nat.le_trans hb54.size (Ff60_0.out k h))
  obtain ⟨k225, k226, k227⟩ := blk3 p218
  have k228 := p218.lt
  obtain ⟨k229, k230, k231⟩ := blk3 p219
  have k232 := p219.lt
  go_wp2_with fail
  refine (l_markIntS  _ lxx0 _ _ h221 (by omega) (by omega)).mono ?_; rintro e w224 ⟨rfl, h224_0, c224⟩
  clear k225 k226 k227 k228 k229 k230 k231 k232
  have p233 := p218.chg c224 sb101.out
  have p234 := p219.chg c224 sb102.out
  have h235 := h220.chg c224 sp97.out
  have h236 := h209_0.chg c224 sp99.out
  have h237 := h222.chg c224 sp123.out
  have hb238 := below_chg hb223 c224 hb223.size (fun k h => Nat.le_trans hb81.size (Ff83_0.out k h))
  obtain ⟨k240, k241, k242⟩ := blk3 p233
  have k243 := p233.lt
  obtain ⟨k244, k245, k246⟩ := blk3 p234
  have k247 := p234.lt
  go_wp2_with fail
  refine (l_eqIntS _ _ _ _ _ h237 h235).mono ?_; rintro e w239 ⟨rfl, b239⟩
  clear k240 k241 k242 k243 k244 k245 k246 k247
  have h248 := h235.below b239
  have h249 := h236.below b239
  have h250 := h224_0.below b239
  have h251 := h237.below b239
  have p252 := p233.below b239
  have p253 := p234.below b239
  have hb254 := below_call hb238 b239 hb238.size
  obtain ⟨k256, k257, k258⟩ := blk3 p252
  have k259 := p252.lt
  go_wp2_with fail
  refine (l_markIntS  _ (appL p mm0 mm1 lmm2 lxx0) _ _ h251 (by omega) (by omega)).mono ?_; rintro e w255 ⟨rfl, h255_0, c255⟩
  clear k256 k257 k258 k259
  have p260 := p252.chg c255 sb124.out
  have h261 := h248.chg c255 sp118.out
  have hb262 := below_chg hb254 c255 hb254.size (fun k h => Nat.le_trans hb96.size (Ff103_0.out k h))
  obtain ⟨k264, k265, k266⟩ := blk3 p260
  have k267 := p260.lt
  go_wp2_with fail
  refine (l_heldIntS  _ _ _ _ h255_0 (by omega) (by omega)).mono ?_; rintro e wz ⟨rfl, rfl⟩
  clear k264 k265 k266 k267
  obtain ⟨k269, k270, k271⟩ := blk3 p260
  have k272 := p260.lt
  go_wp2_with fail
  refine (l_toMatrix _ _ _ lmm2 _ (Rmm2.out.below hb262) (by omega)).mono ?_; rintro e w268 ⟨v268_0, rfl, h268_0, f268_0, b268⟩
  clear k269 k270 k271 k272
  have h273 := h261.below b268
  have h274 := h255_0.below b268
  have p275 := p260.below b268
  have hb276 := below_call hb262 b268 hb262.size
  obtain ⟨a268_0, cap268_0, rfl, _, _⟩ := h268_0.shape
  have sp277 := Lib.hid (sep_new h261 f268_0)
  have sp278 := Lib.hid (sep_symm sp277.out)
  have sp279 := Lib.hid (sep_new h255_0 f268_0)
  have sp280 := Lib.hid (sep_symm sp279.out)
  have sb281 := Lib.hid (sep_blk_new p260 f268_0)
  have Ff268_0 := Lib.hid f268_0
  clear f268_0
  obtain ⟨k283, k284, k285⟩ := blk3 p275
  have k286 := p275.lt
  go_wp2_with fail
  refine (l_toIntS _ lxx0 _ (Rxx0.out.below hb276) (by omega)).mono ?_; rintro e w282 ⟨v282_0, rfl, h282_0, f282_0, b282⟩
  clear k283 k284 k285 k286
  have h287 := h273.below b282
  have h288 := h274.below b282
  have h289 := h268_0.below b282
  have p290 := p275.below b282
  have hb291 := below_call hb276 b282 hb276.size
  obtain ⟨a282_0, cap282_0, rfl, _, _⟩ := h282_0.shape
  have sp292 := Lib.hid (sep_new h273 f282_0)
  have sp293 := Lib.hid (sep_symm sp292.out)
  have sp294 := Lib.hid (sep_new h274 f282_0)
  have sp295 := Lib.hid (sep_symm sp294.out)
  have sp296 := Lib.hid (sep_new h268_0 f282_0)
  have sp297 := Lib.hid (sep_symm sp296.out)
  have sb298 := Lib.hid (sep_blk_new p275 f282_0)
  have Ff282_0 := Lib.hid f282_0
  clear f282_0
  obtain ⟨k300, k301, k302⟩ := blk3 p290
  have k303 := p290.lt
  go_wp2_with fail
  refine (i_ApplyMatrix _ _ _ _ lmm2 _ lxx0 _ h289 h282_0).mono ?_; rintro e w299 ⟨v299_0, rfl, h299_0, f299_0, b299⟩
  clear k300 k301 k302 k303
  have h304 := h287.below b299
  have h305 := h288.below b299
  have h306 := h289.below b299
  have h307 := h282_0.below b299
  have p308 := p290.below b299
  have hb309 := below_call hb291 b299 hb291.size
  obtain ⟨a299_0, cap299_0, rfl, _, _⟩ := h299_0.shape
  have sp310 := Lib.hid (sep_new h287 f299_0)
  have sp311 := Lib.hid (sep_symm sp310.out)
  have sp312 := Lib.hid (sep_new h288 f299_0)
  have sp313 := Lib.hid (sep_symm sp312.out)
  have sp314 := Lib.hid (sep_new h289 f299_0)
  have sp315 := Lib.hid (sep_symm sp314.out)
  have sp316 := Lib.hid (sep_new h282_0 f299_0)
  have sp317 := Lib.hid (sep_symm sp316.out)
  have sb318 := Lib.hid (sep_blk_new p290 f299_0)
  have Ff299_0 := Lib.hid f299_0
  clear f299_0
  obtain ⟨k320, k321, k322⟩ := blk3 p308
  have k323 := p308.lt
  go_wp2_with fail
  refine (l_eqIntS _ _ _ _ _ h299_0 h304).mono ?_; rintro e w319 ⟨rfl, b319⟩
  clear k320 k321 k322 k323
  have h324 := h304.below b319
  have h325 := h305.below b319
  have h326 := h299_0.below b319
  have p327 := p308.below b319
  have hb328 := below_call hb309 b319 hb309.size
  obtain ⟨k330, k331, k332⟩ := blk3 p327
  have k333 := p327.lt
  go_wp2_with fail
  refine (l_heldIntS  _ _ _ _ h325 (by omega) (by omega)).mono ?_; rintro e wz ⟨rfl, rfl⟩
  clear k330 k331 k332 k333
  obtain ⟨k334, k335, k336⟩ := blk3 p327
  have k337 := p327.lt
  go_wp2
  go_ret
  exact ⟨rfl, hb328⟩

end Go.Proofs.Ytcjjjejocnlhmaa
