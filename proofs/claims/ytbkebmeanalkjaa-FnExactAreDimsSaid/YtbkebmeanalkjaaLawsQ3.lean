/- Walks of laws on quivers. -/
import Derived.Test.YtbkebmeanalkjaaDims
namespace Go.Proofs.Ytbkebmeanalkjaa
open Go.RowKit
set_option linter.unusedVariables false

set_option maxHeartbeats 4000000 in
set_option linter.unusedVariables false in
theorem law_FnExactAreDims (qq0 : Int) (qq1 : Value) (lqq1 : List Int) (qq2 : Value) (lqq2 : List Int) (dd0 : Value) (ldd0 : List Int) (w : World) (wf_qq0 : (Lit.int .i64 qq0).wf = true) (rqq1 : Raw w qq1 lqq1) (bdqq1 : Bd lqq1) (rqq2 : Raw w qq2 lqq2) (bdqq2 : Bd lqq2) (rdd0 : Raw w dd0 ldd0) (bddd0 : Bd ldd0) :
    Calls Try.prog 6 #[.agg #[.int .i64 qq0, qq1, qq2], dd0] w fun e w' => e = .returned (.bool true) ∧ Below w.heap.size w w' := by
  obtain ⟨lo_qq0, hi_qq0⟩ := wf_i64 wf_qq0
  clear wf_qq0
  have Rqq1 := Lib.hid rqq1
  have BDqq1 := Lib.hid bdqq1
  obtain ⟨a_qq1, cap_qq1, rfl, hlc_qq1, hcm_qq1⟩ := rqq1.shape
  clear rqq1 bdqq1
  have Rqq2 := Lib.hid rqq2
  have BDqq2 := Lib.hid bdqq2
  obtain ⟨a_qq2, cap_qq2, rfl, hlc_qq2, hcm_qq2⟩ := rqq2.shape
  clear rqq2 bdqq2
  have Rdd0 := Lib.hid rdd0
  have BDdd0 := Lib.hid bddd0
  obtain ⟨a_dd0, cap_dd0, rfl, hlc_dd0, hcm_dd0⟩ := rdd0.shape
  clear rdd0 bddd0
  have b1 : Below w.heap.size w (w.alloc (.cells #[.int .i64 qq0, .slice a_qq1 lqq1.length cap_qq1, .slice a_qq2 lqq2.length cap_qq2] 31)) := (Below.refl _ _).alloc (Nat.le_refl _) _
  have hb2 := b1
  have p3 := Blk.new w #[.int .i64 qq0, .slice a_qq1 lqq1.length cap_qq1, .slice a_qq2 lqq2.length cap_qq2] 31
  by_cases hL0 : ldd0.length ≤ 1048576
  rotate_left
  · skip
    go_enter Try.func6, Try.ntmps6
    obtain ⟨k4, k5, k6⟩ := blk3 p3
    have k7 := p3.lt
    go_wp2
    go_ret
    exact ⟨rfl, hb2⟩
  by_cases hL1 : lqq1.length + lqq2.length ≤ 1048576
  rotate_left
  · skip
    go_enter Try.func6, Try.ntmps6
    have es8 : szQ 1048576 lqq1 lqq2 = -1 := by unfold szQ; simp only [szI]; repeat (first | rfl | omega | split)
    obtain ⟨k9, k10, k11⟩ := blk3 p3
    have k12 := p3.lt
    go_wp2_with fail
    refine (l_szQuiver _ _ _ lqq1 lqq2 1048576 _ (Rqq1.out.below hb2) (Rqq2.out.below hb2) (by omega) (by omega)).mono ?_; rintro e w8 ⟨rfl, b8⟩
    clear k9 k10 k11 k12
    have p13 := p3.below b8
    have hb14 := below_call hb2 b8 hb2.size
    obtain ⟨k15, k16, k17⟩ := blk3 p13
    have k18 := p13.lt
    go_wp2
    go_ret
    exact ⟨rfl, hb14⟩
  go_enter Try.func6, Try.ntmps6
  have es19 : szQ 1048576 lqq1 lqq2 = 1048576 - (lqq1.length : Int) - (lqq2.length : Int) := by unfold szQ; simp only [szI]; repeat (first | rfl | omega | split)
  obtain ⟨k20, k21, k22⟩ := blk3 p3
  have k23 := p3.lt
  go_wp2_with fail
  refine (l_szQuiver _ _ _ lqq1 lqq2 1048576 _ (Rqq1.out.below hb2) (Rqq2.out.below hb2) (by omega) (by omega)).mono ?_; rintro e w19 ⟨rfl, b19⟩
  clear k20 k21 k22 k23
  have p24 := p3.below b19
  have hb25 := below_call hb2 b19 hb2.size
  obtain ⟨k27, k28, k29⟩ := blk3 p24
  have k30 := p24.lt
  go_wp2_with fail
  refine (l_toQuiver _ _ _ lqq1 lqq2 _ (Rqq1.out.below hb25) (Rqq2.out.below hb25) (by omega) (by omega)).mono ?_; rintro e w26 ⟨v26_0, v26_1, rfl, h26_0, h26_1, f26_0, f26_1, s26_01, b26⟩
  clear k27 k28 k29 k30
  have p31 := p24.below b26
  have hb32 := below_call hb25 b26 hb25.size
  obtain ⟨a26_0, cap26_0, rfl, _, _⟩ := h26_0.shape
  have sb33 := Lib.hid (sep_blk_new p24 f26_0)
  obtain ⟨a26_1, cap26_1, rfl, _, _⟩ := h26_1.shape
  have sb34 := Lib.hid (sep_blk_new p24 f26_1)
  have Ss26_01 := Lib.hid s26_01
  have Ts26_01 := Lib.hid (sep_symm Ss26_01.out)
  clear s26_01
  have Ff26_0 := Lib.hid f26_0
  clear f26_0
  have Ff26_1 := Lib.hid f26_1
  clear f26_1
  obtain ⟨k36, k37, k38⟩ := blk3 p31
  have k39 := p31.lt
  go_wp2_with fail
  refine (l_toIntS _ ldd0 _ (Rdd0.out.below hb32) (by omega)).mono ?_; rintro e w35 ⟨v35_0, rfl, h35_0, f35_0, b35⟩
  clear k36 k37 k38 k39
  have h40 := h26_0.below b35
  have h41 := h26_1.below b35
  have p42 := p31.below b35
  have hb43 := below_call hb32 b35 hb32.size
  obtain ⟨a35_0, cap35_0, rfl, _, _⟩ := h35_0.shape
  have sp44 := Lib.hid (sep_new h26_0 f35_0)
  have sp45 := Lib.hid (sep_symm sp44.out)
  have sp46 := Lib.hid (sep_new h26_1 f35_0)
  have sp47 := Lib.hid (sep_symm sp46.out)
  have sb48 := Lib.hid (sep_blk_new p31 f35_0)
  have Ff35_0 := Lib.hid f35_0
  clear f35_0
  obtain ⟨k50, k51, k52⟩ := blk3 p42
  have k53 := p42.lt
  go_wp2_with fail
  refine (s_AreDims _ _ _ _ lqq1 lqq2 ldd0 _ h40 h41 h35_0).mono ?_; rintro e w49 ⟨rfl, b49⟩
  clear k50 k51 k52 k53
  have h54 := h40.below b49
  have h55 := h41.below b49
  have h56 := h35_0.below b49
  have p57 := p42.below b49
  have hb58 := below_call hb43 b49 hb43.size
  obtain ⟨k60, k61, k62⟩ := blk3 p57
  have k63 := p57.lt
  go_wp2_with fail
  refine (l_toQuiver _ _ _ lqq1 lqq2 _ (Rqq1.out.below hb58) (Rqq2.out.below hb58) (by omega) (by omega)).mono ?_; rintro e w59 ⟨v59_0, v59_1, rfl, h59_0, h59_1, f59_0, f59_1, s59_01, b59⟩
  clear k60 k61 k62 k63
  have p64 := p57.below b59
  have hb65 := below_call hb58 b59 hb58.size
  obtain ⟨a59_0, cap59_0, rfl, _, _⟩ := h59_0.shape
  have sb66 := Lib.hid (sep_blk_new p57 f59_0)
  obtain ⟨a59_1, cap59_1, rfl, _, _⟩ := h59_1.shape
  have sb67 := Lib.hid (sep_blk_new p57 f59_1)
  have Ss59_01 := Lib.hid s59_01
  have Ts59_01 := Lib.hid (sep_symm Ss59_01.out)
  clear s59_01
  have Ff59_0 := Lib.hid f59_0
  clear f59_0
  have Ff59_1 := Lib.hid f59_1
  clear f59_1
  obtain ⟨k68, k69, k70⟩ := blk3 p64
  have k71 := p64.lt
  have sb72 := Lib.hid (sep_blk_old h59_0)
  have sb73 := Lib.hid (sep_blk_old h59_1)
  have b74 : Below w59.heap.size w59 (w59.alloc (.cells #[.int .i64 qq0, .slice a59_0 (lqq1).length cap59_0, .slice a59_1 (lqq2).length cap59_1] 34)) := (Below.refl _ w59).alloc (Nat.le_refl _) _
  have h75 := h59_0.below b74
  have h76 := h59_1.below b74
  have p77 := p64.below b74
  have hb78 := below_call hb65 b74 hb65.size
  have p79 := Blk.new w59 #[.int .i64 qq0, .slice a59_0 (lqq1).length cap59_0, .slice a59_1 (lqq2).length cap59_1] 34
  obtain ⟨k81, k82, k83⟩ := blk3 p77
  have k84 := p77.lt
  obtain ⟨k85, k86, k87⟩ := blk3 p79
  have k88 := p79.lt
  go_wp2_with fail
  refine (l_toIntS _ ldd0 _ (Rdd0.out.below hb78) (by omega)).mono ?_; rintro e w80 ⟨v80_0, rfl, h80_0, f80_0, b80⟩
  clear k81 k82 k83 k84 k85 k86 k87 k88
  have h89 := h75.below b80
  have h90 := h76.below b80
  have p91 := p77.below b80
  have p92 := p79.below b80
  have hb93 := below_call hb78 b80 hb78.size
  obtain ⟨a80_0, cap80_0, rfl, _, _⟩ := h80_0.shape
  have sp94 := Lib.hid (sep_new h75 f80_0)
  have sp95 := Lib.hid (sep_symm sp94.out)
  have sp96 := Lib.hid (sep_new h76 f80_0)
  have sp97 := Lib.hid (sep_symm sp96.out)
  have sb98 := Lib.hid (sep_blk_new p77 f80_0)
  have sb99 := Lib.hid (sep_blk_new p79 f80_0)
  have Ff80_0 := Lib.hid f80_0
  clear f80_0
  obtain ⟨k101, k102, k103⟩ := blk3 p91
  have k104 := p91.lt
  obtain ⟨k105, k106, k107⟩ := blk3 p92
  have k108 := p92.lt
  go_wp2_with fail
  refine (i_AreDims _ _ _ _ lqq1 lqq2 ldd0 _ h89 h90 h80_0).mono ?_; rintro e w100 ⟨rfl, b100⟩
  clear k101 k102 k103 k104 k105 k106 k107 k108
  have h109 := h89.below b100
  have h110 := h90.below b100
  have h111 := h80_0.below b100
  have p112 := p91.below b100
  have p113 := p92.below b100
  have hb114 := below_call hb93 b100 hb93.size
  have e116 := eqQ_refl qq0 lqq1 lqq2
  obtain ⟨k117, k118, k119⟩ := blk3 p112
  have k120 := p112.lt
  obtain ⟨k121, k122, k123⟩ := blk3 p113
  have k124 := p113.lt
  go_wp2_with fail
  go_region_held3 (fun w' => w'.cell? ⟨w.heap.size, 0, none⟩ = some (.int .i64 qq0) ∧ w'.cell? ⟨w.heap.size, 1, none⟩ = some (.slice a_qq1 lqq1.length cap_qq1) ∧ w'.cell? ⟨w.heap.size, 2, none⟩ = some (.slice a_qq2 lqq2.length cap_qq2) ∧ w'.cell? ⟨w59.heap.size, 0, none⟩ = some (.int .i64 qq0) ∧ w'.cell? ⟨w59.heap.size, 1, none⟩ = some (.slice a59_0 (lqq1).length cap59_0) ∧ w'.cell? ⟨w59.heap.size, 2, none⟩ = some (.slice a59_1 (lqq2).length cap59_1))
    (first
      | go_keep
      | exact ⟨(p112.below (below_of_drew b115)).cell 0, (p112.below (below_of_drew b115)).cell 1, (p112.below (below_of_drew b115)).cell 2, (p113.below (below_of_drew b115)).cell 0, (p113.below (below_of_drew b115)).cell 1, (p113.below (below_of_drew b115)).cell 2⟩
      | exact ⟨((p112.below (below_of_drew b115)).below b116).cell 0, ((p112.below (below_of_drew b115)).below b116).cell 1, ((p112.below (below_of_drew b115)).below b116).cell 2, ((p113.below (below_of_drew b115)).below b116).cell 0, ((p113.below (below_of_drew b115)).below b116).cell 1, ((p113.below (below_of_drew b115)).below b116).cell 2⟩)
    (first
      | (go_at_call 22; (with_reducible refine (l_toQuiver _ _ _ lqq1 lqq2 _ (Rqq1.out.below hb114).drew (Rqq2.out.below hb114).drew (by omega) (by omega)).mono ?_); rintro e w115 ⟨v115_0, v115_1, rfl, h115_0, h115_1, f115_0, f115_1, s115_01, b115⟩)
      | (go_at_call 24; (with_reducible refine (l_eqQuiver _ _ _ _ _ _ _ _ _ _ _ (h109.below (below_of_drew b115)) (h110.below (below_of_drew b115)) h115_0 h115_1).mono ?_); rintro e w116 ⟨rfl, b116⟩))
  clear k117 k118 k119 k120 k121 k122 k123 k124
  have Db115 := below_of_drew b115
  have h125 := h109.below Db115
  have h126 := h110.below Db115
  have h127 := h111.below Db115
  have p128 := p112.below Db115
  have p129 := p113.below Db115
  have hb130 := below_call hb114 Db115 hb114.size
  have h131 := h125.below b116
  have h132 := h126.below b116
  have h133 := h127.below b116
  have p134 := p128.below b116
  have p135 := p129.below b116
  have hb136 := below_call hb130 b116 hb130.size
  obtain ⟨k138, k139, k140⟩ := blk3 p134
  have k141 := p134.lt
  obtain ⟨k142, k143, k144⟩ := blk3 p135
  have k145 := p135.lt
  go_wp2_with fail
  refine (l_toIntS _ ldd0 _ (Rdd0.out.below hb136) (by omega)).mono ?_; rintro e w137 ⟨v137_0, rfl, h137_0, f137_0, b137⟩
  clear k138 k139 k140 k141 k142 k143 k144 k145
  have h146 := h131.below b137
  have h147 := h132.below b137
  have h148 := h133.below b137
  have p149 := p134.below b137
  have p150 := p135.below b137
  have hb151 := below_call hb136 b137 hb136.size
  obtain ⟨a137_0, cap137_0, rfl, _, _⟩ := h137_0.shape
  have sp152 := Lib.hid (sep_new h131 f137_0)
  have sp153 := Lib.hid (sep_symm sp152.out)
  have sp154 := Lib.hid (sep_new h132 f137_0)
  have sp155 := Lib.hid (sep_symm sp154.out)
  have sp156 := Lib.hid (sep_new h133 f137_0)
  have sp157 := Lib.hid (sep_symm sp156.out)
  have sb158 := Lib.hid (sep_blk_new p134 f137_0)
  have sb159 := Lib.hid (sep_blk_new p135 f137_0)
  have Ff137_0 := Lib.hid f137_0
  clear f137_0
  obtain ⟨k161, k162, k163⟩ := blk3 p149
  have k164 := p149.lt
  obtain ⟨k165, k166, k167⟩ := blk3 p150
  have k168 := p150.lt
  go_wp2_with fail
  refine (l_eqIntS _ _ _ _ _ h148 h137_0).mono ?_; rintro e w160 ⟨rfl, b160⟩
  clear k161 k162 k163 k164 k165 k166 k167 k168
  have h169 := h146.below b160
  have h170 := h147.below b160
  have h171 := h148.below b160
  have h172 := h137_0.below b160
  have p173 := p149.below b160
  have p174 := p150.below b160
  have hb175 := below_call hb151 b160 hb151.size
  obtain ⟨k176, k177, k178⟩ := blk3 p173
  have k179 := p173.lt
  obtain ⟨k180, k181, k182⟩ := blk3 p174
  have k183 := p174.lt
  go_wp2
  go_ret
  exact ⟨rfl, hb175⟩


end Go.Proofs.Ytbkebmeanalkjaa
