/- The walk of the law JoinPaths. -/
import Derived.Test.YtjgmiohaepcpbaaJoin2
import Derived.Test.YtjgmiohaepcpbaaPathM
import Derived.Test.YtjgmiohaepcpbaaOpp
namespace Go.Proofs.Ytjgmiohaepcpbaa
open Go.RowKit
set_option linter.unusedVariables false
set_option linter.unusedSimpArgs false

theorem joiL_len (n : Int) (f t : List Int) (s : Int) (a : List Int) (s' : Int) (b : List Int) : (joiL n f t s a s' b).length ≤ 20 := by
  unfold joiL
  cases h : joiOK n f t s a s' b
  · simp
  · unfold joiOK at h
    simp only [Bool.and_eq_true, decide_eq_true_eq] at h
    simpa using h.2
-- walks
set_option maxRecDepth 100000 in
set_option maxHeartbeats 4000000 in
set_option linter.unusedVariables false in
theorem law_FnExactJoinPaths (qq0 : Int) (qq1 : Value) (lqq1 : List Int) (qq2 : Value) (lqq2 : List Int) (aa0 : Int) (aa1 : Value) (laa1 : List Int) (bb0 : Int) (bb1 : Value) (lbb1 : List Int) (w : World) (wf_qq0 : (Lit.int .i64 qq0).wf = true) (rqq1 : Raw w qq1 lqq1) (bdqq1 : Bd lqq1) (rqq2 : Raw w qq2 lqq2) (bdqq2 : Bd lqq2) (wf_aa0 : (Lit.int .i64 aa0).wf = true) (raa1 : Raw w aa1 laa1) (bdaa1 : Bd laa1) (wf_bb0 : (Lit.int .i64 bb0).wf = true) (rbb1 : Raw w bb1 lbb1) (bdbb1 : Bd lbb1) :
    Calls Try.prog 6 #[.agg #[.int .i64 qq0, qq1, qq2], .agg #[.int .i64 aa0, aa1], .agg #[.int .i64 bb0, bb1]] w fun e w' => e = .returned (.bool true) ∧ Below w.heap.size w w' := by
  obtain ⟨lo_qq0, hi_qq0⟩ := wf_i64 wf_qq0
  clear wf_qq0
  have Rqq1 := Lib.hid rqq1
  have BDqq1 := Lib.hid bdqq1
  obtain ⟨a_qq1, cap_qq1, rfl, hlc_qq1, hcm_qq1⟩ := rqq1.shape
  clear rqq1 bdqq1
  have Rqq2 := Lib.hid rqq2
  have BDqq2 := Lib.hid bdqq2
  obtain ⟨a_qq2, cap_qq2, rfl, hlc_qq2, hcm_qq2⟩ := rqq2.shape
  clear rqq2 bdqq2
  obtain ⟨lo_aa0, hi_aa0⟩ := wf_i64 wf_aa0
  clear wf_aa0
  have Raa1 := Lib.hid raa1
  have BDaa1 := Lib.hid bdaa1
  obtain ⟨a_aa1, cap_aa1, rfl, hlc_aa1, hcm_aa1⟩ := raa1.shape
  clear raa1 bdaa1
  obtain ⟨lo_bb0, hi_bb0⟩ := wf_i64 wf_bb0
  clear wf_bb0
  have Rbb1 := Lib.hid rbb1
  have BDbb1 := Lib.hid bdbb1
  obtain ⟨a_bb1, cap_bb1, rfl, hlc_bb1, hcm_bb1⟩ := rbb1.shape
  clear rbb1 bdbb1
  have b1 : Below w.heap.size w (w.alloc (.cells #[.int .i64 qq0, .slice a_qq1 lqq1.length cap_qq1, .slice a_qq2 lqq2.length cap_qq2] 24)) := (Below.refl _ _).alloc (Nat.le_refl _) _
  have hb2 := b1
  have p3 := Blk.new w #[.int .i64 qq0, .slice a_qq1 lqq1.length cap_qq1, .slice a_qq2 lqq2.length cap_qq2] 24
  have b4 : Below (w.alloc (.cells #[.int .i64 qq0, .slice a_qq1 lqq1.length cap_qq1, .slice a_qq2 lqq2.length cap_qq2] 24)).heap.size (w.alloc (.cells #[.int .i64 qq0, .slice a_qq1 lqq1.length cap_qq1, .slice a_qq2 lqq2.length cap_qq2] 24)) ((w.alloc (.cells #[.int .i64 qq0, .slice a_qq1 lqq1.length cap_qq1, .slice a_qq2 lqq2.length cap_qq2] 24)).alloc (.cells #[.int .i64 aa0, .slice a_aa1 laa1.length cap_aa1] 37)) := (Below.refl _ _).alloc (Nat.le_refl _) _
  have p5 := p3.below b4
  have hb6 := below_call hb2 b4 hb2.size
  have p7 : Blk ((w.alloc (.cells #[.int .i64 qq0, .slice a_qq1 lqq1.length cap_qq1, .slice a_qq2 lqq2.length cap_qq2] 24)).alloc (.cells #[.int .i64 aa0, .slice a_aa1 laa1.length cap_aa1] 37)) (w.heap.size + 1) #[.int .i64 aa0, .slice a_aa1 laa1.length cap_aa1] 37 := by simpa using Blk.new (w.alloc (.cells #[.int .i64 qq0, .slice a_qq1 lqq1.length cap_qq1, .slice a_qq2 lqq2.length cap_qq2] 24)) #[.int .i64 aa0, .slice a_aa1 laa1.length cap_aa1] 37
  have b8 : Below ((w.alloc (.cells #[.int .i64 qq0, .slice a_qq1 lqq1.length cap_qq1, .slice a_qq2 lqq2.length cap_qq2] 24)).alloc (.cells #[.int .i64 aa0, .slice a_aa1 laa1.length cap_aa1] 37)).heap.size ((w.alloc (.cells #[.int .i64 qq0, .slice a_qq1 lqq1.length cap_qq1, .slice a_qq2 lqq2.length cap_qq2] 24)).alloc (.cells #[.int .i64 aa0, .slice a_aa1 laa1.length cap_aa1] 37)) (((w.alloc (.cells #[.int .i64 qq0, .slice a_qq1 lqq1.length cap_qq1, .slice a_qq2 lqq2.length cap_qq2] 24)).alloc (.cells #[.int .i64 aa0, .slice a_aa1 laa1.length cap_aa1] 37)).alloc (.cells #[.int .i64 bb0, .slice a_bb1 lbb1.length cap_bb1] 37)) := (Below.refl _ _).alloc (Nat.le_refl _) _
  have p9 := p5.below b8
  have p10 := p7.below b8
  have hb11 := below_call hb6 b8 hb6.size
  have p12 : Blk (((w.alloc (.cells #[.int .i64 qq0, .slice a_qq1 lqq1.length cap_qq1, .slice a_qq2 lqq2.length cap_qq2] 24)).alloc (.cells #[.int .i64 aa0, .slice a_aa1 laa1.length cap_aa1] 37)).alloc (.cells #[.int .i64 bb0, .slice a_bb1 lbb1.length cap_bb1] 37)) (w.heap.size + 1 + 1) #[.int .i64 bb0, .slice a_bb1 lbb1.length cap_bb1] 37 := by simpa using Blk.new ((w.alloc (.cells #[.int .i64 qq0, .slice a_qq1 lqq1.length cap_qq1, .slice a_qq2 lqq2.length cap_qq2] 24)).alloc (.cells #[.int .i64 aa0, .slice a_aa1 laa1.length cap_aa1] 37)) #[.int .i64 bb0, .slice a_bb1 lbb1.length cap_bb1] 37
  by_cases hL0 : lqq1.length + lqq2.length ≤ 1048576
  rotate_left
  · skip
    go_enter Try.func6, Try.ntmps6
    have es13 : szQ 1048576 lqq1 lqq2 = -1 := by unfold szQ; simp only [szI]; repeat (first | rfl | omega | split)
    obtain ⟨k14, k15, k16⟩ := blk3 p9
    have k17 := p9.lt
    obtain ⟨k18, k19⟩ := blk2 p10
    have k20 := p10.lt
    obtain ⟨k21, k22⟩ := blk2 p12
    have k23 := p12.lt
    go_wp2_with fail
    refine (l_szQuiver _ _ _ lqq1 lqq2 1048576 _ (Rqq1.out.below hb11) (Rqq2.out.below hb11) (by omega) (by omega)).mono ?_; rintro e w13 ⟨rfl, b13⟩
    clear k14 k15 k16 k17 k18 k19 k20 k21 k22 k23
    have p24 := p9.below b13
    have p25 := p10.below b13
    have p26 := p12.below b13
    have hb27 := below_call hb11 b13 hb11.size
    obtain ⟨k28, k29, k30⟩ := blk3 p24
    have k31 := p24.lt
    obtain ⟨k32, k33⟩ := blk2 p25
    have k34 := p25.lt
    obtain ⟨k35, k36⟩ := blk2 p26
    have k37 := p26.lt
    go_wp2
    go_ret
    exact ⟨rfl, hb27⟩
  by_cases hL1 : laa1.length ≤ 1048576 - lqq1.length - lqq2.length
  rotate_left
  · skip
    go_enter Try.func6, Try.ntmps6
    have es38 : szQ 1048576 lqq1 lqq2 = 1048576 - (lqq1.length : Int) - (lqq2.length : Int) := by unfold szQ; simp only [szI]; repeat (first | rfl | omega | split)
    obtain ⟨k39, k40, k41⟩ := blk3 p9
    have k42 := p9.lt
    obtain ⟨k43, k44⟩ := blk2 p10
    have k45 := p10.lt
    obtain ⟨k46, k47⟩ := blk2 p12
    have k48 := p12.lt
    go_wp2_with fail
    refine (l_szQuiver _ _ _ lqq1 lqq2 1048576 _ (Rqq1.out.below hb11) (Rqq2.out.below hb11) (by omega) (by omega)).mono ?_; rintro e w38 ⟨rfl, b38⟩
    clear k39 k40 k41 k42 k43 k44 k45 k46 k47 k48
    have p49 := p9.below b38
    have p50 := p10.below b38
    have p51 := p12.below b38
    have hb52 := below_call hb11 b38 hb11.size
    have es53 : szI (1048576 - (lqq1.length : Int) - (lqq2.length : Int)) laa1 = -1 := by unfold szI; rw [if_pos (by omega)]
    obtain ⟨k54, k55, k56⟩ := blk3 p49
    have k57 := p49.lt
    obtain ⟨k58, k59⟩ := blk2 p50
    have k60 := p50.lt
    obtain ⟨k61, k62⟩ := blk2 p51
    have k63 := p51.lt
    go_wp2_with fail
    refine (l_szPath _ _ laa1 (1048576 - (lqq1.length : Int) - (lqq2.length : Int)) _ (Raa1.out.below hb52) (by omega) (by omega)).mono ?_; rintro e w53 ⟨rfl, b53⟩
    clear k54 k55 k56 k57 k58 k59 k60 k61 k62 k63
    have p64 := p49.below b53
    have p65 := p50.below b53
    have p66 := p51.below b53
    have hb67 := below_call hb52 b53 hb52.size
    obtain ⟨k68, k69, k70⟩ := blk3 p64
    have k71 := p64.lt
    obtain ⟨k72, k73⟩ := blk2 p65
    have k74 := p65.lt
    obtain ⟨k75, k76⟩ := blk2 p66
    have k77 := p66.lt
    go_wp2
    go_ret
    exact ⟨rfl, hb67⟩
  by_cases hL2 : lbb1.length ≤ 1048576 - lqq1.length - lqq2.length - laa1.length
  rotate_left
  · skip
    go_enter Try.func6, Try.ntmps6
    have es78 : szQ 1048576 lqq1 lqq2 = 1048576 - (lqq1.length : Int) - (lqq2.length : Int) := by unfold szQ; simp only [szI]; repeat (first | rfl | omega | split)
    obtain ⟨k79, k80, k81⟩ := blk3 p9
    have k82 := p9.lt
    obtain ⟨k83, k84⟩ := blk2 p10
    have k85 := p10.lt
    obtain ⟨k86, k87⟩ := blk2 p12
    have k88 := p12.lt
    go_wp2_with fail
    refine (l_szQuiver _ _ _ lqq1 lqq2 1048576 _ (Rqq1.out.below hb11) (Rqq2.out.below hb11) (by omega) (by omega)).mono ?_; rintro e w78 ⟨rfl, b78⟩
    clear k79 k80 k81 k82 k83 k84 k85 k86 k87 k88
    have p89 := p9.below b78
    have p90 := p10.below b78
    have p91 := p12.below b78
    have hb92 := below_call hb11 b78 hb11.size
    have es93 : szI (1048576 - (lqq1.length : Int) - (lqq2.length : Int)) laa1 = (1048576 - (lqq1.length : Int) - (lqq2.length : Int)) - (laa1.length : Int) := by unfold szI; rw [if_neg (by omega)]
    obtain ⟨k94, k95, k96⟩ := blk3 p89
    have k97 := p89.lt
    obtain ⟨k98, k99⟩ := blk2 p90
    have k100 := p90.lt
    obtain ⟨k101, k102⟩ := blk2 p91
    have k103 := p91.lt
    go_wp2_with fail
    refine (l_szPath _ _ laa1 (1048576 - (lqq1.length : Int) - (lqq2.length : Int)) _ (Raa1.out.below hb92) (by omega) (by omega)).mono ?_; rintro e w93 ⟨rfl, b93⟩
    clear k94 k95 k96 k97 k98 k99 k100 k101 k102 k103
    have p104 := p89.below b93
    have p105 := p90.below b93
    have p106 := p91.below b93
    have hb107 := below_call hb92 b93 hb92.size
    have es108 : szI (1048576 - (lqq1.length : Int) - (lqq2.length : Int) - (laa1.length : Int)) lbb1 = -1 := by unfold szI; rw [if_pos (by omega)]
    obtain ⟨k109, k110, k111⟩ := blk3 p104
    have k112 := p104.lt
    obtain ⟨k113, k114⟩ := blk2 p105
    have k115 := p105.lt
    obtain ⟨k116, k117⟩ := blk2 p106
    have k118 := p106.lt
    go_wp2_with fail
    refine (l_szPath _ _ lbb1 (1048576 - (lqq1.length : Int) - (lqq2.length : Int) - (laa1.length : Int)) _ (Rbb1.out.below hb107) (by omega) (by omega)).mono ?_; rintro e w108 ⟨rfl, b108⟩
    clear k109 k110 k111 k112 k113 k114 k115 k116 k117 k118
    have p119 := p104.below b108
    have p120 := p105.below b108
    have p121 := p106.below b108
    have hb122 := below_call hb107 b108 hb107.size
    obtain ⟨k123, k124, k125⟩ := blk3 p119
    have k126 := p119.lt
    obtain ⟨k127, k128⟩ := blk2 p120
    have k129 := p120.lt
    obtain ⟨k130, k131⟩ := blk2 p121
    have k132 := p121.lt
    go_wp2
    go_ret
    exact ⟨rfl, hb122⟩
  have hn133 := joiL_len qq0 lqq1 lqq2 aa0 laa1 bb0 lbb1
  go_enter Try.func6, Try.ntmps6
  have es134 : szQ 1048576 lqq1 lqq2 = 1048576 - (lqq1.length : Int) - (lqq2.length : Int) := by unfold szQ; simp only [szI]; repeat (first | rfl | omega | split)
  obtain ⟨k135, k136, k137⟩ := blk3 p9
  have k138 := p9.lt
  obtain ⟨k139, k140⟩ := blk2 p10
  have k141 := p10.lt
  obtain ⟨k142, k143⟩ := blk2 p12
  have k144 := p12.lt
  go_wp2_with fail
  refine (l_szQuiver _ _ _ lqq1 lqq2 1048576 _ (Rqq1.out.below hb11) (Rqq2.out.below hb11) (by omega) (by omega)).mono ?_; rintro e w134 ⟨rfl, b134⟩
  clear k135 k136 k137 k138 k139 k140 k141 k142 k143 k144
  have p145 := p9.below b134
  have p146 := p10.below b134
  have p147 := p12.below b134
  have hb148 := below_call hb11 b134 hb11.size
  have es149 : szI (1048576 - (lqq1.length : Int) - (lqq2.length : Int)) laa1 = (1048576 - (lqq1.length : Int) - (lqq2.length : Int)) - (laa1.length : Int) := by unfold szI; rw [if_neg (by omega)]
  obtain ⟨k150, k151, k152⟩ := blk3 p145
  have k153 := p145.lt
  obtain ⟨k154, k155⟩ := blk2 p146
  have k156 := p146.lt
  obtain ⟨k157, k158⟩ := blk2 p147
  have k159 := p147.lt
  go_wp2_with fail
  refine (l_szPath _ _ laa1 (1048576 - (lqq1.length : Int) - (lqq2.length : Int)) _ (Raa1.out.below hb148) (by omega) (by omega)).mono ?_; rintro e w149 ⟨rfl, b149⟩
  clear k150 k151 k152 k153 k154 k155 k156 k157 k158 k159
  have p160 := p145.below b149
  have p161 := p146.below b149
  have p162 := p147.below b149
  have hb163 := below_call hb148 b149 hb148.size
  have es164 : szI (1048576 - (lqq1.length : Int) - (lqq2.length : Int) - (laa1.length : Int)) lbb1 = (1048576 - (lqq1.length : Int) - (lqq2.length : Int) - (laa1.length : Int)) - (lbb1.length : Int) := by unfold szI; rw [if_neg (by omega)]
  obtain ⟨k165, k166, k167⟩ := blk3 p160
  have k168 := p160.lt
  obtain ⟨k169, k170⟩ := blk2 p161
  have k171 := p161.lt
  obtain ⟨k172, k173⟩ := blk2 p162
  have k174 := p162.lt
  go_wp2_with fail
  refine (l_szPath _ _ lbb1 (1048576 - (lqq1.length : Int) - (lqq2.length : Int) - (laa1.length : Int)) _ (Rbb1.out.below hb163) (by omega) (by omega)).mono ?_; rintro e w164 ⟨rfl, b164⟩
  clear k165 k166 k167 k168 k169 k170 k171 k172 k173 k174
  have p175 := p160.below b164
  have p176 := p161.below b164
  have p177 := p162.below b164
  have hb178 := below_call hb163 b164 hb163.size
  obtain ⟨k180, k181, k182⟩ := blk3 p175
  have k183 := p175.lt
  obtain ⟨k184, k185⟩ := blk2 p176
  have k186 := p176.lt
  obtain ⟨k187, k188⟩ := blk2 p177
  have k189 := p177.lt
  have HS179 := Lib.hid (fun (w' : World) (hb : Below w164.heap.size w164 w') => (show (w'.cell? ⟨w.heap.size, 0, none⟩ = some (.int .i64 qq0) ∧ w'.cell? ⟨w.heap.size, 1, none⟩ = some (.slice a_qq1 lqq1.length cap_qq1) ∧ w'.cell? ⟨w.heap.size, 2, none⟩ = some (.slice a_qq2 lqq2.length cap_qq2) ∧ w'.cell? ⟨w.heap.size + 1, 0, none⟩ = some (.int .i64 aa0) ∧ w'.cell? ⟨w.heap.size + 1, 1, none⟩ = some (.slice a_aa1 laa1.length cap_aa1) ∧ w'.cell? ⟨w.heap.size + 1 + 1, 0, none⟩ = some (.int .i64 bb0) ∧ w'.cell? ⟨w.heap.size + 1 + 1, 1, none⟩ = some (.slice a_bb1 lbb1.length cap_bb1)) ∧ Below w164.heap.size w164 w' from ⟨⟨(p175.below hb).cell 0, (p175.below hb).cell 1, (p175.below hb).cell 2, (p176.below hb).cell 0, (p176.below hb).cell 1, (p177.below hb).cell 0, (p177.below hb).cell 1⟩, hb⟩))
  go_upto_region 11 with fail
  go_cut [8, 9] (fun sp sb wx => ∃ gg : Nat, sp = .pointer (some ⟨gg, 0, none⟩) ∧ sb = .bool (joiOK qq0 lqq1 lqq2 aa0 laa1 bb0 lbb1) ∧ In2 39 w164 gg (.int .i64 (joiS qq0 lqq1 lqq2 aa0 laa1 bb0 lbb1)) (joiL qq0 lqq1 lqq2 aa0 laa1 bb0 lbb1) wx)
  case first =>
    go_region_held3 (fun w' => (w'.cell? ⟨w.heap.size, 0, none⟩ = some (.int .i64 qq0) ∧ w'.cell? ⟨w.heap.size, 1, none⟩ = some (.slice a_qq1 lqq1.length cap_qq1) ∧ w'.cell? ⟨w.heap.size, 2, none⟩ = some (.slice a_qq2 lqq2.length cap_qq2) ∧ w'.cell? ⟨w.heap.size + 1, 0, none⟩ = some (.int .i64 aa0) ∧ w'.cell? ⟨w.heap.size + 1, 1, none⟩ = some (.slice a_aa1 laa1.length cap_aa1) ∧ w'.cell? ⟨w.heap.size + 1 + 1, 0, none⟩ = some (.int .i64 bb0) ∧ w'.cell? ⟨w.heap.size + 1 + 1, 1, none⟩ = some (.slice a_bb1 lbb1.length cap_bb1)) ∧ Below w164.heap.size w164 w')
      (first
        | with_reducible exact (HS179.out _ ((Below.refl _ _).drew))
        | with_reducible exact (HS179.out _ (held_call ‹_ ∧ Below _ _ _› ‹Below _ _ _›))
        | with_reducible exact (HS179.out _ (held_allocd ‹_ ∧ Below _ _ _› _))
        | with_reducible exact (HS179.out _ (held_alloc ‹_ ∧ Below _ _ _› _))
        | with_reducible exact HS179.out _ ((hpre193.trans (b193.mono hpre193.size)).alloc (hpre193.trans (b193.mono hpre193.size)).size _)
        | exact HS179.out _ (held_set2 ‹_ ∧ Below _ _ _› (by first | exact Nat.le_refl _ | assumption) _ _))
      (first
        | (go_at_call 13; (with_reducible refine (l_toQuiver _ _ _ lqq1 lqq2 _ ?_ ?_ (by omega) (by omega)).mono ?_); (exact ((Rqq1.out.below hb178)).below (And.right ‹_ ∧ Below _ _ _›)); (exact ((Rqq2.out.below hb178)).below (And.right ‹_ ∧ Below _ _ _›)); rintro e w190 ⟨v190_0, v190_1, rfl, h190_0, h190_1, f190_0, f190_1, s190_01, b190⟩; have hgi_b190 := (held_call ‹_ ∧ Below _ _ _› b190).size; (try (have kk0_0 := Blk.below (Blk.drew (Blk.new w164 #[.int .i64 0, .slice none 0 0] 39)) b190)))
        | (go_at_call 24; (with_reducible refine (l_toPath _ _ laa1 _ ?_ (by omega)).mono ?_); (exact ((Raa1.out.below hb178)).below (And.right ‹_ ∧ Below _ _ _›)); rintro e w191 ⟨v191_0, rfl, h191_0, f191_0, b191⟩; (have h190_0' : Ints w191 v190_0 lqq1 := by first | exact h190_0.below b191 | exact (h190_0.below ((Below.refl _ _).alloc (Nat.le_refl _) _)).below b191); (have h190_1' : Ints w191 v190_1 lqq2 := by first | exact h190_1.below b191 | exact (h190_1.below ((Below.refl _ _).alloc (Nat.le_refl _) _)).below b191); have hgi_b191 := (held_call ‹_ ∧ Below _ _ _› b191).size; (try (have kk0_1 := Blk.below kk0_0 b191)); (try (have kk1_1 := Blk.below (Blk.new w190 #[.int .i64 0, .slice none 0 0] 39) b191)))
        | (go_at_call 24; (with_reducible refine (l_toPath _ _ lbb1 _ ?_ (by omega)).mono ?_); (exact ((Rbb1.out.below hb178)).below (And.right ‹_ ∧ Below _ _ _›)); rintro e w192 ⟨v192_0, rfl, h192_0, f192_0, b192⟩; (have h190_0'' : Ints w192 v190_0 lqq1 := by first | exact h190_0'.below b192 | exact (h190_0'.below ((Below.refl _ _).alloc (Nat.le_refl _) _)).below b192); (have h190_1'' : Ints w192 v190_1 lqq2 := by first | exact h190_1'.below b192 | exact (h190_1'.below ((Below.refl _ _).alloc (Nat.le_refl _) _)).below b192); (have h191_0' : Ints w192 v191_0 laa1 := by first | exact h191_0.below b192 | exact (h191_0.below ((Below.refl _ _).alloc (Nat.le_refl _) _)).below b192); have hgi_b192 := (held_call ‹_ ∧ Below _ _ _› b192).size; (try (have kk0_2 := Blk.below kk0_1 b192)); (try (have kk1_2 := Blk.below kk1_1 b192)); (try (have kk2_2 := Blk.below (Blk.new w191 #[.int .i64 0, .slice none 0 0] 39) b192)))
        | (go_at_call 23; (with_reducible refine (s_JoinPaths _ _ _ _ _ _ _ lqq1 lqq2 laa1 lbb1 _ ?_ ?_ ?_ ?_).mono ?_); (first | exact h190_0'' | exact h190_0''.below ((Below.refl _ _).alloc (Nat.le_refl _) _)); (first | exact h190_1'' | exact h190_1''.below ((Below.refl _ _).alloc (Nat.le_refl _) _)); (first | exact h191_0' | exact h191_0'.below ((Below.refl _ _).alloc (Nat.le_refl _) _)); (first | exact h192_0 | exact h192_0.below ((Below.refl _ _).alloc (Nat.le_refl _) _)); rintro e w193 ⟨v193, rfl, hv193, hf193, b193⟩; have hgi_b193 := (held_call ‹_ ∧ Below _ _ _› b193).size; (try (have kk0_3 := Blk.below kk0_2 b193)); (try (have ka0_0 : _ = some (Value.int .i64 0) := kk0_3.cell 0)); (try (have kf0_0 := kk0_3.frozen 0)); (try (have ka0_1 : _ = some (Value.slice none 0 0) := kk0_3.cell 1)); (try (have kf0_1 := kk0_3.frozen 1)); (try (have kl0 := Lib.hid kk0_3; clear kk0_3)); (try (have kk1_3 := Blk.below kk1_2 b193)); (try (have ka1_0 : _ = some (Value.int .i64 0) := kk1_3.cell 0)); (try (have kf1_0 := kk1_3.frozen 0)); (try (have ka1_1 : _ = some (Value.slice none 0 0) := kk1_3.cell 1)); (try (have kf1_1 := kk1_3.frozen 1)); (try (have kl1 := Lib.hid kk1_3; clear kk1_3)); (try (have kk2_3 := Blk.below kk2_2 b193)); (try (have ka2_0 : _ = some (Value.int .i64 0) := kk2_3.cell 0)); (try (have kf2_0 := kk2_3.frozen 0)); (try (have ka2_1 : _ = some (Value.slice none 0 0) := kk2_3.cell 1)); (try (have kf2_1 := kk2_3.frozen 1)); (try (have kl2 := Lib.hid kk2_3; clear kk2_3)); (try (have kk3_3 := Blk.below (Blk.new w192 #[.int .i64 0, .slice none 0 0] 39) b193)); (try (have ka3_0 : _ = some (Value.int .i64 0) := kk3_3.cell 0)); (try (have kf3_0 := kk3_3.frozen 0)); (try (have ka3_1 : _ = some (Value.slice none 0 0) := kk3_3.cell 1)); (try (have kf3_1 := kk3_3.frozen 1)); (try (have kl3 := Lib.hid kk3_3; clear kk3_3)); have hpre193 := And.right ‹_ ∧ Below _ _ _›; obtain ⟨a193, cap193, rfl, _, _⟩ := hv193.shape))
    all_goals (go_wp2_with fail; go_meet; have hfin := hpre193.trans (b193.mono hpre193.size))
    · refine ⟨_, rfl, rfl, ?_⟩
      exact in2_new _ hfin hv193 (fun q hq => Nat.le_trans hpre193.size (hf193 q hq))
    · refine ⟨_, rfl, rfl, ?_⟩
      have hlt := Res2.lt (res2_new w192 (.int .i64 0) (.slice none 0 0) 39)
      have z0 := b190.size
      have z1 := b191.size
      have z2 := b192.size
      skip
      have hge : w164.heap.size ≤ w192.heap.size := Nat.le_trans (Nat.le_trans (b190.size) b191.size) b192.size
      exact in2_mk _ hfin ((res2_new w192 (.int .i64 0) (.slice none 0 0) 39).below b193) hge hv193 (fun q hq => ⟨Nat.le_trans hpre193.size (hf193 q hq), fun e => by have z1 := hf193 q hq; have z2 := hlt; omega⟩)
    · refine ⟨_, rfl, rfl, ?_⟩
      have hlt := Res2.lt ((res2_new w191 (.int .i64 0) (.slice none 0 0) 39).below b192)
      have z0 := b190.size
      have z1 := b191.size
      skip
      have hge : w164.heap.size ≤ w191.heap.size := Nat.le_trans (b190.size) b191.size
      exact in2_mk _ hfin (((res2_new w191 (.int .i64 0) (.slice none 0 0) 39).below b192).below b193) hge hv193 (fun q hq => ⟨Nat.le_trans hpre193.size (hf193 q hq), fun e => by have z1 := hf193 q hq; have z2 := hlt; omega⟩)
    · refine ⟨_, rfl, rfl, ?_⟩
      have hlt := Res2.lt (((res2_new w190 (.int .i64 0) (.slice none 0 0) 39).below b191).below b192)
      have z0 := b190.size
      skip
      have hge : w164.heap.size ≤ w190.heap.size := b190.size
      exact in2_mk _ hfin ((((res2_new w190 (.int .i64 0) (.slice none 0 0) 39).below b191).below b192).below b193) hge hv193 (fun q hq => ⟨Nat.le_trans hpre193.size (hf193 q hq), fun e => by have z1 := hf193 q hq; have z2 := hlt; omega⟩)
    · refine ⟨_, rfl, rfl, ?_⟩
      have hlt := Res2.lt ((((res2_newd w164 (.int .i64 0) (.slice none 0 0) 39).below b190).below b191).below b192)
      have hge := Nat.le_refl w164.heap.size
      exact in2_mk _ hfin (((((res2_newd w164 (.int .i64 0) (.slice none 0 0) 39).below b190).below b191).below b192).below b193) hge hv193 (fun q hq => ⟨Nat.le_trans hpre193.size (hf193 q hq), fun e => by have z1 := hf193 q hq; have z2 := hlt; omega⟩)
  case rest =>
    obtain ⟨gg194, rfl, rfl, v194, p194, h194, f194, ng194, hg194, b194⟩ := hcut
    obtain ⟨w194, rfl⟩ : ∃ x, x = wc := ⟨_, rfl⟩
    clear k180 k181 k182 k183 k184 k185 k186 k187 k188 k189 HS179
    obtain ⟨a194, cap194, rfl, _, _⟩ := h194.shape
    have p195 := p175.below b194
    have p196 := p176.below b194
    have p197 := p177.below b194
    have hb198 := below_call hb178 b194 hb178.size
    have F194 := Lib.hid f194
    have NG194 := Lib.hid ng194
    have HG194 := Lib.hid hg194
    have sb199 := Lib.hid (sep_blk_new p175 F194.out)
    have sb200 := Lib.hid (sep_blk_new p176 F194.out)
    have sb201 := Lib.hid (sep_blk_new p177 F194.out)
    clear f194 ng194 hg194
    obtain ⟨k203, k204, k205⟩ := blk3 p195
    have k206 := p195.lt
    obtain ⟨k207, k208⟩ := blk2 p196
    have k209 := p196.lt
    obtain ⟨k210, k211⟩ := blk2 p197
    have k212 := p197.lt
    obtain ⟨k213, k214⟩ := blk2 p194
    have k215 := p194.lt
    go_wp2_with fail
    refine (l_toQuiver _ _ _ lqq1 lqq2 _ (Rqq1.out.below hb198) (Rqq2.out.below hb198) (by omega) (by omega)).mono ?_; rintro e w202 ⟨v202_0, v202_1, rfl, h202_0, h202_1, f202_0, f202_1, s202_01, b202⟩
    clear k203 k204 k205 k206 k207 k208 k209 k210 k211 k212 k213 k214 k215
    have h216 := h194.below b202
    have p217 := p195.below b202
    have p218 := p196.below b202
    have p219 := p197.below b202
    have p220 := p194.below b202
    have hb221 := below_call hb198 b202 hb198.size
    obtain ⟨a202_0, cap202_0, rfl, _, _⟩ := h202_0.shape
    have sp222 := Lib.hid (sep_new h194 f202_0)
    have sp223 := Lib.hid (sep_symm sp222.out)
    have sb224 := Lib.hid (sep_blk_new p195 f202_0)
    have sb225 := Lib.hid (sep_blk_new p196 f202_0)
    have sb226 := Lib.hid (sep_blk_new p197 f202_0)
    have sb227 := Lib.hid (sep_blk_new p194 f202_0)
    obtain ⟨a202_1, cap202_1, rfl, _, _⟩ := h202_1.shape
    have sp228 := Lib.hid (sep_new h194 f202_1)
    have sp229 := Lib.hid (sep_symm sp228.out)
    have sb230 := Lib.hid (sep_blk_new p195 f202_1)
    have sb231 := Lib.hid (sep_blk_new p196 f202_1)
    have sb232 := Lib.hid (sep_blk_new p197 f202_1)
    have sb233 := Lib.hid (sep_blk_new p194 f202_1)
    have Ss202_01 := Lib.hid s202_01
    have Ts202_01 := Lib.hid (sep_symm Ss202_01.out)
    clear s202_01
    have Ff202_0 := Lib.hid f202_0
    clear f202_0
    have Ff202_1 := Lib.hid f202_1
    clear f202_1
    obtain ⟨k234, k235, k236⟩ := blk3 p217
    have k237 := p217.lt
    obtain ⟨k238, k239⟩ := blk2 p218
    have k240 := p218.lt
    obtain ⟨k241, k242⟩ := blk2 p219
    have k243 := p219.lt
    obtain ⟨k244, k245⟩ := blk2 p220
    have k246 := p220.lt
    have sb247 := Lib.hid (sep_blk_old h216)
    have sb248 := Lib.hid (sep_blk_old h202_0)
    have sb249 := Lib.hid (sep_blk_old h202_1)
    have b250 : Below w202.heap.size w202 (w202.alloc (.cells #[.int .i64 qq0, .slice a202_0 (lqq1).length cap202_0, .slice a202_1 (lqq2).length cap202_1] 27)) := (Below.refl _ w202).alloc (Nat.le_refl _) _
    have h251 := h216.below b250
    have h252 := h202_0.below b250
    have h253 := h202_1.below b250
    have p254 := p217.below b250
    have p255 := p218.below b250
    have p256 := p219.below b250
    have p257 := p220.below b250
    have hb258 := below_call hb221 b250 hb221.size
    have p259 := Blk.new w202 #[.int .i64 qq0, .slice a202_0 (lqq1).length cap202_0, .slice a202_1 (lqq2).length cap202_1] 27
    obtain ⟨k261, k262, k263⟩ := blk3 p254
    have k264 := p254.lt
    obtain ⟨k265, k266⟩ := blk2 p255
    have k267 := p255.lt
    obtain ⟨k268, k269⟩ := blk2 p256
    have k270 := p256.lt
    obtain ⟨k271, k272⟩ := blk2 p257
    have k273 := p257.lt
    obtain ⟨k274, k275, k276⟩ := blk3 p259
    have k277 := p259.lt
    go_wp2_with fail
    refine (l_toPath _ _ laa1 _ (Raa1.out.below hb258) (by omega)).mono ?_; rintro e w260 ⟨v260_0, rfl, h260_0, f260_0, b260⟩
    clear k261 k262 k263 k264 k265 k266 k267 k268 k269 k270 k271 k272 k273 k274 k275 k276 k277
    have h278 := h251.below b260
    have h279 := h252.below b260
    have h280 := h253.below b260
    have p281 := p254.below b260
    have p282 := p255.below b260
    have p283 := p256.below b260
    have p284 := p257.below b260
    have p285 := p259.below b260
    have hb286 := below_call hb258 b260 hb258.size
    obtain ⟨a260_0, cap260_0, rfl, _, _⟩ := h260_0.shape
    have sp287 := Lib.hid (sep_new h251 f260_0)
    have sp288 := Lib.hid (sep_symm sp287.out)
    have sp289 := Lib.hid (sep_new h252 f260_0)
    have sp290 := Lib.hid (sep_symm sp289.out)
    have sp291 := Lib.hid (sep_new h253 f260_0)
    have sp292 := Lib.hid (sep_symm sp291.out)
    have sb293 := Lib.hid (sep_blk_new p254 f260_0)
    have sb294 := Lib.hid (sep_blk_new p255 f260_0)
    have sb295 := Lib.hid (sep_blk_new p256 f260_0)
    have sb296 := Lib.hid (sep_blk_new p257 f260_0)
    have sb297 := Lib.hid (sep_blk_new p259 f260_0)
    have Ff260_0 := Lib.hid f260_0
    clear f260_0
    obtain ⟨k298, k299, k300⟩ := blk3 p281
    have k301 := p281.lt
    obtain ⟨k302, k303⟩ := blk2 p282
    have k304 := p282.lt
    obtain ⟨k305, k306⟩ := blk2 p283
    have k307 := p283.lt
    obtain ⟨k308, k309⟩ := blk2 p284
    have k310 := p284.lt
    obtain ⟨k311, k312, k313⟩ := blk3 p285
    have k314 := p285.lt
    have sb315 := Lib.hid (sep_blk_old h278)
    have sb316 := Lib.hid (sep_blk_old h279)
    have sb317 := Lib.hid (sep_blk_old h280)
    have sb318 := Lib.hid (sep_blk_old h260_0)
    have b319 : Below w260.heap.size w260 (w260.alloc (.cells #[.int .i64 aa0, .slice a260_0 (laa1).length cap260_0] 39)) := (Below.refl _ w260).alloc (Nat.le_refl _) _
    have h320 := h278.below b319
    have h321 := h279.below b319
    have h322 := h280.below b319
    have h323 := h260_0.below b319
    have p324 := p281.below b319
    have p325 := p282.below b319
    have p326 := p283.below b319
    have p327 := p284.below b319
    have p328 := p285.below b319
    have hb329 := below_call hb286 b319 hb286.size
    have p330 := Blk.new w260 #[.int .i64 aa0, .slice a260_0 (laa1).length cap260_0] 39
    obtain ⟨k332, k333, k334⟩ := blk3 p324
    have k335 := p324.lt
    obtain ⟨k336, k337⟩ := blk2 p325
    have k338 := p325.lt
    obtain ⟨k339, k340⟩ := blk2 p326
    have k341 := p326.lt
    obtain ⟨k342, k343⟩ := blk2 p327
    have k344 := p327.lt
    obtain ⟨k345, k346, k347⟩ := blk3 p328
    have k348 := p328.lt
    obtain ⟨k349, k350⟩ := blk2 p330
    have k351 := p330.lt
    go_wp2_with fail
    refine (l_toPath _ _ lbb1 _ (Rbb1.out.below hb329) (by omega)).mono ?_; rintro e w331 ⟨v331_0, rfl, h331_0, f331_0, b331⟩
    clear k332 k333 k334 k335 k336 k337 k338 k339 k340 k341 k342 k343 k344 k345 k346 k347 k348 k349 k350 k351
    have h352 := h320.below b331
    have h353 := h321.below b331
    have h354 := h322.below b331
    have h355 := h323.below b331
    have p356 := p324.below b331
    have p357 := p325.below b331
    have p358 := p326.below b331
    have p359 := p327.below b331
    have p360 := p328.below b331
    have p361 := p330.below b331
    have hb362 := below_call hb329 b331 hb329.size
    obtain ⟨a331_0, cap331_0, rfl, _, _⟩ := h331_0.shape
    have sp363 := Lib.hid (sep_new h320 f331_0)
    have sp364 := Lib.hid (sep_symm sp363.out)
    have sp365 := Lib.hid (sep_new h321 f331_0)
    have sp366 := Lib.hid (sep_symm sp365.out)
    have sp367 := Lib.hid (sep_new h322 f331_0)
    have sp368 := Lib.hid (sep_symm sp367.out)
    have sp369 := Lib.hid (sep_new h323 f331_0)
    have sp370 := Lib.hid (sep_symm sp369.out)
    have sb371 := Lib.hid (sep_blk_new p324 f331_0)
    have sb372 := Lib.hid (sep_blk_new p325 f331_0)
    have sb373 := Lib.hid (sep_blk_new p326 f331_0)
    have sb374 := Lib.hid (sep_blk_new p327 f331_0)
    have sb375 := Lib.hid (sep_blk_new p328 f331_0)
    have sb376 := Lib.hid (sep_blk_new p330 f331_0)
    have Ff331_0 := Lib.hid f331_0
    clear f331_0
    obtain ⟨k377, k378, k379⟩ := blk3 p356
    have k380 := p356.lt
    obtain ⟨k381, k382⟩ := blk2 p357
    have k383 := p357.lt
    obtain ⟨k384, k385⟩ := blk2 p358
    have k386 := p358.lt
    obtain ⟨k387, k388⟩ := blk2 p359
    have k389 := p359.lt
    obtain ⟨k390, k391, k392⟩ := blk3 p360
    have k393 := p360.lt
    obtain ⟨k394, k395⟩ := blk2 p361
    have k396 := p361.lt
    have sb397 := Lib.hid (sep_blk_old h352)
    have sb398 := Lib.hid (sep_blk_old h353)
    have sb399 := Lib.hid (sep_blk_old h354)
    have sb400 := Lib.hid (sep_blk_old h355)
    have sb401 := Lib.hid (sep_blk_old h331_0)
    have b402 : Below w331.heap.size w331 (w331.alloc (.cells #[.int .i64 bb0, .slice a331_0 (lbb1).length cap331_0] 39)) := (Below.refl _ w331).alloc (Nat.le_refl _) _
    have h403 := h352.below b402
    have h404 := h353.below b402
    have h405 := h354.below b402
    have h406 := h355.below b402
    have h407 := h331_0.below b402
    have p408 := p356.below b402
    have p409 := p357.below b402
    have p410 := p358.below b402
    have p411 := p359.below b402
    have p412 := p360.below b402
    have p413 := p361.below b402
    have hb414 := below_call hb362 b402 hb362.size
    have p415 := Blk.new w331 #[.int .i64 bb0, .slice a331_0 (lbb1).length cap331_0] 39
    obtain ⟨k417, k418, k419⟩ := blk3 p408
    have k420 := p408.lt
    obtain ⟨k421, k422⟩ := blk2 p409
    have k423 := p409.lt
    obtain ⟨k424, k425⟩ := blk2 p410
    have k426 := p410.lt
    obtain ⟨k427, k428⟩ := blk2 p411
    have k429 := p411.lt
    obtain ⟨k430, k431, k432⟩ := blk3 p412
    have k433 := p412.lt
    obtain ⟨k434, k435⟩ := blk2 p413
    have k436 := p413.lt
    obtain ⟨k437, k438⟩ := blk2 p415
    have k439 := p415.lt
    go_wp2_with fail
    refine (i_JoinPaths _ _ _ _ _ _ _ lqq1 lqq2 laa1 lbb1 _ h404 h405 h406 h407).mono ?_; rintro e w416 ⟨v416_0, rfl, h416_0, f416_0, b416⟩
    clear k417 k418 k419 k420 k421 k422 k423 k424 k425 k426 k427 k428 k429 k430 k431 k432 k433 k434 k435 k436 k437 k438 k439
    have h440 := h403.below b416
    have h441 := h404.below b416
    have h442 := h405.below b416
    have h443 := h406.below b416
    have h444 := h407.below b416
    have p445 := p408.below b416
    have p446 := p409.below b416
    have p447 := p410.below b416
    have p448 := p411.below b416
    have p449 := p412.below b416
    have p450 := p413.below b416
    have p451 := p415.below b416
    have hb452 := below_call hb414 b416 hb414.size
    obtain ⟨a416_0, cap416_0, rfl, _, _⟩ := h416_0.shape
    have sp453 := Lib.hid (sep_new h403 f416_0)
    have sp454 := Lib.hid (sep_symm sp453.out)
    have sp455 := Lib.hid (sep_new h404 f416_0)
    have sp456 := Lib.hid (sep_symm sp455.out)
    have sp457 := Lib.hid (sep_new h405 f416_0)
    have sp458 := Lib.hid (sep_symm sp457.out)
    have sp459 := Lib.hid (sep_new h406 f416_0)
    have sp460 := Lib.hid (sep_symm sp459.out)
    have sp461 := Lib.hid (sep_new h407 f416_0)
    have sp462 := Lib.hid (sep_symm sp461.out)
    have sb463 := Lib.hid (sep_blk_new p408 f416_0)
    have sb464 := Lib.hid (sep_blk_new p409 f416_0)
    have sb465 := Lib.hid (sep_blk_new p410 f416_0)
    have sb466 := Lib.hid (sep_blk_new p411 f416_0)
    have sb467 := Lib.hid (sep_blk_new p412 f416_0)
    have sb468 := Lib.hid (sep_blk_new p413 f416_0)
    have sb469 := Lib.hid (sep_blk_new p415 f416_0)
    have Ff416_0 := Lib.hid f416_0
    clear f416_0
    obtain ⟨k470, k471, k472⟩ := blk3 p445
    have k473 := p445.lt
    obtain ⟨k474, k475⟩ := blk2 p446
    have k476 := p446.lt
    obtain ⟨k477, k478⟩ := blk2 p447
    have k479 := p447.lt
    obtain ⟨k480, k481⟩ := blk2 p448
    have k482 := p448.lt
    obtain ⟨k483, k484, k485⟩ := blk3 p449
    have k486 := p449.lt
    obtain ⟨k487, k488⟩ := blk2 p450
    have k489 := p450.lt
    obtain ⟨k490, k491⟩ := blk2 p451
    have k492 := p451.lt
    have sb493 := Lib.hid (sep_blk_old h440)
    have sb494 := Lib.hid (sep_blk_old h441)
    have sb495 := Lib.hid (sep_blk_old h442)
    have sb496 := Lib.hid (sep_blk_old h443)
    have sb497 := Lib.hid (sep_blk_old h444)
    have sb498 := Lib.hid (sep_blk_old h416_0)
    have b499 : Below w416.heap.size w416 (w416.alloc (.cells #[.int .i64 (joiS qq0 lqq1 lqq2 aa0 laa1 bb0 lbb1), .slice a416_0 ((joiL qq0 lqq1 lqq2 aa0 laa1 bb0 lbb1)).length cap416_0] 39)) := (Below.refl _ w416).alloc (Nat.le_refl _) _
    have h500 := h440.below b499
    have h501 := h441.below b499
    have h502 := h442.below b499
    have h503 := h443.below b499
    have h504 := h444.below b499
    have h505 := h416_0.below b499
    have p506 := p445.below b499
    have p507 := p446.below b499
    have p508 := p447.below b499
    have p509 := p448.below b499
    have p510 := p449.below b499
    have p511 := p450.below b499
    have p512 := p451.below b499
    have hb513 := below_call hb452 b499 hb452.size
    have p514 := Blk.new w416 #[.int .i64 (joiS qq0 lqq1 lqq2 aa0 laa1 bb0 lbb1), .slice a416_0 ((joiL qq0 lqq1 lqq2 aa0 laa1 bb0 lbb1)).length cap416_0] 39
    have e515 := eqP_refl (joiS qq0 lqq1 lqq2 aa0 laa1 bb0 lbb1) (joiL qq0 lqq1 lqq2 aa0 laa1 bb0 lbb1)
    obtain ⟨k516, k517, k518⟩ := blk3 p506
    have k519 := p506.lt
    obtain ⟨k520, k521⟩ := blk2 p507
    have k522 := p507.lt
    obtain ⟨k523, k524⟩ := blk2 p508
    have k525 := p508.lt
    obtain ⟨k526, k527⟩ := blk2 p509
    have k528 := p509.lt
    obtain ⟨k529, k530, k531⟩ := blk3 p510
    have k532 := p510.lt
    obtain ⟨k533, k534⟩ := blk2 p511
    have k535 := p511.lt
    obtain ⟨k536, k537⟩ := blk2 p512
    have k538 := p512.lt
    obtain ⟨k539, k540⟩ := blk2 p514
    have k541 := p514.lt
    go_wp2_with fail
    refine (l_eqPath _ _ _ _ _ _ _ h505 h500).mono ?_; rintro e w515 ⟨rfl, b515⟩
    clear k516 k517 k518 k519 k520 k521 k522 k523 k524 k525 k526 k527 k528 k529 k530 k531 k532 k533 k534 k535 k536 k537 k538 k539 k540 k541
    have h542 := h500.below b515
    have h543 := h501.below b515
    have h544 := h502.below b515
    have h545 := h503.below b515
    have h546 := h504.below b515
    have h547 := h505.below b515
    have p548 := p506.below b515
    have p549 := p507.below b515
    have p550 := p508.below b515
    have p551 := p509.below b515
    have p552 := p510.below b515
    have p553 := p511.below b515
    have p554 := p512.below b515
    have p555 := p514.below b515
    have hb556 := below_call hb513 b515 hb513.size
    have e558 := eqQ_refl qq0 lqq1 lqq2
    obtain ⟨k559, k560, k561⟩ := blk3 p548
    have k562 := p548.lt
    obtain ⟨k563, k564⟩ := blk2 p549
    have k565 := p549.lt
    obtain ⟨k566, k567⟩ := blk2 p550
    have k568 := p550.lt
    obtain ⟨k569, k570⟩ := blk2 p551
    have k571 := p551.lt
    obtain ⟨k572, k573, k574⟩ := blk3 p552
    have k575 := p552.lt
    obtain ⟨k576, k577⟩ := blk2 p553
    have k578 := p553.lt
    obtain ⟨k579, k580⟩ := blk2 p554
    have k581 := p554.lt
    obtain ⟨k582, k583⟩ := blk2 p555
    have k584 := p555.lt
    go_wp2_with fail
    go_region_held3 (fun w' => w'.cell? ⟨w.heap.size, 0, none⟩ = some (.int .i64 qq0) ∧ w'.cell? ⟨w.heap.size, 1, none⟩ = some (.slice a_qq1 lqq1.length cap_qq1) ∧ w'.cell? ⟨w.heap.size, 2, none⟩ = some (.slice a_qq2 lqq2.length cap_qq2) ∧ w'.cell? ⟨w.heap.size + 1, 0, none⟩ = some (.int .i64 aa0) ∧ w'.cell? ⟨w.heap.size + 1, 1, none⟩ = some (.slice a_aa1 laa1.length cap_aa1) ∧ w'.cell? ⟨w.heap.size + 1 + 1, 0, none⟩ = some (.int .i64 bb0) ∧ w'.cell? ⟨w.heap.size + 1 + 1, 1, none⟩ = some (.slice a_bb1 lbb1.length cap_bb1) ∧ w'.cell? ⟨gg194, 0, none⟩ = some (.int .i64 (joiS qq0 lqq1 lqq2 aa0 laa1 bb0 lbb1)) ∧ w'.cell? ⟨gg194, 1, none⟩ = some (.slice a194 ((joiL qq0 lqq1 lqq2 aa0 laa1 bb0 lbb1)).length cap194) ∧ w'.cell? ⟨w202.heap.size, 0, none⟩ = some (.int .i64 qq0) ∧ w'.cell? ⟨w202.heap.size, 1, none⟩ = some (.slice a202_0 (lqq1).length cap202_0) ∧ w'.cell? ⟨w202.heap.size, 2, none⟩ = some (.slice a202_1 (lqq2).length cap202_1) ∧ w'.cell? ⟨w260.heap.size, 0, none⟩ = some (.int .i64 aa0) ∧ w'.cell? ⟨w260.heap.size, 1, none⟩ = some (.slice a260_0 (laa1).length cap260_0) ∧ w'.cell? ⟨w331.heap.size, 0, none⟩ = some (.int .i64 bb0) ∧ w'.cell? ⟨w331.heap.size, 1, none⟩ = some (.slice a331_0 (lbb1).length cap331_0) ∧ w'.cell? ⟨w416.heap.size, 0, none⟩ = some (.int .i64 (joiS qq0 lqq1 lqq2 aa0 laa1 bb0 lbb1)) ∧ w'.cell? ⟨w416.heap.size, 1, none⟩ = some (.slice a416_0 ((joiL qq0 lqq1 lqq2 aa0 laa1 bb0 lbb1)).length cap416_0))
      (first
        | go_keep
        | exact ⟨(p548.below (below_of_drew b557)).cell 0, (p548.below (below_of_drew b557)).cell 1, (p548.below (below_of_drew b557)).cell 2, (p549.below (below_of_drew b557)).cell 0, (p549.below (below_of_drew b557)).cell 1, (p550.below (below_of_drew b557)).cell 0, (p550.below (below_of_drew b557)).cell 1, (p551.below (below_of_drew b557)).cell 0, (p551.below (below_of_drew b557)).cell 1, (p552.below (below_of_drew b557)).cell 0, (p552.below (below_of_drew b557)).cell 1, (p552.below (below_of_drew b557)).cell 2, (p553.below (below_of_drew b557)).cell 0, (p553.below (below_of_drew b557)).cell 1, (p554.below (below_of_drew b557)).cell 0, (p554.below (below_of_drew b557)).cell 1, (p555.below (below_of_drew b557)).cell 0, (p555.below (below_of_drew b557)).cell 1⟩
        | exact ⟨((p548.below (below_of_drew b557)).below b558).cell 0, ((p548.below (below_of_drew b557)).below b558).cell 1, ((p548.below (below_of_drew b557)).below b558).cell 2, ((p549.below (below_of_drew b557)).below b558).cell 0, ((p549.below (below_of_drew b557)).below b558).cell 1, ((p550.below (below_of_drew b557)).below b558).cell 0, ((p550.below (below_of_drew b557)).below b558).cell 1, ((p551.below (below_of_drew b557)).below b558).cell 0, ((p551.below (below_of_drew b557)).below b558).cell 1, ((p552.below (below_of_drew b557)).below b558).cell 0, ((p552.below (below_of_drew b557)).below b558).cell 1, ((p552.below (below_of_drew b557)).below b558).cell 2, ((p553.below (below_of_drew b557)).below b558).cell 0, ((p553.below (below_of_drew b557)).below b558).cell 1, ((p554.below (below_of_drew b557)).below b558).cell 0, ((p554.below (below_of_drew b557)).below b558).cell 1, ((p555.below (below_of_drew b557)).below b558).cell 0, ((p555.below (below_of_drew b557)).below b558).cell 1⟩)
      (first
        | (go_at_call 13; (with_reducible refine (l_toQuiver _ _ _ lqq1 lqq2 _ (Rqq1.out.below hb556).drew (Rqq2.out.below hb556).drew (by omega) (by omega)).mono ?_); rintro e w557 ⟨v557_0, v557_1, rfl, h557_0, h557_1, f557_0, f557_1, s557_01, b557⟩)
        | (go_at_call 15; (with_reducible refine (l_eqQuiver _ _ _ _ _ _ _ _ _ _ _ (h543.below (below_of_drew b557)) (h544.below (below_of_drew b557)) h557_0 h557_1).mono ?_); rintro e w558 ⟨rfl, b558⟩))
    clear k559 k560 k561 k562 k563 k564 k565 k566 k567 k568 k569 k570 k571 k572 k573 k574 k575 k576 k577 k578 k579 k580 k581 k582 k583 k584
    have Db557 := below_of_drew b557
    have h585 := h542.below Db557
    have h586 := h543.below Db557
    have h587 := h544.below Db557
    have h588 := h545.below Db557
    have h589 := h546.below Db557
    have h590 := h547.below Db557
    have p591 := p548.below Db557
    have p592 := p549.below Db557
    have p593 := p550.below Db557
    have p594 := p551.below Db557
    have p595 := p552.below Db557
    have p596 := p553.below Db557
    have p597 := p554.below Db557
    have p598 := p555.below Db557
    have hb599 := below_call hb556 Db557 hb556.size
    have h600 := h585.below b558
    have h601 := h586.below b558
    have h602 := h587.below b558
    have h603 := h588.below b558
    have h604 := h589.below b558
    have h605 := h590.below b558
    have p606 := p591.below b558
    have p607 := p592.below b558
    have p608 := p593.below b558
    have p609 := p594.below b558
    have p610 := p595.below b558
    have p611 := p596.below b558
    have p612 := p597.below b558
    have p613 := p598.below b558
    have hb614 := below_call hb599 b558 hb599.size
    have e616 := eqP_refl aa0 laa1
    obtain ⟨k617, k618, k619⟩ := blk3 p606
    have k620 := p606.lt
    obtain ⟨k621, k622⟩ := blk2 p607
    have k623 := p607.lt
    obtain ⟨k624, k625⟩ := blk2 p608
    have k626 := p608.lt
    obtain ⟨k627, k628⟩ := blk2 p609
    have k629 := p609.lt
    obtain ⟨k630, k631, k632⟩ := blk3 p610
    have k633 := p610.lt
    obtain ⟨k634, k635⟩ := blk2 p611
    have k636 := p611.lt
    obtain ⟨k637, k638⟩ := blk2 p612
    have k639 := p612.lt
    obtain ⟨k640, k641⟩ := blk2 p613
    have k642 := p613.lt
    go_wp2_with fail
    go_region_held3 (fun w' => w'.cell? ⟨w.heap.size, 0, none⟩ = some (.int .i64 qq0) ∧ w'.cell? ⟨w.heap.size, 1, none⟩ = some (.slice a_qq1 lqq1.length cap_qq1) ∧ w'.cell? ⟨w.heap.size, 2, none⟩ = some (.slice a_qq2 lqq2.length cap_qq2) ∧ w'.cell? ⟨w.heap.size + 1, 0, none⟩ = some (.int .i64 aa0) ∧ w'.cell? ⟨w.heap.size + 1, 1, none⟩ = some (.slice a_aa1 laa1.length cap_aa1) ∧ w'.cell? ⟨w.heap.size + 1 + 1, 0, none⟩ = some (.int .i64 bb0) ∧ w'.cell? ⟨w.heap.size + 1 + 1, 1, none⟩ = some (.slice a_bb1 lbb1.length cap_bb1) ∧ w'.cell? ⟨gg194, 0, none⟩ = some (.int .i64 (joiS qq0 lqq1 lqq2 aa0 laa1 bb0 lbb1)) ∧ w'.cell? ⟨gg194, 1, none⟩ = some (.slice a194 ((joiL qq0 lqq1 lqq2 aa0 laa1 bb0 lbb1)).length cap194) ∧ w'.cell? ⟨w202.heap.size, 0, none⟩ = some (.int .i64 qq0) ∧ w'.cell? ⟨w202.heap.size, 1, none⟩ = some (.slice a202_0 (lqq1).length cap202_0) ∧ w'.cell? ⟨w202.heap.size, 2, none⟩ = some (.slice a202_1 (lqq2).length cap202_1) ∧ w'.cell? ⟨w260.heap.size, 0, none⟩ = some (.int .i64 aa0) ∧ w'.cell? ⟨w260.heap.size, 1, none⟩ = some (.slice a260_0 (laa1).length cap260_0) ∧ w'.cell? ⟨w331.heap.size, 0, none⟩ = some (.int .i64 bb0) ∧ w'.cell? ⟨w331.heap.size, 1, none⟩ = some (.slice a331_0 (lbb1).length cap331_0) ∧ w'.cell? ⟨w416.heap.size, 0, none⟩ = some (.int .i64 (joiS qq0 lqq1 lqq2 aa0 laa1 bb0 lbb1)) ∧ w'.cell? ⟨w416.heap.size, 1, none⟩ = some (.slice a416_0 ((joiL qq0 lqq1 lqq2 aa0 laa1 bb0 lbb1)).length cap416_0))
      (first
        | go_keep
        | exact ⟨(p606.below (below_of_drew b615)).cell 0, (p606.below (below_of_drew b615)).cell 1, (p606.below (below_of_drew b615)).cell 2, (p607.below (below_of_drew b615)).cell 0, (p607.below (below_of_drew b615)).cell 1, (p608.below (below_of_drew b615)).cell 0, (p608.below (below_of_drew b615)).cell 1, (p609.below (below_of_drew b615)).cell 0, (p609.below (below_of_drew b615)).cell 1, (p610.below (below_of_drew b615)).cell 0, (p610.below (below_of_drew b615)).cell 1, (p610.below (below_of_drew b615)).cell 2, (p611.below (below_of_drew b615)).cell 0, (p611.below (below_of_drew b615)).cell 1, (p612.below (below_of_drew b615)).cell 0, (p612.below (below_of_drew b615)).cell 1, (p613.below (below_of_drew b615)).cell 0, (p613.below (below_of_drew b615)).cell 1⟩
        | exact ⟨((p606.below (below_of_drew b615)).below b616).cell 0, ((p606.below (below_of_drew b615)).below b616).cell 1, ((p606.below (below_of_drew b615)).below b616).cell 2, ((p607.below (below_of_drew b615)).below b616).cell 0, ((p607.below (below_of_drew b615)).below b616).cell 1, ((p608.below (below_of_drew b615)).below b616).cell 0, ((p608.below (below_of_drew b615)).below b616).cell 1, ((p609.below (below_of_drew b615)).below b616).cell 0, ((p609.below (below_of_drew b615)).below b616).cell 1, ((p610.below (below_of_drew b615)).below b616).cell 0, ((p610.below (below_of_drew b615)).below b616).cell 1, ((p610.below (below_of_drew b615)).below b616).cell 2, ((p611.below (below_of_drew b615)).below b616).cell 0, ((p611.below (below_of_drew b615)).below b616).cell 1, ((p612.below (below_of_drew b615)).below b616).cell 0, ((p612.below (below_of_drew b615)).below b616).cell 1, ((p613.below (below_of_drew b615)).below b616).cell 0, ((p613.below (below_of_drew b615)).below b616).cell 1⟩)
      (first
        | (go_at_call 24; (with_reducible refine (l_toPath _ _ laa1 _ (Raa1.out.below hb614).drew (by omega)).mono ?_); rintro e w615 ⟨v615_0, rfl, h615_0, f615_0, b615⟩)
        | (go_at_call 26; (with_reducible refine (l_eqPath _ _ _ _ _ _ _ (h603.below (below_of_drew b615)) h615_0).mono ?_); rintro e w616 ⟨rfl, b616⟩))
    clear k617 k618 k619 k620 k621 k622 k623 k624 k625 k626 k627 k628 k629 k630 k631 k632 k633 k634 k635 k636 k637 k638 k639 k640 k641 k642
    have Db615 := below_of_drew b615
    have h643 := h600.below Db615
    have h644 := h601.below Db615
    have h645 := h602.below Db615
    have h646 := h603.below Db615
    have h647 := h604.below Db615
    have h648 := h605.below Db615
    have p649 := p606.below Db615
    have p650 := p607.below Db615
    have p651 := p608.below Db615
    have p652 := p609.below Db615
    have p653 := p610.below Db615
    have p654 := p611.below Db615
    have p655 := p612.below Db615
    have p656 := p613.below Db615
    have hb657 := below_call hb614 Db615 hb614.size
    have h658 := h643.below b616
    have h659 := h644.below b616
    have h660 := h645.below b616
    have h661 := h646.below b616
    have h662 := h647.below b616
    have h663 := h648.below b616
    have p664 := p649.below b616
    have p665 := p650.below b616
    have p666 := p651.below b616
    have p667 := p652.below b616
    have p668 := p653.below b616
    have p669 := p654.below b616
    have p670 := p655.below b616
    have p671 := p656.below b616
    have hb672 := below_call hb657 b616 hb657.size
    have e674 := eqP_refl bb0 lbb1
    obtain ⟨k675, k676, k677⟩ := blk3 p664
    have k678 := p664.lt
    obtain ⟨k679, k680⟩ := blk2 p665
    have k681 := p665.lt
    obtain ⟨k682, k683⟩ := blk2 p666
    have k684 := p666.lt
    obtain ⟨k685, k686⟩ := blk2 p667
    have k687 := p667.lt
    obtain ⟨k688, k689, k690⟩ := blk3 p668
    have k691 := p668.lt
    obtain ⟨k692, k693⟩ := blk2 p669
    have k694 := p669.lt
    obtain ⟨k695, k696⟩ := blk2 p670
    have k697 := p670.lt
    obtain ⟨k698, k699⟩ := blk2 p671
    have k700 := p671.lt
    go_wp2_with fail
    go_region_held3 (fun w' => w'.cell? ⟨w.heap.size, 0, none⟩ = some (.int .i64 qq0) ∧ w'.cell? ⟨w.heap.size, 1, none⟩ = some (.slice a_qq1 lqq1.length cap_qq1) ∧ w'.cell? ⟨w.heap.size, 2, none⟩ = some (.slice a_qq2 lqq2.length cap_qq2) ∧ w'.cell? ⟨w.heap.size + 1, 0, none⟩ = some (.int .i64 aa0) ∧ w'.cell? ⟨w.heap.size + 1, 1, none⟩ = some (.slice a_aa1 laa1.length cap_aa1) ∧ w'.cell? ⟨w.heap.size + 1 + 1, 0, none⟩ = some (.int .i64 bb0) ∧ w'.cell? ⟨w.heap.size + 1 + 1, 1, none⟩ = some (.slice a_bb1 lbb1.length cap_bb1) ∧ w'.cell? ⟨gg194, 0, none⟩ = some (.int .i64 (joiS qq0 lqq1 lqq2 aa0 laa1 bb0 lbb1)) ∧ w'.cell? ⟨gg194, 1, none⟩ = some (.slice a194 ((joiL qq0 lqq1 lqq2 aa0 laa1 bb0 lbb1)).length cap194) ∧ w'.cell? ⟨w202.heap.size, 0, none⟩ = some (.int .i64 qq0) ∧ w'.cell? ⟨w202.heap.size, 1, none⟩ = some (.slice a202_0 (lqq1).length cap202_0) ∧ w'.cell? ⟨w202.heap.size, 2, none⟩ = some (.slice a202_1 (lqq2).length cap202_1) ∧ w'.cell? ⟨w260.heap.size, 0, none⟩ = some (.int .i64 aa0) ∧ w'.cell? ⟨w260.heap.size, 1, none⟩ = some (.slice a260_0 (laa1).length cap260_0) ∧ w'.cell? ⟨w331.heap.size, 0, none⟩ = some (.int .i64 bb0) ∧ w'.cell? ⟨w331.heap.size, 1, none⟩ = some (.slice a331_0 (lbb1).length cap331_0) ∧ w'.cell? ⟨w416.heap.size, 0, none⟩ = some (.int .i64 (joiS qq0 lqq1 lqq2 aa0 laa1 bb0 lbb1)) ∧ w'.cell? ⟨w416.heap.size, 1, none⟩ = some (.slice a416_0 ((joiL qq0 lqq1 lqq2 aa0 laa1 bb0 lbb1)).length cap416_0))
      (first
        | go_keep
        | exact ⟨(p664.below (below_of_drew b673)).cell 0, (p664.below (below_of_drew b673)).cell 1, (p664.below (below_of_drew b673)).cell 2, (p665.below (below_of_drew b673)).cell 0, (p665.below (below_of_drew b673)).cell 1, (p666.below (below_of_drew b673)).cell 0, (p666.below (below_of_drew b673)).cell 1, (p667.below (below_of_drew b673)).cell 0, (p667.below (below_of_drew b673)).cell 1, (p668.below (below_of_drew b673)).cell 0, (p668.below (below_of_drew b673)).cell 1, (p668.below (below_of_drew b673)).cell 2, (p669.below (below_of_drew b673)).cell 0, (p669.below (below_of_drew b673)).cell 1, (p670.below (below_of_drew b673)).cell 0, (p670.below (below_of_drew b673)).cell 1, (p671.below (below_of_drew b673)).cell 0, (p671.below (below_of_drew b673)).cell 1⟩
        | exact ⟨((p664.below (below_of_drew b673)).below b674).cell 0, ((p664.below (below_of_drew b673)).below b674).cell 1, ((p664.below (below_of_drew b673)).below b674).cell 2, ((p665.below (below_of_drew b673)).below b674).cell 0, ((p665.below (below_of_drew b673)).below b674).cell 1, ((p666.below (below_of_drew b673)).below b674).cell 0, ((p666.below (below_of_drew b673)).below b674).cell 1, ((p667.below (below_of_drew b673)).below b674).cell 0, ((p667.below (below_of_drew b673)).below b674).cell 1, ((p668.below (below_of_drew b673)).below b674).cell 0, ((p668.below (below_of_drew b673)).below b674).cell 1, ((p668.below (below_of_drew b673)).below b674).cell 2, ((p669.below (below_of_drew b673)).below b674).cell 0, ((p669.below (below_of_drew b673)).below b674).cell 1, ((p670.below (below_of_drew b673)).below b674).cell 0, ((p670.below (below_of_drew b673)).below b674).cell 1, ((p671.below (below_of_drew b673)).below b674).cell 0, ((p671.below (below_of_drew b673)).below b674).cell 1⟩)
      (first
        | (go_at_call 24; (with_reducible refine (l_toPath _ _ lbb1 _ (Rbb1.out.below hb672).drew (by omega)).mono ?_); rintro e w673 ⟨v673_0, rfl, h673_0, f673_0, b673⟩)
        | (go_at_call 26; (with_reducible refine (l_eqPath _ _ _ _ _ _ _ (h662.below (below_of_drew b673)) h673_0).mono ?_); rintro e w674 ⟨rfl, b674⟩))
    clear k675 k676 k677 k678 k679 k680 k681 k682 k683 k684 k685 k686 k687 k688 k689 k690 k691 k692 k693 k694 k695 k696 k697 k698 k699 k700
    have Db673 := below_of_drew b673
    have h701 := h658.below Db673
    have h702 := h659.below Db673
    have h703 := h660.below Db673
    have h704 := h661.below Db673
    have h705 := h662.below Db673
    have h706 := h663.below Db673
    have p707 := p664.below Db673
    have p708 := p665.below Db673
    have p709 := p666.below Db673
    have p710 := p667.below Db673
    have p711 := p668.below Db673
    have p712 := p669.below Db673
    have p713 := p670.below Db673
    have p714 := p671.below Db673
    have hb715 := below_call hb672 Db673 hb672.size
    have h716 := h701.below b674
    have h717 := h702.below b674
    have h718 := h703.below b674
    have h719 := h704.below b674
    have h720 := h705.below b674
    have h721 := h706.below b674
    have p722 := p707.below b674
    have p723 := p708.below b674
    have p724 := p709.below b674
    have p725 := p710.below b674
    have p726 := p711.below b674
    have p727 := p712.below b674
    have p728 := p713.below b674
    have p729 := p714.below b674
    have hb730 := below_call hb715 b674 hb715.size
    obtain ⟨k732, k733, k734⟩ := blk3 p722
    have k735 := p722.lt
    obtain ⟨k736, k737⟩ := blk2 p723
    have k738 := p723.lt
    obtain ⟨k739, k740⟩ := blk2 p724
    have k741 := p724.lt
    obtain ⟨k742, k743⟩ := blk2 p725
    have k744 := p725.lt
    obtain ⟨k745, k746, k747⟩ := blk3 p726
    have k748 := p726.lt
    obtain ⟨k749, k750⟩ := blk2 p727
    have k751 := p727.lt
    obtain ⟨k752, k753⟩ := blk2 p728
    have k754 := p728.lt
    obtain ⟨k755, k756⟩ := blk2 p729
    have k757 := p729.lt
    go_wp2_with fail
    refine (l_markQuiver _ _ _ lqq1 lqq2 _ _ h717 h718 Ss202_01.out (by omega) (by omega)).mono ?_; rintro e w731 ⟨rfl, h731_0, h731_1, c731⟩
    clear k732 k733 k734 k735 k736 k737 k738 k739 k740 k741 k742 k743 k744 k745 k746 k747 k748 k749 k750 k751 k752 k753 k754 k755 k756 k757
    have p758 := p722.chg c731 (fun h => h.elim sb224.out sb230.out)
    have p759 := p723.chg c731 (fun h => h.elim sb225.out sb231.out)
    have p760 := p724.chg c731 (fun h => h.elim sb226.out sb232.out)
    have p761 := p725.chg c731 (fun h => h.elim sb227.out sb233.out)
    have p762 := p726.chg c731 (fun h => h.elim sb248.out sb249.out)
    have p763 := p727.chg c731 (fun h => h.elim sb316.out sb317.out)
    have p764 := p728.chg c731 (fun h => h.elim sb398.out sb399.out)
    have p765 := p729.chg c731 (fun h => h.elim sb494.out sb495.out)
    have h766 := h716.chg c731 (fun q hq h => h.elim (sp222.out q hq) (sp228.out q hq))
    have h767 := h719.chg c731 (fun q hq h => h.elim (sp290.out q hq) (sp292.out q hq))
    have h768 := h720.chg c731 (fun q hq h => h.elim (sp366.out q hq) (sp368.out q hq))
    have h769 := h721.chg c731 (fun q hq h => h.elim (sp456.out q hq) (sp458.out q hq))
    have hb770 := below_chg hb730 c731 hb730.size (fun k h => h.elim (fun h => Nat.le_trans hb198.size (Ff202_0.out k h)) (fun h => Nat.le_trans hb198.size (Ff202_1.out k h)))
    obtain ⟨k772, k773, k774⟩ := blk3 p758
    have k775 := p758.lt
    obtain ⟨k776, k777⟩ := blk2 p759
    have k778 := p759.lt
    obtain ⟨k779, k780⟩ := blk2 p760
    have k781 := p760.lt
    obtain ⟨k782, k783⟩ := blk2 p761
    have k784 := p761.lt
    obtain ⟨k785, k786, k787⟩ := blk3 p762
    have k788 := p762.lt
    obtain ⟨k789, k790⟩ := blk2 p763
    have k791 := p763.lt
    obtain ⟨k792, k793⟩ := blk2 p764
    have k794 := p764.lt
    obtain ⟨k795, k796⟩ := blk2 p765
    have k797 := p765.lt
    go_wp2_with fail
    refine (l_markPath _ _ laa1 _ _ h767 (by omega) (by omega)).mono ?_; rintro e w771 ⟨rfl, h771_0, c771⟩
    clear k772 k773 k774 k775 k776 k777 k778 k779 k780 k781 k782 k783 k784 k785 k786 k787 k788 k789 k790 k791 k792 k793 k794 k795 k796 k797
    have p798 := p758.chg c771 sb293.out
    have p799 := p759.chg c771 sb294.out
    have p800 := p760.chg c771 sb295.out
    have p801 := p761.chg c771 sb296.out
    have p802 := p762.chg c771 sb297.out
    have p803 := p763.chg c771 sb318.out
    have p804 := p764.chg c771 sb400.out
    have p805 := p765.chg c771 sb496.out
    have h806 := h766.chg c771 sp287.out
    have h807 := h731_0.chg c771 sp289.out
    have h808 := h731_1.chg c771 sp291.out
    have h809 := h768.chg c771 sp370.out
    have h810 := h769.chg c771 sp460.out
    have hb811 := below_chg hb770 c771 hb770.size (fun k h => Nat.le_trans hb258.size (Ff260_0.out k h))
    obtain ⟨k813, k814, k815⟩ := blk3 p798
    have k816 := p798.lt
    obtain ⟨k817, k818⟩ := blk2 p799
    have k819 := p799.lt
    obtain ⟨k820, k821⟩ := blk2 p800
    have k822 := p800.lt
    obtain ⟨k823, k824⟩ := blk2 p801
    have k825 := p801.lt
    obtain ⟨k826, k827, k828⟩ := blk3 p802
    have k829 := p802.lt
    obtain ⟨k830, k831⟩ := blk2 p803
    have k832 := p803.lt
    obtain ⟨k833, k834⟩ := blk2 p804
    have k835 := p804.lt
    obtain ⟨k836, k837⟩ := blk2 p805
    have k838 := p805.lt
    go_wp2_with fail
    refine (l_markPath _ _ lbb1 _ _ h809 (by omega) (by omega)).mono ?_; rintro e w812 ⟨rfl, h812_0, c812⟩
    clear k813 k814 k815 k816 k817 k818 k819 k820 k821 k822 k823 k824 k825 k826 k827 k828 k829 k830 k831 k832 k833 k834 k835 k836 k837 k838
    have p839 := p798.chg c812 sb371.out
    have p840 := p799.chg c812 sb372.out
    have p841 := p800.chg c812 sb373.out
    have p842 := p801.chg c812 sb374.out
    have p843 := p802.chg c812 sb375.out
    have p844 := p803.chg c812 sb376.out
    have p845 := p804.chg c812 sb401.out
    have p846 := p805.chg c812 sb497.out
    have h847 := h806.chg c812 sp363.out
    have h848 := h807.chg c812 sp365.out
    have h849 := h808.chg c812 sp367.out
    have h850 := h771_0.chg c812 sp369.out
    have h851 := h810.chg c812 sp462.out
    have hb852 := below_chg hb811 c812 hb811.size (fun k h => Nat.le_trans hb329.size (Ff331_0.out k h))
    have e853 := eqP_refl (joiS qq0 lqq1 lqq2 aa0 laa1 bb0 lbb1) (joiL qq0 lqq1 lqq2 aa0 laa1 bb0 lbb1)
    obtain ⟨k854, k855, k856⟩ := blk3 p839
    have k857 := p839.lt
    obtain ⟨k858, k859⟩ := blk2 p840
    have k860 := p840.lt
    obtain ⟨k861, k862⟩ := blk2 p841
    have k863 := p841.lt
    obtain ⟨k864, k865⟩ := blk2 p842
    have k866 := p842.lt
    obtain ⟨k867, k868, k869⟩ := blk3 p843
    have k870 := p843.lt
    obtain ⟨k871, k872⟩ := blk2 p844
    have k873 := p844.lt
    obtain ⟨k874, k875⟩ := blk2 p845
    have k876 := p845.lt
    obtain ⟨k877, k878⟩ := blk2 p846
    have k879 := p846.lt
    go_wp2_with fail
    refine (l_eqPath _ _ _ _ _ _ _ h851 h847).mono ?_; rintro e w853 ⟨rfl, b853⟩
    clear k854 k855 k856 k857 k858 k859 k860 k861 k862 k863 k864 k865 k866 k867 k868 k869 k870 k871 k872 k873 k874 k875 k876 k877 k878 k879
    have h880 := h847.below b853
    have h881 := h848.below b853
    have h882 := h849.below b853
    have h883 := h850.below b853
    have h884 := h812_0.below b853
    have h885 := h851.below b853
    have p886 := p839.below b853
    have p887 := p840.below b853
    have p888 := p841.below b853
    have p889 := p842.below b853
    have p890 := p843.below b853
    have p891 := p844.below b853
    have p892 := p845.below b853
    have p893 := p846.below b853
    have hb894 := below_call hb852 b853 hb852.size
    obtain ⟨k896, k897, k898⟩ := blk3 p886
    have k899 := p886.lt
    obtain ⟨k900, k901⟩ := blk2 p887
    have k902 := p887.lt
    obtain ⟨k903, k904⟩ := blk2 p888
    have k905 := p888.lt
    obtain ⟨k906, k907⟩ := blk2 p889
    have k908 := p889.lt
    obtain ⟨k909, k910⟩ := blk2 p893
    have k911 := p893.lt
    go_wp2_with fail
    refine (l_markPath _ _ (joiL qq0 lqq1 lqq2 aa0 laa1 bb0 lbb1) _ _ h885 (by omega) (by omega)).mono ?_; rintro e w895 ⟨rfl, h895_0, c895⟩
    clear k896 k897 k898 k899 k900 k901 k902 k903 k904 k905 k906 k907 k908 k909 k910 k911
    have p912 := p886.chg c895 sb463.out
    have p913 := p887.chg c895 sb464.out
    have p914 := p888.chg c895 sb465.out
    have p915 := p889.chg c895 sb466.out
    have p916 := p893.chg c895 sb498.out
    have h917 := h880.chg c895 sp453.out
    have hb918 := below_chg hb894 c895 hb894.size (fun k h => Nat.le_trans hb414.size (Ff416_0.out k h))
    obtain ⟨k920, k921, k922⟩ := blk3 p912
    have k923 := p912.lt
    obtain ⟨k924, k925⟩ := blk2 p913
    have k926 := p913.lt
    obtain ⟨k927, k928⟩ := blk2 p914
    have k929 := p914.lt
    obtain ⟨k930, k931⟩ := blk2 p915
    have k932 := p915.lt
    obtain ⟨k933, k934⟩ := blk2 p916
    have k935 := p916.lt
    go_wp2_with fail
    refine (l_heldPath _ _ _ _ _ h895_0 (by omega) (by omega)).mono ?_; rintro e w919 ⟨rfl, b919⟩
    clear k920 k921 k922 k923 k924 k925 k926 k927 k928 k929 k930 k931 k932 k933 k934 k935
    have h936 := h917.below b919
    have h937 := h895_0.below b919
    have p938 := p912.below b919
    have p939 := p913.below b919
    have p940 := p914.below b919
    have p941 := p915.below b919
    have p942 := p916.below b919
    have hb943 := below_call hb918 b919 hb918.size
    obtain ⟨k945, k946, k947⟩ := blk3 p938
    have k948 := p938.lt
    obtain ⟨k949, k950⟩ := blk2 p939
    have k951 := p939.lt
    obtain ⟨k952, k953⟩ := blk2 p940
    have k954 := p940.lt
    obtain ⟨k955, k956⟩ := blk2 p941
    have k957 := p941.lt
    obtain ⟨k958, k959⟩ := blk2 p942
    have k960 := p942.lt
    have HS944 := Lib.hid (fun (w' : World) (hb : Below w919.heap.size w919 w') => (show (w'.cell? ⟨w.heap.size, 0, none⟩ = some (.int .i64 qq0) ∧ w'.cell? ⟨w.heap.size, 1, none⟩ = some (.slice a_qq1 lqq1.length cap_qq1) ∧ w'.cell? ⟨w.heap.size, 2, none⟩ = some (.slice a_qq2 lqq2.length cap_qq2) ∧ w'.cell? ⟨w.heap.size + 1, 0, none⟩ = some (.int .i64 aa0) ∧ w'.cell? ⟨w.heap.size + 1, 1, none⟩ = some (.slice a_aa1 laa1.length cap_aa1) ∧ w'.cell? ⟨w.heap.size + 1 + 1, 0, none⟩ = some (.int .i64 bb0) ∧ w'.cell? ⟨w.heap.size + 1 + 1, 1, none⟩ = some (.slice a_bb1 lbb1.length cap_bb1) ∧ w'.cell? ⟨gg194, 0, none⟩ = some (.int .i64 (joiS qq0 lqq1 lqq2 aa0 laa1 bb0 lbb1)) ∧ w'.cell? ⟨gg194, 1, none⟩ = some (.slice a194 ((joiL qq0 lqq1 lqq2 aa0 laa1 bb0 lbb1)).length cap194) ∧ w'.cell? ⟨w416.heap.size, 0, none⟩ = some (.int .i64 (joiS qq0 lqq1 lqq2 aa0 laa1 bb0 lbb1)) ∧ w'.cell? ⟨w416.heap.size, 1, none⟩ = some (.slice a416_0 ((joiL qq0 lqq1 lqq2 aa0 laa1 bb0 lbb1)).length cap416_0)) ∧ Below w919.heap.size w919 w' from ⟨⟨(p938.below hb).cell 0, (p938.below hb).cell 1, (p938.below hb).cell 2, (p939.below hb).cell 0, (p939.below hb).cell 1, (p940.below hb).cell 0, (p940.below hb).cell 1, (p941.below hb).cell 0, (p941.below hb).cell 1, (p942.below hb).cell 0, (p942.below hb).cell 1⟩, hb⟩))
    go_upto_region 38 with fail
    go_cut [18, 19] (fun sp sb wx => ∃ gg : Nat, sp = .pointer (some ⟨gg, 0, none⟩) ∧ sb = .bool (joiOK qq0 lqq1 lqq2 aa0 laa1 bb0 lbb1) ∧ In2 39 w919 gg (.int .i64 (joiS qq0 lqq1 lqq2 aa0 laa1 bb0 lbb1)) (joiL qq0 lqq1 lqq2 aa0 laa1 bb0 lbb1) wx)
    case first =>
      go_region_held3 (fun w' => (w'.cell? ⟨w.heap.size, 0, none⟩ = some (.int .i64 qq0) ∧ w'.cell? ⟨w.heap.size, 1, none⟩ = some (.slice a_qq1 lqq1.length cap_qq1) ∧ w'.cell? ⟨w.heap.size, 2, none⟩ = some (.slice a_qq2 lqq2.length cap_qq2) ∧ w'.cell? ⟨w.heap.size + 1, 0, none⟩ = some (.int .i64 aa0) ∧ w'.cell? ⟨w.heap.size + 1, 1, none⟩ = some (.slice a_aa1 laa1.length cap_aa1) ∧ w'.cell? ⟨w.heap.size + 1 + 1, 0, none⟩ = some (.int .i64 bb0) ∧ w'.cell? ⟨w.heap.size + 1 + 1, 1, none⟩ = some (.slice a_bb1 lbb1.length cap_bb1) ∧ w'.cell? ⟨gg194, 0, none⟩ = some (.int .i64 (joiS qq0 lqq1 lqq2 aa0 laa1 bb0 lbb1)) ∧ w'.cell? ⟨gg194, 1, none⟩ = some (.slice a194 ((joiL qq0 lqq1 lqq2 aa0 laa1 bb0 lbb1)).length cap194) ∧ w'.cell? ⟨w416.heap.size, 0, none⟩ = some (.int .i64 (joiS qq0 lqq1 lqq2 aa0 laa1 bb0 lbb1)) ∧ w'.cell? ⟨w416.heap.size, 1, none⟩ = some (.slice a416_0 ((joiL qq0 lqq1 lqq2 aa0 laa1 bb0 lbb1)).length cap416_0)) ∧ Below w919.heap.size w919 w')
        (first
          | with_reducible exact (HS944.out _ ((Below.refl _ _).drew))
          | with_reducible exact (HS944.out _ (held_call ‹_ ∧ Below _ _ _› ‹Below _ _ _›))
          | with_reducible exact (HS944.out _ (held_allocd ‹_ ∧ Below _ _ _› _))
          | with_reducible exact (HS944.out _ (held_alloc ‹_ ∧ Below _ _ _› _))
          | with_reducible exact HS944.out _ ((hpre964.trans (b964.mono hpre964.size)).alloc (hpre964.trans (b964.mono hpre964.size)).size _)
          | exact HS944.out _ (held_set2 ‹_ ∧ Below _ _ _› (by first | exact Nat.le_refl _ | assumption) _ _))
        (first
          | (go_at_call 13; (with_reducible refine (l_toQuiver _ _ _ lqq1 lqq2 _ ?_ ?_ (by omega) (by omega)).mono ?_); (exact ((Rqq1.out.below hb943)).below (And.right ‹_ ∧ Below _ _ _›)); (exact ((Rqq2.out.below hb943)).below (And.right ‹_ ∧ Below _ _ _›)); rintro e w961 ⟨v961_0, v961_1, rfl, h961_0, h961_1, f961_0, f961_1, s961_01, b961⟩; have hgi_b961 := (held_call ‹_ ∧ Below _ _ _› b961).size; (try (have kk0_0 := Blk.below (Blk.drew (Blk.new w919 #[.int .i64 0, .slice none 0 0] 39)) b961)))
          | (go_at_call 24; (with_reducible refine (l_toPath _ _ laa1 _ ?_ (by omega)).mono ?_); (exact ((Raa1.out.below hb943)).below (And.right ‹_ ∧ Below _ _ _›)); rintro e w962 ⟨v962_0, rfl, h962_0, f962_0, b962⟩; (have h961_0' : Ints w962 v961_0 lqq1 := by first | exact h961_0.below b962 | exact (h961_0.below ((Below.refl _ _).alloc (Nat.le_refl _) _)).below b962); (have h961_1' : Ints w962 v961_1 lqq2 := by first | exact h961_1.below b962 | exact (h961_1.below ((Below.refl _ _).alloc (Nat.le_refl _) _)).below b962); have hgi_b962 := (held_call ‹_ ∧ Below _ _ _› b962).size; (try (have kk0_1 := Blk.below kk0_0 b962)); (try (have kk1_1 := Blk.below (Blk.new w961 #[.int .i64 0, .slice none 0 0] 39) b962)))
          | (go_at_call 24; (with_reducible refine (l_toPath _ _ lbb1 _ ?_ (by omega)).mono ?_); (exact ((Rbb1.out.below hb943)).below (And.right ‹_ ∧ Below _ _ _›)); rintro e w963 ⟨v963_0, rfl, h963_0, f963_0, b963⟩; (have h961_0'' : Ints w963 v961_0 lqq1 := by first | exact h961_0'.below b963 | exact (h961_0'.below ((Below.refl _ _).alloc (Nat.le_refl _) _)).below b963); (have h961_1'' : Ints w963 v961_1 lqq2 := by first | exact h961_1'.below b963 | exact (h961_1'.below ((Below.refl _ _).alloc (Nat.le_refl _) _)).below b963); (have h962_0' : Ints w963 v962_0 laa1 := by first | exact h962_0.below b963 | exact (h962_0.below ((Below.refl _ _).alloc (Nat.le_refl _) _)).below b963); have hgi_b963 := (held_call ‹_ ∧ Below _ _ _› b963).size; (try (have kk0_2 := Blk.below kk0_1 b963)); (try (have kk1_2 := Blk.below kk1_1 b963)); (try (have kk2_2 := Blk.below (Blk.new w962 #[.int .i64 0, .slice none 0 0] 39) b963)))
          | (go_at_call 25; (with_reducible refine (i_JoinPaths _ _ _ _ _ _ _ lqq1 lqq2 laa1 lbb1 _ ?_ ?_ ?_ ?_).mono ?_); (first | exact h961_0'' | exact h961_0''.below ((Below.refl _ _).alloc (Nat.le_refl _) _)); (first | exact h961_1'' | exact h961_1''.below ((Below.refl _ _).alloc (Nat.le_refl _) _)); (first | exact h962_0' | exact h962_0'.below ((Below.refl _ _).alloc (Nat.le_refl _) _)); (first | exact h963_0 | exact h963_0.below ((Below.refl _ _).alloc (Nat.le_refl _) _)); rintro e w964 ⟨v964, rfl, hv964, hf964, b964⟩; have hgi_b964 := (held_call ‹_ ∧ Below _ _ _› b964).size; (try (have kk0_3 := Blk.below kk0_2 b964)); (try (have ka0_0 : _ = some (Value.int .i64 0) := kk0_3.cell 0)); (try (have kf0_0 := kk0_3.frozen 0)); (try (have ka0_1 : _ = some (Value.slice none 0 0) := kk0_3.cell 1)); (try (have kf0_1 := kk0_3.frozen 1)); (try (have kl0 := Lib.hid kk0_3; clear kk0_3)); (try (have kk1_3 := Blk.below kk1_2 b964)); (try (have ka1_0 : _ = some (Value.int .i64 0) := kk1_3.cell 0)); (try (have kf1_0 := kk1_3.frozen 0)); (try (have ka1_1 : _ = some (Value.slice none 0 0) := kk1_3.cell 1)); (try (have kf1_1 := kk1_3.frozen 1)); (try (have kl1 := Lib.hid kk1_3; clear kk1_3)); (try (have kk2_3 := Blk.below kk2_2 b964)); (try (have ka2_0 : _ = some (Value.int .i64 0) := kk2_3.cell 0)); (try (have kf2_0 := kk2_3.frozen 0)); (try (have ka2_1 : _ = some (Value.slice none 0 0) := kk2_3.cell 1)); (try (have kf2_1 := kk2_3.frozen 1)); (try (have kl2 := Lib.hid kk2_3; clear kk2_3)); (try (have kk3_3 := Blk.below (Blk.new w963 #[.int .i64 0, .slice none 0 0] 39) b964)); (try (have ka3_0 : _ = some (Value.int .i64 0) := kk3_3.cell 0)); (try (have kf3_0 := kk3_3.frozen 0)); (try (have ka3_1 : _ = some (Value.slice none 0 0) := kk3_3.cell 1)); (try (have kf3_1 := kk3_3.frozen 1)); (try (have kl3 := Lib.hid kk3_3; clear kk3_3)); have hpre964 := And.right ‹_ ∧ Below _ _ _›; obtain ⟨a964, cap964, rfl, _, _⟩ := hv964.shape))
      all_goals (go_wp2_with fail; go_meet; have hfin := hpre964.trans (b964.mono hpre964.size))
      · refine ⟨_, rfl, rfl, ?_⟩
        exact in2_new _ hfin hv964 (fun q hq => Nat.le_trans hpre964.size (hf964 q hq))
      · refine ⟨_, rfl, rfl, ?_⟩
        have hlt := Res2.lt (res2_new w963 (.int .i64 0) (.slice none 0 0) 39)
        have z0 := b961.size
        have z1 := b962.size
        have z2 := b963.size
        skip
        have hge : w919.heap.size ≤ w963.heap.size := Nat.le_trans (Nat.le_trans (b961.size) b962.size) b963.size
        exact in2_mk _ hfin ((res2_new w963 (.int .i64 0) (.slice none 0 0) 39).below b964) hge hv964 (fun q hq => ⟨Nat.le_trans hpre964.size (hf964 q hq), fun e => by have z1 := hf964 q hq; have z2 := hlt; omega⟩)
      · refine ⟨_, rfl, rfl, ?_⟩
        have hlt := Res2.lt ((res2_new w962 (.int .i64 0) (.slice none 0 0) 39).below b963)
        have z0 := b961.size
        have z1 := b962.size
        skip
        have hge : w919.heap.size ≤ w962.heap.size := Nat.le_trans (b961.size) b962.size
        exact in2_mk _ hfin (((res2_new w962 (.int .i64 0) (.slice none 0 0) 39).below b963).below b964) hge hv964 (fun q hq => ⟨Nat.le_trans hpre964.size (hf964 q hq), fun e => by have z1 := hf964 q hq; have z2 := hlt; omega⟩)
      · refine ⟨_, rfl, rfl, ?_⟩
        have hlt := Res2.lt (((res2_new w961 (.int .i64 0) (.slice none 0 0) 39).below b962).below b963)
        have z0 := b961.size
        skip
        have hge : w919.heap.size ≤ w961.heap.size := b961.size
        exact in2_mk _ hfin ((((res2_new w961 (.int .i64 0) (.slice none 0 0) 39).below b962).below b963).below b964) hge hv964 (fun q hq => ⟨Nat.le_trans hpre964.size (hf964 q hq), fun e => by have z1 := hf964 q hq; have z2 := hlt; omega⟩)
      · refine ⟨_, rfl, rfl, ?_⟩
        have hlt := Res2.lt ((((res2_newd w919 (.int .i64 0) (.slice none 0 0) 39).below b961).below b962).below b963)
        have hge := Nat.le_refl w919.heap.size
        exact in2_mk _ hfin (((((res2_newd w919 (.int .i64 0) (.slice none 0 0) 39).below b961).below b962).below b963).below b964) hge hv964 (fun q hq => ⟨Nat.le_trans hpre964.size (hf964 q hq), fun e => by have z1 := hf964 q hq; have z2 := hlt; omega⟩)
    case rest =>
      obtain ⟨gg965, rfl, rfl, v965, p965, h965, f965, ng965, hg965, b965⟩ := hcut
      obtain ⟨w965, rfl⟩ : ∃ x, x = wc := ⟨_, rfl⟩
      clear k945 k946 k947 k948 k949 k950 k951 k952 k953 k954 k955 k956 k957 k958 k959 k960 HS944
      obtain ⟨a965, cap965, rfl, _, _⟩ := h965.shape
      have h966 := h936.below b965
      have h967 := h937.below b965
      have p968 := p938.below b965
      have p969 := p939.below b965
      have p970 := p940.below b965
      have p971 := p941.below b965
      have p972 := p942.below b965
      have hb973 := below_call hb943 b965 hb943.size
      have F965 := Lib.hid f965
      have NG965 := Lib.hid ng965
      have HG965 := Lib.hid hg965
      have sp974 := Lib.hid (sep_new h936 F965.out)
      have sp975 := Lib.hid (sep_symm sp974.out)
      have sb976 := Lib.hid (sep_blk_ge h936 HG965.out)
      have sp977 := Lib.hid (sep_new h937 F965.out)
      have sp978 := Lib.hid (sep_symm sp977.out)
      have sb979 := Lib.hid (sep_blk_ge h937 HG965.out)
      have sb980 := Lib.hid (sep_blk_new p938 F965.out)
      have sb981 := Lib.hid (sep_blk_new p939 F965.out)
      have sb982 := Lib.hid (sep_blk_new p940 F965.out)
      have sb983 := Lib.hid (sep_blk_new p941 F965.out)
      have sb984 := Lib.hid (sep_blk_new p942 F965.out)
      clear f965 ng965 hg965
      have e985 := eqP_refl (joiS qq0 lqq1 lqq2 aa0 laa1 bb0 lbb1) (joiL qq0 lqq1 lqq2 aa0 laa1 bb0 lbb1)
      obtain ⟨k986, k987, k988⟩ := blk3 p968
      have k989 := p968.lt
      obtain ⟨k990, k991⟩ := blk2 p969
      have k992 := p969.lt
      obtain ⟨k993, k994⟩ := blk2 p970
      have k995 := p970.lt
      obtain ⟨k996, k997⟩ := blk2 p971
      have k998 := p971.lt
      obtain ⟨k999, k1000⟩ := blk2 p972
      have k1001 := p972.lt
      obtain ⟨k1002, k1003⟩ := blk2 p965
      have k1004 := p965.lt
      go_wp2_with fail
      refine (l_eqPath _ _ _ _ _ _ _ h965 h966).mono ?_; rintro e w985 ⟨rfl, b985⟩
      clear k986 k987 k988 k989 k990 k991 k992 k993 k994 k995 k996 k997 k998 k999 k1000 k1001 k1002 k1003 k1004
      have h1005 := h966.below b985
      have h1006 := h967.below b985
      have h1007 := h965.below b985
      have p1008 := p968.below b985
      have p1009 := p969.below b985
      have p1010 := p970.below b985
      have p1011 := p971.below b985
      have p1012 := p972.below b985
      have p1013 := p965.below b985
      have hb1014 := below_call hb973 b985 hb973.size
      obtain ⟨k1016, k1017, k1018⟩ := blk3 p1008
      have k1019 := p1008.lt
      obtain ⟨k1020, k1021⟩ := blk2 p1009
      have k1022 := p1009.lt
      obtain ⟨k1023, k1024⟩ := blk2 p1010
      have k1025 := p1010.lt
      obtain ⟨k1026, k1027⟩ := blk2 p1012
      have k1028 := p1012.lt
      go_wp2_with fail
      refine (l_heldPath _ _ _ _ _ h1006 (by omega) (by omega)).mono ?_; rintro e w1015 ⟨rfl, b1015⟩
      clear k1016 k1017 k1018 k1019 k1020 k1021 k1022 k1023 k1024 k1025 k1026 k1027 k1028
      have h1029 := h1006.below b1015
      have p1030 := p1008.below b1015
      have p1031 := p1009.below b1015
      have p1032 := p1010.below b1015
      have p1033 := p1012.below b1015
      have hb1034 := below_call hb1014 b1015 hb1014.size
      obtain ⟨k1035, k1036, k1037⟩ := blk3 p1030
      have k1038 := p1030.lt
      obtain ⟨k1039, k1040⟩ := blk2 p1031
      have k1041 := p1031.lt
      obtain ⟨k1042, k1043⟩ := blk2 p1032
      have k1044 := p1032.lt
      obtain ⟨k1045, k1046⟩ := blk2 p1033
      have k1047 := p1033.lt
      go_wp2
      go_ret
      exact ⟨rfl, hb1034⟩

end Go.Proofs.Ytjgmiohaepcpbaa
