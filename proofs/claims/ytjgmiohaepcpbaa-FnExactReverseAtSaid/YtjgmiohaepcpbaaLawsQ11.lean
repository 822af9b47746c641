/- The walk of the law ReverseAt. -/
import Derived.Test.YtjgmiohaepcpbaaRevS
import Derived.Test.YtjgmiohaepcpbaaPathV
namespace Go.Proofs.Ytjgmiohaepcpbaa
open Go.RowKit
set_option linter.unusedVariables false
set_option linter.unusedSimpArgs false

theorem revL_len (n : Int) (f t : List Int) (v : Int) : (revL n f t f t v).length ≤ 6 ∧ (revL n f t t f v).length ≤ 6 := by
  unfold revL
  cases h : revOK n f t v
  · simp
  · have := isQ_l6 (revOK_isQ h)
    simp only [if_true, revK_len]
    omega
set_option maxRecDepth 100000 in
set_option maxHeartbeats 4000000 in
set_option linter.unusedVariables false in
theorem law_FnExactReverseAt (qq0 : Int) (qq1 : Value) (lqq1 : List Int) (qq2 : Value) (lqq2 : List Int) (v : Int) (w : World) (wf_qq0 : (Lit.int .i64 qq0).wf = true) (rqq1 : Raw w qq1 lqq1) (bdqq1 : Bd lqq1) (rqq2 : Raw w qq2 lqq2) (bdqq2 : Bd lqq2) (wf_v : (Lit.int .i64 v).wf = true) :
    Calls Try.prog 5 #[.agg #[.int .i64 qq0, qq1, qq2], .int .i64 v] w fun e w' => e = .returned (.bool true) ∧ Below w.heap.size w w' := by
  obtain ⟨lo_qq0, hi_qq0⟩ := wf_i64 wf_qq0
  clear wf_qq0
  have Rqq1 := Lib.hid rqq1
  have BDqq1 := Lib.hid bdqq1
  obtain ⟨a_qq1, cap_qq1, rfl, hlc_qq1, hcm_qq1⟩ := rqq1.shape
  clear rqq1 bdqq1
  have Rqq2 := Lib.hid rqq2
  have BDqq2 := Lib.hid bdqq2
  obtain ⟨a_qq2, cap_qq2, rfl, hlc_qq2, hcm_qq2⟩ := rqq2.shape
  clear rqq2 bdqq2
  obtain ⟨lo_v, hi_v⟩ := wf_i64 wf_v
  clear wf_v
  have b1 : Below w.heap.size w (w.alloc (.cells #[.int .i64 qq0, .slice a_qq1 lqq1.length cap_qq1, .slice a_qq2 lqq2.length cap_qq2] 24)) := (Below.refl _ _).alloc (Nat.le_refl _) _
  have hb2 := b1
  have p3 := Blk.new w #[.int .i64 qq0, .slice a_qq1 lqq1.length cap_qq1, .slice a_qq2 lqq2.length cap_qq2] 24
  by_cases hL0 : lqq1.length + lqq2.length ≤ 1048576
  rotate_left
  · skip
    go_enter Try.func5, Try.ntmps5
    have es4 : szQ 1048576 lqq1 lqq2 = -1 := by unfold szQ; simp only [szI]; repeat (first | rfl | omega | split)
    obtain ⟨k5, k6, k7⟩ := blk3 p3
    have k8 := p3.lt
    go_wp2_with fail
    refine (l_szQuiver _ _ _ lqq1 lqq2 1048576 _ (Rqq1.out.below hb2) (Rqq2.out.below hb2) (by omega) (by omega)).mono ?_; rintro e w4 ⟨rfl, b4⟩
    clear k5 k6 k7 k8
    have p9 := p3.below b4
    have hb10 := below_call hb2 b4 hb2.size
    obtain ⟨k11, k12, k13⟩ := blk3 p9
    have k14 := p9.lt
    go_wp2
    go_ret
    exact ⟨rfl, hb10⟩
  have hn15 := revL_len qq0 lqq1 lqq2 v
  go_enter Try.func5, Try.ntmps5
  have es16 : szQ 1048576 lqq1 lqq2 = 1048576 - (lqq1.length : Int) - (lqq2.length : Int) := by unfold szQ; simp only [szI]; repeat (first | rfl | omega | split)
  obtain ⟨k17, k18, k19⟩ := blk3 p3
  have k20 := p3.lt
  go_wp2_with fail
  refine (l_szQuiver _ _ _ lqq1 lqq2 1048576 _ (Rqq1.out.below hb2) (Rqq2.out.below hb2) (by omega) (by omega)).mono ?_; rintro e w16 ⟨rfl, b16⟩
  clear k17 k18 k19 k20
  have p21 := p3.below b16
  have hb22 := below_call hb2 b16 hb2.size
  obtain ⟨k24, k25, k26⟩ := blk3 p21
  have k27 := p21.lt
  go_wp2_with fail
  refine (l_toQuiver _ _ _ lqq1 lqq2 _ (Rqq1.out.below hb22) (Rqq2.out.below hb22) (by omega) (by omega)).mono ?_; rintro e w23 ⟨v23_0, v23_1, rfl, h23_0, h23_1, f23_0, f23_1, s23_01, b23⟩
  clear k24 k25 k26 k27
  have p28 := p21.below b23
  have hb29 := below_call hb22 b23 hb22.size
  obtain ⟨a23_0, cap23_0, rfl, _, _⟩ := h23_0.shape
  have sb30 := Lib.hid (sep_blk_new p21 f23_0)
  obtain ⟨a23_1, cap23_1, rfl, _, _⟩ := h23_1.shape
  have sb31 := Lib.hid (sep_blk_new p21 f23_1)
  have Ss23_01 := Lib.hid s23_01
  have Ts23_01 := Lib.hid (sep_symm Ss23_01.out)
  clear s23_01
  have Ff23_0 := Lib.hid f23_0
  clear f23_0
  have Ff23_1 := Lib.hid f23_1
  clear f23_1
  obtain ⟨k33, k34, k35⟩ := blk3 p28
  have k36 := p28.lt
  go_wp2_with fail
  refine (s_ReverseAt _ _ _ lqq1 lqq2 _ _ h23_0 h23_1).mono ?_; rintro e w32 ⟨v32_0, v32_1, rfl, h32_0, h32_1, f32_0, f32_1, s32_01, b32⟩
  clear k33 k34 k35 k36
  have h37 := h23_0.below b32
  have h38 := h23_1.below b32
  have p39 := p28.below b32
  have hb40 := below_call hb29 b32 hb29.size
  obtain ⟨a32_0, cap32_0, rfl, _, _⟩ := h32_0.shape
  have sp41 := Lib.hid (sep_new h23_0 f32_0)
  have sp42 := Lib.hid (sep_symm sp41.out)
  have sp43 := Lib.hid (sep_new h23_1 f32_0)
  have sp44 := Lib.hid (sep_symm sp43.out)
  have sb45 := Lib.hid (sep_blk_new p28 f32_0)
  obtain ⟨a32_1, cap32_1, rfl, _, _⟩ := h32_1.shape
  have sp46 := Lib.hid (sep_new h23_0 f32_1)
  have sp47 := Lib.hid (sep_symm sp46.out)
  have sp48 := Lib.hid (sep_new h23_1 f32_1)
  have sp49 := Lib.hid (sep_symm sp48.out)
  have sb50 := Lib.hid (sep_blk_new p28 f32_1)
  have Ss32_01 := Lib.hid s32_01
  have Ts32_01 := Lib.hid (sep_symm Ss32_01.out)
  clear s32_01
  have Ff32_0 := Lib.hid f32_0
  clear f32_0
  have Ff32_1 := Lib.hid f32_1
  clear f32_1
  obtain ⟨k51, k52, k53⟩ := blk3 p39
  have k54 := p39.lt
  have sb55 := Lib.hid (sep_blk_old h37)
  have sb56 := Lib.hid (sep_blk_old h38)
  have sb57 := Lib.hid (sep_blk_old h32_0)
  have sb58 := Lib.hid (sep_blk_old h32_1)
  have b59 : Below w32.heap.size w32 (w32.alloc (.cells #[.int .i64 (revN qq0 lqq1 lqq2 v), .slice a32_0 ((revL qq0 lqq1 lqq2 lqq1 lqq2 v)).length cap32_0, .slice a32_1 ((revL qq0 lqq1 lqq2 lqq2 lqq1 v)).length cap32_1] 27)) := (Below.refl _ w32).alloc (Nat.le_refl _) _
  have h60 := h37.below b59
  have h61 := h38.below b59
  have h62 := h32_0.below b59
  have h63 := h32_1.below b59
  have p64 := p39.below b59
  have hb65 := below_call hb40 b59 hb40.size
  have p66 := Blk.new w32 #[.int .i64 (revN qq0 lqq1 lqq2 v), .slice a32_0 ((revL qq0 lqq1 lqq2 lqq1 lqq2 v)).length cap32_0, .slice a32_1 ((revL qq0 lqq1 lqq2 lqq2 lqq1 v)).length cap32_1] 27
  obtain ⟨k68, k69, k70⟩ := blk3 p64
  have k71 := p64.lt
  obtain ⟨k72, k73, k74⟩ := blk3 p66
  have k75 := p66.lt
  go_wp2_with fail
  refine (l_toQuiver _ _ _ lqq1 lqq2 _ (Rqq1.out.below hb65) (Rqq2.out.below hb65) (by omega) (by omega)).mono ?_; rintro e w67 ⟨v67_0, v67_1, rfl, h67_0, h67_1, f67_0, f67_1, s67_01, b67⟩
  clear k68 k69 k70 k71 k72 k73 k74 k75
  have h76 := h62.below b67
  have h77 := h63.below b67
  have p78 := p64.below b67
  have p79 := p66.below b67
  have hb80 := below_call hb65 b67 hb65.size
  obtain ⟨a67_0, cap67_0, rfl, _, _⟩ := h67_0.shape
  have sp81 := Lib.hid (sep_new h62 f67_0)
  have sp82 := Lib.hid (sep_symm sp81.out)
  have sp83 := Lib.hid (sep_new h63 f67_0)
  have sp84 := Lib.hid (sep_symm sp83.out)
  have sb85 := Lib.hid (sep_blk_new p64 f67_0)
  have sb86 := Lib.hid (sep_blk_new p66 f67_0)
  obtain ⟨a67_1, cap67_1, rfl, _, _⟩ := h67_1.shape
  have sp87 := Lib.hid (sep_new h62 f67_1)
  have sp88 := Lib.hid (sep_symm sp87.out)
  have sp89 := Lib.hid (sep_new h63 f67_1)
  have sp90 := Lib.hid (sep_symm sp89.out)
  have sb91 := Lib.hid (sep_blk_new p64 f67_1)
  have sb92 := Lib.hid (sep_blk_new p66 f67_1)
  have Ss67_01 := Lib.hid s67_01
  have Ts67_01 := Lib.hid (sep_symm Ss67_01.out)
  clear s67_01
  have Ff67_0 := Lib.hid f67_0
  clear f67_0
  have Ff67_1 := Lib.hid f67_1
  clear f67_1
  obtain ⟨k93, k94, k95⟩ := blk3 p78
  have k96 := p78.lt
  obtain ⟨k97, k98, k99⟩ := blk3 p79
  have k100 := p79.lt
  have sb101 := Lib.hid (sep_blk_old h76)
  have sb102 := Lib.hid (sep_blk_old h77)
  have sb103 := Lib.hid (sep_blk_old h67_0)
  have sb104 := Lib.hid (sep_blk_old h67_1)
  have b105 : Below w67.heap.size w67 (w67.alloc (.cells #[.int .i64 qq0, .slice a67_0 (lqq1).length cap67_0, .slice a67_1 (lqq2).length cap67_1] 27)) := (Below.refl _ w67).alloc (Nat.le_refl _) _
  have h106 := h76.below b105
  have h107 := h77.below b105
  have h108 := h67_0.below b105
  have h109 := h67_1.below b105
  have p110 := p78.below b105
  have p111 := p79.below b105
  have hb112 := below_call hb80 b105 hb80.size
  have p113 := Blk.new w67 #[.int .i64 qq0, .slice a67_0 (lqq1).length cap67_0, .slice a67_1 (lqq2).length cap67_1] 27
  obtain ⟨k115, k116, k117⟩ := blk3 p110
  have k118 := p110.lt
  obtain ⟨k119, k120, k121⟩ := blk3 p111
  have k122 := p111.lt
  obtain ⟨k123, k124, k125⟩ := blk3 p113
  have k126 := p113.lt
  go_wp2_with fail
  refine (i_ReverseAt _ _ _ lqq1 lqq2 _ _ h108 h109).mono ?_; rintro e w114 ⟨v114_0, v114_1, rfl, h114_0, h114_1, f114_0, f114_1, s114_01, b114⟩
  clear k115 k116 k117 k118 k119 k120 k121 k122 k123 k124 k125 k126
  have h127 := h106.below b114
  have h128 := h107.below b114
  have h129 := h108.below b114
  have h130 := h109.below b114
  have p131 := p110.below b114
  have p132 := p111.below b114
  have p133 := p113.below b114
  have hb134 := below_call hb112 b114 hb112.size
  obtain ⟨a114_0, cap114_0, rfl, _, _⟩ := h114_0.shape
  have sp135 := Lib.hid (sep_new h106 f114_0)
  have sp136 := Lib.hid (sep_symm sp135.out)
  have sp137 := Lib.hid (sep_new h107 f114_0)
  have sp138 := Lib.hid (sep_symm sp137.out)
  have sp139 := Lib.hid (sep_new h108 f114_0)
  have sp140 := Lib.hid (sep_symm sp139.out)
  have sp141 := Lib.hid (sep_new h109 f114_0)
  have sp142 := Lib.hid (sep_symm sp141.out)
  have sb143 := Lib.hid (sep_blk_new p110 f114_0)
  have sb144 := Lib.hid (sep_blk_new p111 f114_0)
  have sb145 := Lib.hid (sep_blk_new p113 f114_0)
  obtain ⟨a114_1, cap114_1, rfl, _, _⟩ := h114_1.shape
  have sp146 := Lib.hid (sep_new h106 f114_1)
  have sp147 := Lib.hid (sep_symm sp146.out)
  have sp148 := Lib.hid (sep_new h107 f114_1)
  have sp149 := Lib.hid (sep_symm sp148.out)
  have sp150 := Lib.hid (sep_new h108 f114_1)
  have sp151 := Lib.hid (sep_symm sp150.out)
  have sp152 := Lib.hid (sep_new h109 f114_1)
  have sp153 := Lib.hid (sep_symm sp152.out)
  have sb154 := Lib.hid (sep_blk_new p110 f114_1)
  have sb155 := Lib.hid (sep_blk_new p111 f114_1)
  have sb156 := Lib.hid (sep_blk_new p113 f114_1)
  have Ss114_01 := Lib.hid s114_01
  have Ts114_01 := Lib.hid (sep_symm Ss114_01.out)
  clear s114_01
  have Ff114_0 := Lib.hid f114_0
  clear f114_0
  have Ff114_1 := Lib.hid f114_1
  clear f114_1
  obtain ⟨k157, k158, k159⟩ := blk3 p131
  have k160 := p131.lt
  obtain ⟨k161, k162, k163⟩ := blk3 p132
  have k164 := p132.lt
  obtain ⟨k165, k166, k167⟩ := blk3 p133
  have k168 := p133.lt
  have sb169 := Lib.hid (sep_blk_old h127)
  have sb170 := Lib.hid (sep_blk_old h128)
  have sb171 := Lib.hid (sep_blk_old h129)
  have sb172 := Lib.hid (sep_blk_old h130)
  have sb173 := Lib.hid (sep_blk_old h114_0)
  have sb174 := Lib.hid (sep_blk_old h114_1)
  have b175 : Below w114.heap.size w114 (w114.alloc (.cells #[.int .i64 (revN qq0 lqq1 lqq2 v), .slice a114_0 ((revL qq0 lqq1 lqq2 lqq1 lqq2 v)).length cap114_0, .slice a114_1 ((revL qq0 lqq1 lqq2 lqq2 lqq1 v)).length cap114_1] 27)) := (Below.refl _ w114).alloc (Nat.le_refl _) _
  have h176 := h127.below b175
  have h177 := h128.below b175
  have h178 := h129.below b175
  have h179 := h130.below b175
  have h180 := h114_0.below b175
  have h181 := h114_1.below b175
  have p182 := p131.below b175
  have p183 := p132.below b175
  have p184 := p133.below b175
  have hb185 := below_call hb134 b175 hb134.size
  have p186 := Blk.new w114 #[.int .i64 (revN qq0 lqq1 lqq2 v), .slice a114_0 ((revL qq0 lqq1 lqq2 lqq1 lqq2 v)).length cap114_0, .slice a114_1 ((revL qq0 lqq1 lqq2 lqq2 lqq1 v)).length cap114_1] 27
  have e187 := eqQ_refl (revN qq0 lqq1 lqq2 v) (revL qq0 lqq1 lqq2 lqq1 lqq2 v) (revL qq0 lqq1 lqq2 lqq2 lqq1 v)
  obtain ⟨k188, k189, k190⟩ := blk3 p182
  have k191 := p182.lt
  obtain ⟨k192, k193, k194⟩ := blk3 p183
  have k195 := p183.lt
  obtain ⟨k196, k197, k198⟩ := blk3 p184
  have k199 := p184.lt
  obtain ⟨k200, k201, k202⟩ := blk3 p186
  have k203 := p186.lt
  go_wp2_with fail
  refine (l_eqQuiver _ _ _ _ _ _ _ _ _ _ _ h180 h181 h176 h177).mono ?_; rintro e w187 ⟨rfl, b187⟩
  clear k188 k189 k190 k191 k192 k193 k194 k195 k196 k197 k198 k199 k200 k201 k202 k203
  have h204 := h176.below b187
  have h205 := h177.below b187
  have h206 := h178.below b187
  have h207 := h179.below b187
  have h208 := h180.below b187
  have h209 := h181.below b187
  have p210 := p182.below b187
  have p211 := p183.below b187
  have p212 := p184.below b187
  have p213 := p186.below b187
  have hb214 := below_call hb185 b187 hb185.size
  have e216 := eqQ_refl qq0 lqq1 lqq2
  obtain ⟨k217, k218, k219⟩ := blk3 p210
  have k220 := p210.lt
  obtain ⟨k221, k222, k223⟩ := blk3 p211
  have k224 := p211.lt
  obtain ⟨k225, k226, k227⟩ := blk3 p212
  have k228 := p212.lt
  obtain ⟨k229, k230, k231⟩ := blk3 p213
  have k232 := p213.lt
  go_wp2_with fail
  go_region_held3 (fun w' => w'.cell? ⟨w.heap.size, 0, none⟩ = some (.int .i64 qq0) ∧ w'.cell? ⟨w.heap.size, 1, none⟩ = some (.slice a_qq1 lqq1.length cap_qq1) ∧ w'.cell? ⟨w.heap.size, 2, none⟩ = some (.slice a_qq2 lqq2.length cap_qq2) ∧ w'.cell? ⟨w32.heap.size, 0, none⟩ = some (.int .i64 (revN qq0 lqq1 lqq2 v)) ∧ w'.cell? ⟨w32.heap.size, 1, none⟩ = some (.slice a32_0 ((revL qq0 lqq1 lqq2 lqq1 lqq2 v)).length cap32_0) ∧ w'.cell? ⟨w32.heap.size, 2, none⟩ = some (.slice a32_1 ((revL qq0 lqq1 lqq2 lqq2 lqq1 v)).length cap32_1) ∧ w'.cell? ⟨w67.heap.size, 0, none⟩ = some (.int .i64 qq0) ∧ w'.cell? ⟨w67.heap.size, 1, none⟩ = some (.slice a67_0 (lqq1).length cap67_0) ∧ w'.cell? ⟨w67.heap.size, 2, none⟩ = some (.slice a67_1 (lqq2).length cap67_1) ∧ w'.cell? ⟨w114.heap.size, 0, none⟩ = some (.int .i64 (revN qq0 lqq1 lqq2 v)) ∧ w'.cell? ⟨w114.heap.size, 1, none⟩ = some (.slice a114_0 ((revL qq0 lqq1 lqq2 lqq1 lqq2 v)).length cap114_0) ∧ w'.cell? ⟨w114.heap.size, 2, none⟩ = some (.slice a114_1 ((revL qq0 lqq1 lqq2 lqq2 lqq1 v)).length cap114_1))
    (first
      | go_keep
      | exact ⟨(p210.below (below_of_drew b215)).cell 0, (p210.below (below_of_drew b215)).cell 1, (p210.below (below_of_drew b215)).cell 2, (p211.below (below_of_drew b215)).cell 0, (p211.below (below_of_drew b215)).cell 1, (p211.below (below_of_drew b215)).cell 2, (p212.below (below_of_drew b215)).cell 0, (p212.below (below_of_drew b215)).cell 1, (p212.below (below_of_drew b215)).cell 2, (p213.below (below_of_drew b215)).cell 0, (p213.below (below_of_drew b215)).cell 1, (p213.below (below_of_drew b215)).cell 2⟩
      | exact ⟨((p210.below (below_of_drew b215)).below b216).cell 0, ((p210.below (below_of_drew b215)).below b216).cell 1, ((p210.below (below_of_drew b215)).below b216).cell 2, ((p211.below (below_of_drew b215)).below b216).cell 0, ((p211.below (below_of_drew b215)).below b216).cell 1, ((p211.below (below_of_drew b215)).below b216).cell 2, ((p212.below (below_of_drew b215)).below b216).cell 0, ((p212.below (below_of_drew b215)).below b216).cell 1, ((p212.below (below_of_drew b215)).below b216).cell 2, ((p213.below (below_of_drew b215)).below b216).cell 0, ((p213.below (below_of_drew b215)).below b216).cell 1, ((p213.below (below_of_drew b215)).below b216).cell 2⟩)
    (first
      | (go_at_call 13; (with_reducible refine (l_toQuiver _ _ _ lqq1 lqq2 _ (Rqq1.out.below hb214).drew (Rqq2.out.below hb214).drew (by omega) (by omega)).mono ?_); rintro e w215 ⟨v215_0, v215_1, rfl, h215_0, h215_1, f215_0, f215_1, s215_01, b215⟩)
      | (go_at_call 15; (with_reducible refine (l_eqQuiver _ _ _ _ _ _ _ _ _ _ _ (h206.below (below_of_drew b215)) (h207.below (below_of_drew b215)) h215_0 h215_1).mono ?_); rintro e w216 ⟨rfl, b216⟩))
  clear k217 k218 k219 k220 k221 k222 k223 k224 k225 k226 k227 k228 k229 k230 k231 k232
  have Db215 := below_of_drew b215
  have h233 := h204.below Db215
  have h234 := h205.below Db215
  have h235 := h206.below Db215
  have h236 := h207.below Db215
  have h237 := h208.below Db215
  have h238 := h209.below Db215
  have p239 := p210.below Db215
  have p240 := p211.below Db215
  have p241 := p212.below Db215
  have p242 := p213.below Db215
  have hb243 := below_call hb214 Db215 hb214.size
  have h244 := h233.below b216
  have h245 := h234.below b216
  have h246 := h235.below b216
  have h247 := h236.below b216
  have h248 := h237.below b216
  have h249 := h238.below b216
  have p250 := p239.below b216
  have p251 := p240.below b216
  have p252 := p241.below b216
  have p253 := p242.below b216
  have hb254 := below_call hb243 b216 hb243.size
  obtain ⟨k256, k257, k258⟩ := blk3 p250
  have k259 := p250.lt
  obtain ⟨k260, k261, k262⟩ := blk3 p251
  have k263 := p251.lt
  obtain ⟨k264, k265, k266⟩ := blk3 p252
  have k267 := p252.lt
  obtain ⟨k268, k269, k270⟩ := blk3 p253
  have k271 := p253.lt
  go_wp2_with fail
  refine (l_markQuiver _ _ _ lqq1 lqq2 _ _ h246 h247 Ss67_01.out (by omega) (by omega)).mono ?_; rintro e w255 ⟨rfl, h255_0, h255_1, c255⟩
  clear k256 k257 k258 k259 k260 k261 k262 k263 k264 k265 k266 k267 k268 k269 k270 k271
  have p272 := p250.chg c255 (fun h => h.elim sb85.out sb91.out)
  have p273 := p251.chg c255 (fun h => h.elim sb86.out sb92.out)
  have p274 := p252.chg c255 (fun h => h.elim sb103.out sb104.out)
  have p275 := p253.chg c255 (fun h => h.elim sb171.out sb172.out)
  have h276 := h244.chg c255 (fun q hq h => h.elim (sp81.out q hq) (sp87.out q hq))
  have h277 := h245.chg c255 (fun q hq h => h.elim (sp83.out q hq) (sp89.out q hq))
  have h278 := h248.chg c255 (fun q hq h => h.elim (sp140.out q hq) (sp142.out q hq))
  have h279 := h249.chg c255 (fun q hq h => h.elim (sp151.out q hq) (sp153.out q hq))
  have hb280 := below_chg hb254 c255 hb254.size (fun k h => h.elim (fun h => Nat.le_trans hb65.size (Ff67_0.out k h)) (fun h => Nat.le_trans hb65.size (Ff67_1.out k h)))
  have e281 := eqQ_refl (revN qq0 lqq1 lqq2 v) (revL qq0 lqq1 lqq2 lqq1 lqq2 v) (revL qq0 lqq1 lqq2 lqq2 lqq1 v)
  obtain ⟨k282, k283, k284⟩ := blk3 p272
  have k285 := p272.lt
  obtain ⟨k286, k287, k288⟩ := blk3 p273
  have k289 := p273.lt
  obtain ⟨k290, k291, k292⟩ := blk3 p274
  have k293 := p274.lt
  obtain ⟨k294, k295, k296⟩ := blk3 p275
  have k297 := p275.lt
  go_wp2_with fail
  refine (l_eqQuiver _ _ _ _ _ _ _ _ _ _ _ h278 h279 h276 h277).mono ?_; rintro e w281 ⟨rfl, b281⟩
  clear k282 k283 k284 k285 k286 k287 k288 k289 k290 k291 k292 k293 k294 k295 k296 k297
  have h298 := h276.below b281
  have h299 := h277.below b281
  have h300 := h255_0.below b281
  have h301 := h255_1.below b281
  have h302 := h278.below b281
  have h303 := h279.below b281
  have p304 := p272.below b281
  have p305 := p273.below b281
  have p306 := p274.below b281
  have p307 := p275.below b281
  have hb308 := below_call hb280 b281 hb280.size
  obtain ⟨k310, k311, k312⟩ := blk3 p304
  have k313 := p304.lt
  obtain ⟨k314, k315, k316⟩ := blk3 p305
  have k317 := p305.lt
  obtain ⟨k318, k319, k320⟩ := blk3 p307
  have k321 := p307.lt
  go_wp2_with fail
  refine (l_markQuiver _ _ _ (revL qq0 lqq1 lqq2 lqq1 lqq2 v) (revL qq0 lqq1 lqq2 lqq2 lqq1 v) _ _ h302 h303 Ss114_01.out (by omega) (by omega)).mono ?_; rintro e w309 ⟨rfl, h309_0, h309_1, c309⟩
  clear k310 k311 k312 k313 k314 k315 k316 k317 k318 k319 k320 k321
  have p322 := p304.chg c309 (fun h => h.elim sb143.out sb154.out)
  have p323 := p305.chg c309 (fun h => h.elim sb144.out sb155.out)
  have p324 := p307.chg c309 (fun h => h.elim sb173.out sb174.out)
  have h325 := h298.chg c309 (fun q hq h => h.elim (sp135.out q hq) (sp146.out q hq))
  have h326 := h299.chg c309 (fun q hq h => h.elim (sp137.out q hq) (sp148.out q hq))
  have hb327 := below_chg hb308 c309 hb308.size (fun k h => h.elim (fun h => Nat.le_trans hb112.size (Ff114_0.out k h)) (fun h => Nat.le_trans hb112.size (Ff114_1.out k h)))
  obtain ⟨k329, k330, k331⟩ := blk3 p322
  have k332 := p322.lt
  obtain ⟨k333, k334, k335⟩ := blk3 p323
  have k336 := p323.lt
  obtain ⟨k337, k338, k339⟩ := blk3 p324
  have k340 := p324.lt
  go_wp2_with fail
  refine (l_heldQuiver _ _ _ _ _ _ _ h309_0 h309_1 (by omega) (by omega)).mono ?_; rintro e w328 ⟨rfl, b328⟩
  clear k329 k330 k331 k332 k333 k334 k335 k336 k337 k338 k339 k340
  have h341 := h325.below b328
  have h342 := h326.below b328
  have h343 := h309_0.below b328
  have h344 := h309_1.below b328
  have p345 := p322.below b328
  have p346 := p323.below b328
  have p347 := p324.below b328
  have hb348 := below_call hb327 b328 hb327.size
  obtain ⟨k350, k351, k352⟩ := blk3 p345
  have k353 := p345.lt
  obtain ⟨k354, k355, k356⟩ := blk3 p346
  have k357 := p346.lt
  obtain ⟨k358, k359, k360⟩ := blk3 p347
  have k361 := p347.lt
  go_wp2_with fail
  refine (l_toQuiver _ _ _ lqq1 lqq2 _ (Rqq1.out.below hb348) (Rqq2.out.below hb348) (by omega) (by omega)).mono ?_; rintro e w349 ⟨v349_0, v349_1, rfl, h349_0, h349_1, f349_0, f349_1, s349_01, b349⟩
  clear k350 k351 k352 k353 k354 k355 k356 k357 k358 k359 k360 k361
  have h362 := h341.below b349
  have h363 := h342.below b349
  have h364 := h343.below b349
  have h365 := h344.below b349
  have p366 := p345.below b349
  have p367 := p346.below b349
  have p368 := p347.below b349
  have hb369 := below_call hb348 b349 hb348.size
  obtain ⟨a349_0, cap349_0, rfl, _, _⟩ := h349_0.shape
  have sp370 := Lib.hid (sep_new h341 f349_0)
  have sp371 := Lib.hid (sep_symm sp370.out)
  have sp372 := Lib.hid (sep_new h342 f349_0)
  have sp373 := Lib.hid (sep_symm sp372.out)
  have sp374 := Lib.hid (sep_new h343 f349_0)
  have sp375 := Lib.hid (sep_symm sp374.out)
  have sp376 := Lib.hid (sep_new h344 f349_0)
  have sp377 := Lib.hid (sep_symm sp376.out)
  have sb378 := Lib.hid (sep_blk_new p345 f349_0)
  have sb379 := Lib.hid (sep_blk_new p346 f349_0)
  have sb380 := Lib.hid (sep_blk_new p347 f349_0)
  obtain ⟨a349_1, cap349_1, rfl, _, _⟩ := h349_1.shape
  have sp381 := Lib.hid (sep_new h341 f349_1)
  have sp382 := Lib.hid (sep_symm sp381.out)
  have sp383 := Lib.hid (sep_new h342 f349_1)
  have sp384 := Lib.hid (sep_symm sp383.out)
  have sp385 := Lib.hid (sep_new h343 f349_1)
  have sp386 := Lib.hid (sep_symm sp385.out)
  have sp387 := Lib.hid (sep_new h344 f349_1)
  have sp388 := Lib.hid (sep_symm sp387.out)
  have sb389 := Lib.hid (sep_blk_new p345 f349_1)
  have sb390 := Lib.hid (sep_blk_new p346 f349_1)
  have sb391 := Lib.hid (sep_blk_new p347 f349_1)
  have Ss349_01 := Lib.hid s349_01
  have Ts349_01 := Lib.hid (sep_symm Ss349_01.out)
  clear s349_01
  have Ff349_0 := Lib.hid f349_0
  clear f349_0
  have Ff349_1 := Lib.hid f349_1
  clear f349_1
  obtain ⟨k393, k394, k395⟩ := blk3 p366
  have k396 := p366.lt
  obtain ⟨k397, k398, k399⟩ := blk3 p367
  have k400 := p367.lt
  obtain ⟨k401, k402, k403⟩ := blk3 p368
  have k404 := p368.lt
  go_wp2_with fail
  refine (i_ReverseAt _ _ _ lqq1 lqq2 _ _ h349_0 h349_1).mono ?_; rintro e w392 ⟨v392_0, v392_1, rfl, h392_0, h392_1, f392_0, f392_1, s392_01, b392⟩
  clear k393 k394 k395 k396 k397 k398 k399 k400 k401 k402 k403 k404
  have h405 := h362.below b392
  have h406 := h363.below b392
  have h407 := h364.below b392
  have h408 := h365.below b392
  have h409 := h349_0.below b392
  have h410 := h349_1.below b392
  have p411 := p366.below b392
  have p412 := p367.below b392
  have p413 := p368.below b392
  have hb414 := below_call hb369 b392 hb369.size
  obtain ⟨a392_0, cap392_0, rfl, _, _⟩ := h392_0.shape
  have sp415 := Lib.hid (sep_new h362 f392_0)
  have sp416 := Lib.hid (sep_symm sp415.out)
  have sp417 := Lib.hid (sep_new h363 f392_0)
  have sp418 := Lib.hid (sep_symm sp417.out)
  have sp419 := Lib.hid (sep_new h364 f392_0)
  have sp420 := Lib.hid (sep_symm sp419.out)
  have sp421 := Lib.hid (sep_new h365 f392_0)
  have sp422 := Lib.hid (sep_symm sp421.out)
  have sp423 := Lib.hid (sep_new h349_0 f392_0)
  have sp424 := Lib.hid (sep_symm sp423.out)
  have sp425 := Lib.hid (sep_new h349_1 f392_0)
  have sp426 := Lib.hid (sep_symm sp425.out)
  have sb427 := Lib.hid (sep_blk_new p366 f392_0)
  have sb428 := Lib.hid (sep_blk_new p367 f392_0)
  have sb429 := Lib.hid (sep_blk_new p368 f392_0)
  obtain ⟨a392_1, cap392_1, rfl, _, _⟩ := h392_1.shape
  have sp430 := Lib.hid (sep_new h362 f392_1)
  have sp431 := Lib.hid (sep_symm sp430.out)
  have sp432 := Lib.hid (sep_new h363 f392_1)
  have sp433 := Lib.hid (sep_symm sp432.out)
  have sp434 := Lib.hid (sep_new h364 f392_1)
  have sp435 := Lib.hid (sep_symm sp434.out)
  have sp436 := Lib.hid (sep_new h365 f392_1)
  have sp437 := Lib.hid (sep_symm sp436.out)
  have sp438 := Lib.hid (sep_new h349_0 f392_1)
  have sp439 := Lib.hid (sep_symm sp438.out)
  have sp440 := Lib.hid (sep_new h349_1 f392_1)
  have sp441 := Lib.hid (sep_symm sp440.out)
  have sb442 := Lib.hid (sep_blk_new p366 f392_1)
  have sb443 := Lib.hid (sep_blk_new p367 f392_1)
  have sb444 := Lib.hid (sep_blk_new p368 f392_1)
  have Ss392_01 := Lib.hid s392_01
  have Ts392_01 := Lib.hid (sep_symm Ss392_01.out)
  clear s392_01
  have Ff392_0 := Lib.hid f392_0
  clear f392_0
  have Ff392_1 := Lib.hid f392_1
  clear f392_1
  obtain ⟨k445, k446, k447⟩ := blk3 p411
  have k448 := p411.lt
  obtain ⟨k449, k450, k451⟩ := blk3 p412
  have k452 := p412.lt
  obtain ⟨k453, k454, k455⟩ := blk3 p413
  have k456 := p413.lt
  have sb457 := Lib.hid (sep_blk_old h405)
  have sb458 := Lib.hid (sep_blk_old h406)
  have sb459 := Lib.hid (sep_blk_old h407)
  have sb460 := Lib.hid (sep_blk_old h408)
  have sb461 := Lib.hid (sep_blk_old h409)
  have sb462 := Lib.hid (sep_blk_old h410)
  have sb463 := Lib.hid (sep_blk_old h392_0)
  have sb464 := Lib.hid (sep_blk_old h392_1)
  have b465 : Below w392.heap.size w392 (w392.alloc (.cells #[.int .i64 (revN qq0 lqq1 lqq2 v), .slice a392_0 ((revL qq0 lqq1 lqq2 lqq1 lqq2 v)).length cap392_0, .slice a392_1 ((revL qq0 lqq1 lqq2 lqq2 lqq1 v)).length cap392_1] 27)) := (Below.refl _ w392).alloc (Nat.le_refl _) _
  have h466 := h405.below b465
  have h467 := h406.below b465
  have h468 := h407.below b465
  have h469 := h408.below b465
  have h470 := h409.below b465
  have h471 := h410.below b465
  have h472 := h392_0.below b465
  have h473 := h392_1.below b465
  have p474 := p411.below b465
  have p475 := p412.below b465
  have p476 := p413.below b465
  have hb477 := below_call hb414 b465 hb414.size
  have p478 := Blk.new w392 #[.int .i64 (revN qq0 lqq1 lqq2 v), .slice a392_0 ((revL qq0 lqq1 lqq2 lqq1 lqq2 v)).length cap392_0, .slice a392_1 ((revL qq0 lqq1 lqq2 lqq2 lqq1 v)).length cap392_1] 27
  have e479 := eqQ_refl (revN qq0 lqq1 lqq2 v) (revL qq0 lqq1 lqq2 lqq1 lqq2 v) (revL qq0 lqq1 lqq2 lqq2 lqq1 v)
  obtain ⟨k480, k481, k482⟩ := blk3 p474
  have k483 := p474.lt
  obtain ⟨k484, k485, k486⟩ := blk3 p475
  have k487 := p475.lt
  obtain ⟨k488, k489, k490⟩ := blk3 p476
  have k491 := p476.lt
  obtain ⟨k492, k493, k494⟩ := blk3 p478
  have k495 := p478.lt
  go_wp2_with fail
  refine (l_eqQuiver _ _ _ _ _ _ _ _ _ _ _ h472 h473 h466 h467).mono ?_; rintro e w479 ⟨rfl, b479⟩
  clear k480 k481 k482 k483 k484 k485 k486 k487 k488 k489 k490 k491 k492 k493 k494 k495
  have h496 := h466.below b479
  have h497 := h467.below b479
  have h498 := h468.below b479
  have h499 := h469.below b479
  have h500 := h472.below b479
  have h501 := h473.below b479
  have p502 := p474.below b479
  have p503 := p475.below b479
  have p504 := p476.below b479
  have p505 := p478.below b479
  have hb506 := below_call hb477 b479 hb477.size
  obtain ⟨k508, k509, k510⟩ := blk3 p502
  have k511 := p502.lt
  obtain ⟨k512, k513, k514⟩ := blk3 p504
  have k515 := p504.lt
  go_wp2_with fail
  refine (l_heldQuiver _ _ _ _ _ _ _ h498 h499 (by omega) (by omega)).mono ?_; rintro e w507 ⟨rfl, b507⟩
  clear k508 k509 k510 k511 k512 k513 k514 k515
  have h516 := h498.below b507
  have h517 := h499.below b507
  have p518 := p502.below b507
  have p519 := p504.below b507
  have hb520 := below_call hb506 b507 hb506.size
  obtain ⟨k521, k522, k523⟩ := blk3 p518
  have k524 := p518.lt
  obtain ⟨k525, k526, k527⟩ := blk3 p519
  have k528 := p519.lt
  go_wp2
  go_ret
  exact ⟨rfl, hb520⟩

end Go.Proofs.Ytjgmiohaepcpbaa
