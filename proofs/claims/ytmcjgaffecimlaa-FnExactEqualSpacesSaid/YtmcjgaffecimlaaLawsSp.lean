/- The walk of the law EqualSpaces. -/
import Derived.Test.YtmcjgaffecimlaaSp
import Derived.Test.YtmcjgaffecimlaaLawR
namespace Go.Proofs.Ytmcjgaffecimlaa
open Go.RowKit
set_option linter.unusedVariables false
set_option linter.unusedSimpArgs false

set_option maxRecDepth 100000 in
set_option maxHeartbeats 4000000 in
set_option linter.unusedVariables false in
theorem law_FnExactEqualSpaces (aa0 : Int) (aa1 : Value) (laa1 : List (List Int)) (bb0 : Int) (bb1 : Value) (lbb1 : List (List Int)) (w : World) (wf_aa0 : (Lit.int .i64 aa0).wf = true) (raa1 : RawS w aa1 laa1) (bdaa1 : BdS laa1) (wf_bb0 : (Lit.int .i64 bb0).wf = true) (rbb1 : RawS w bb1 lbb1) (bdbb1 : BdS lbb1) :
    Calls Try.prog 5 #[.agg #[.int .i64 aa0, aa1], .agg #[.int .i64 bb0, bb1]] w fun e w' => e = .returned (.bool true) ∧ Below w.heap.size w w' := by
  obtain ⟨lo_aa0, hi_aa0⟩ := wf_i64 wf_aa0
  clear wf_aa0
  have Raa1 := Lib.hid raa1
  have BDaa1 := Lib.hid bdaa1
  obtain ⟨a_aa1, cap_aa1, rfl, hlc_aa1, hcm_aa1⟩ := raa1.shape
  clear raa1 bdaa1
  obtain ⟨lo_bb0, hi_bb0⟩ := wf_i64 wf_bb0
  clear wf_bb0
  have Rbb1 := Lib.hid rbb1
  have BDbb1 := Lib.hid bdbb1
  obtain ⟨a_bb1, cap_bb1, rfl, hlc_bb1, hcm_bb1⟩ := rbb1.shape
  clear rbb1 bdbb1
  have b1 : Below w.heap.size w (w.alloc (.cells #[.int .i64 aa0, .slice a_aa1 laa1.length cap_aa1] 37)) := (Below.refl _ _).alloc (Nat.le_refl _) _
  have hb2 := b1
  have p3 := Blk.new w #[.int .i64 aa0, .slice a_aa1 laa1.length cap_aa1] 37
  have b4 : Below (w.alloc (.cells #[.int .i64 aa0, .slice a_aa1 laa1.length cap_aa1] 37)).heap.size (w.alloc (.cells #[.int .i64 aa0, .slice a_aa1 laa1.length cap_aa1] 37)) ((w.alloc (.cells #[.int .i64 aa0, .slice a_aa1 laa1.length cap_aa1] 37)).alloc (.cells #[.int .i64 bb0, .slice a_bb1 lbb1.length cap_bb1] 37)) := (Below.refl _ _).alloc (Nat.le_refl _) _
  have p5 := p3.below b4
  have hb6 := below_call hb2 b4 hb2.size
  have p7 : Blk ((w.alloc (.cells #[.int .i64 aa0, .slice a_aa1 laa1.length cap_aa1] 37)).alloc (.cells #[.int .i64 bb0, .slice a_bb1 lbb1.length cap_bb1] 37)) (w.heap.size + 1) #[.int .i64 bb0, .slice a_bb1 lbb1.length cap_bb1] 37 := by simpa using Blk.new (w.alloc (.cells #[.int .i64 aa0, .slice a_aa1 laa1.length cap_aa1] 37)) #[.int .i64 bb0, .slice a_bb1 lbb1.length cap_bb1] 37
  by_cases hL0 : szT laa1 ≤ 1048576
  rotate_left
  · skip
    go_enter Try.func5, Try.ntmps5
    have es8 : szII 1048576 laa1 = -1 := by unfold szII; rw [if_pos (by omega)]
    obtain ⟨k9, k10⟩ := blk2 p5
    have k11 := p5.lt
    obtain ⟨k12, k13⟩ := blk2 p7
    have k14 := p7.lt
    go_wp2_with fail
    refine (l_szSpace _ _ laa1 1048576 _ (Raa1.out.below hb6) (by omega) (by omega)).mono ?_; rintro e w8 ⟨rfl, b8⟩
    clear k9 k10 k11 k12 k13 k14
    have p15 := p5.below b8
    have p16 := p7.below b8
    have hb17 := below_call hb6 b8 hb6.size
    obtain ⟨k18, k19⟩ := blk2 p15
    have k20 := p15.lt
    obtain ⟨k21, k22⟩ := blk2 p16
    have k23 := p16.lt
    go_wp2
    go_ret
    exact ⟨rfl, hb17⟩
  by_cases hL1 : szT lbb1 ≤ 1048576 - szT laa1
  rotate_left
  · skip
    go_enter Try.func5, Try.ntmps5
    have es24 : szII 1048576 laa1 = 1048576 - (szT laa1 : Int) := by unfold szII; rw [if_neg (by omega)]
    obtain ⟨k25, k26⟩ := blk2 p5
    have k27 := p5.lt
    obtain ⟨k28, k29⟩ := blk2 p7
    have k30 := p7.lt
    go_wp2_with fail
    refine (l_szSpace _ _ laa1 1048576 _ (Raa1.out.below hb6) (by omega) (by omega)).mono ?_; rintro e w24 ⟨rfl, b24⟩
    clear k25 k26 k27 k28 k29 k30
    have p31 := p5.below b24
    have p32 := p7.below b24
    have hb33 := below_call hb6 b24 hb6.size
    have es34 : szII (1048576 - (szT laa1 : Int)) lbb1 = -1 := by unfold szII; rw [if_pos (by omega)]
    obtain ⟨k35, k36⟩ := blk2 p31
    have k37 := p31.lt
    obtain ⟨k38, k39⟩ := blk2 p32
    have k40 := p32.lt
    go_wp2_with fail
    refine (l_szSpace _ _ lbb1 (1048576 - (szT laa1 : Int)) _ (Rbb1.out.below hb33) (by omega) (by omega)).mono ?_; rintro e w34 ⟨rfl, b34⟩
    clear k35 k36 k37 k38 k39 k40
    have p41 := p31.below b34
    have p42 := p32.below b34
    have hb43 := below_call hb33 b34 hb33.size
    obtain ⟨k44, k45⟩ := blk2 p41
    have k46 := p41.lt
    obtain ⟨k47, k48⟩ := blk2 p42
    have k49 := p42.lt
    go_wp2
    go_ret
    exact ⟨rfl, hb43⟩
  go_enter Try.func5, Try.ntmps5
  have es50 : szII 1048576 laa1 = 1048576 - (szT laa1 : Int) := by unfold szII; rw [if_neg (by omega)]
  obtain ⟨k51, k52⟩ := blk2 p5
  have k53 := p5.lt
  obtain ⟨k54, k55⟩ := blk2 p7
  have k56 := p7.lt
  go_wp2_with fail
  refine (l_szSpace _ _ laa1 1048576 _ (Raa1.out.below hb6) (by omega) (by omega)).mono ?_; rintro e w50 ⟨rfl, b50⟩
  clear k51 k52 k53 k54 k55 k56
  have p57 := p5.below b50
  have p58 := p7.below b50
  have hb59 := below_call hb6 b50 hb6.size
  have es60 : szII (1048576 - (szT laa1 : Int)) lbb1 = (1048576 - (szT laa1 : Int)) - (szT lbb1 : Int) := by unfold szII; rw [if_neg (by omega)]
  obtain ⟨k61, k62⟩ := blk2 p57
  have k63 := p57.lt
  obtain ⟨k64, k65⟩ := blk2 p58
  have k66 := p58.lt
  go_wp2_with fail
  refine (l_szSpace _ _ lbb1 (1048576 - (szT laa1 : Int)) _ (Rbb1.out.below hb59) (by omega) (by omega)).mono ?_; rintro e w60 ⟨rfl, b60⟩
  clear k61 k62 k63 k64 k65 k66
  have p67 := p57.below b60
  have p68 := p58.below b60
  have hb69 := below_call hb59 b60 hb59.size
  obtain ⟨k73, k74⟩ := blk2 p67
  have k75 := p67.lt
  obtain ⟨k76, k77⟩ := blk2 p68
  have k78 := p68.lt
  go_wp2_with fail
  go_region_held3 (fun w' => w'.cell? ⟨w.heap.size, 0, none⟩ = some (.int .i64 aa0) ∧ w'.cell? ⟨w.heap.size, 1, none⟩ = some (.slice a_aa1 laa1.length cap_aa1) ∧ w'.cell? ⟨w.heap.size + 1, 0, none⟩ = some (.int .i64 bb0) ∧ w'.cell? ⟨w.heap.size + 1, 1, none⟩ = some (.slice a_bb1 lbb1.length cap_bb1))
    (first
      | go_keep
      | exact ⟨(p67.below (below_of_drew b70)).cell 0, (p67.below (below_of_drew b70)).cell 1, (p68.below (below_of_drew b70)).cell 0, (p68.below (below_of_drew b70)).cell 1⟩
      | exact ⟨((p67.below (below_of_drew b70)).below b71).cell 0, ((p67.below (below_of_drew b70)).below b71).cell 1, ((p68.below (below_of_drew b70)).below b71).cell 0, ((p68.below (below_of_drew b70)).below b71).cell 1⟩
      | exact ⟨(((p67.below (below_of_drew b70)).below b71).below b72).cell 0, (((p67.below (below_of_drew b70)).below b71).below b72).cell 1, (((p68.below (below_of_drew b70)).below b71).below b72).cell 0, (((p68.below (below_of_drew b70)).below b71).below b72).cell 1⟩)
    (first
      | (go_at_call 18; (with_reducible refine (l_toSpace _ _ laa1 _ (Raa1.out.below hb69).drew (by omega)).mono ?_); rintro e w70 ⟨v70_0, rfl, h70_0, f70_0, b70⟩)
      | (go_at_call 18; (with_reducible refine (l_toSpace _ _ lbb1 _ ((Rbb1.out.below hb69).below (below_of_drew b70)) (by omega)).mono ?_); rintro e w71 ⟨v71_0, rfl, h71_0, f71_0, b71⟩)
      | (go_at_call 17; (with_reducible refine (s_EqualSpaces _ _ _ _ laa1 lbb1 _ (h70_0.below b71) h71_0).mono ?_); rintro e w72 ⟨rfl, b72⟩))
  clear k73 k74 k75 k76 k77 k78
  have Db70 := below_of_drew b70
  have p79 := p67.below Db70
  have p80 := p68.below Db70
  have hb81 := below_call hb69 Db70 hb69.size
  have p82 := p79.below b71
  have p83 := p80.below b71
  have hb84 := below_call hb81 b71 hb81.size
  have p85 := p82.below b72
  have p86 := p83.below b72
  have hb87 := below_call hb84 b72 hb84.size
  obtain ⟨k89, k90⟩ := blk2 p85
  have k91 := p85.lt
  obtain ⟨k92, k93⟩ := blk2 p86
  have k94 := p86.lt
  go_wp2_with fail
  refine (l_toSpace _ _ laa1 _ (Raa1.out.below hb87) (by omega)).mono ?_; rintro e w88 ⟨v88_0, rfl, h88_0, f88_0, b88⟩
  clear k89 k90 k91 k92 k93 k94
  have p95 := p85.below b88
  have p96 := p86.below b88
  have hb97 := below_call hb87 b88 hb87.size
  obtain ⟨a88_0, cap88_0, rfl, _, _⟩ := h88_0.shape
  have sb98 := Lib.hid (sep_blk_new p85 f88_0)
  have sb99 := Lib.hid (sep_blk_new p86 f88_0)
  have Ff88_0 := Lib.hid f88_0
  clear f88_0
  obtain ⟨k100, k101⟩ := blk2 p95
  have k102 := p95.lt
  obtain ⟨k103, k104⟩ := blk2 p96
  have k105 := p96.lt
  have sb106 := Lib.hid (sep_blk_oldS h88_0)
  have b107 : Below w88.heap.size w88 (w88.alloc (.cells #[.int .i64 aa0, .slice a88_0 (laa1).length cap88_0] 40)) := (Below.refl _ w88).alloc (Nat.le_refl _) _
  have h108 := h88_0.below b107
  have p109 := p95.below b107
  have p110 := p96.below b107
  have hb111 := below_call hb97 b107 hb97.size
  have p112 := Blk.new w88 #[.int .i64 aa0, .slice a88_0 (laa1).length cap88_0] 40
  obtain ⟨k114, k115⟩ := blk2 p109
  have k116 := p109.lt
  obtain ⟨k117, k118⟩ := blk2 p110
  have k119 := p110.lt
  obtain ⟨k120, k121⟩ := blk2 p112
  have k122 := p112.lt
  go_wp2_with fail
  refine (l_toSpace _ _ lbb1 _ (Rbb1.out.below hb111) (by omega)).mono ?_; rintro e w113 ⟨v113_0, rfl, h113_0, f113_0, b113⟩
  clear k114 k115 k116 k117 k118 k119 k120 k121 k122
  have h123 := h108.below b113
  have p124 := p109.below b113
  have p125 := p110.below b113
  have p126 := p112.below b113
  have hb127 := below_call hb111 b113 hb111.size
  obtain ⟨a113_0, cap113_0, rfl, _, _⟩ := h113_0.shape
  have sp128 := Lib.hid (sep_newS h108 f113_0)
  have sp129 := Lib.hid (sep_symm sp128.out)
  have sb130 := Lib.hid (sep_blk_new p109 f113_0)
  have sb131 := Lib.hid (sep_blk_new p110 f113_0)
  have sb132 := Lib.hid (sep_blk_new p112 f113_0)
  have Ff113_0 := Lib.hid f113_0
  clear f113_0
  obtain ⟨k133, k134⟩ := blk2 p124
  have k135 := p124.lt
  obtain ⟨k136, k137⟩ := blk2 p125
  have k138 := p125.lt
  obtain ⟨k139, k140⟩ := blk2 p126
  have k141 := p126.lt
  have sb142 := Lib.hid (sep_blk_oldS h123)
  have sb143 := Lib.hid (sep_blk_oldS h113_0)
  have b144 : Below w113.heap.size w113 (w113.alloc (.cells #[.int .i64 bb0, .slice a113_0 (lbb1).length cap113_0] 40)) := (Below.refl _ w113).alloc (Nat.le_refl _) _
  have h145 := h123.below b144
  have h146 := h113_0.below b144
  have p147 := p124.below b144
  have p148 := p125.below b144
  have p149 := p126.below b144
  have hb150 := below_call hb127 b144 hb127.size
  have p151 := Blk.new w113 #[.int .i64 bb0, .slice a113_0 (lbb1).length cap113_0] 40
  obtain ⟨k153, k154⟩ := blk2 p147
  have k155 := p147.lt
  obtain ⟨k156, k157⟩ := blk2 p148
  have k158 := p148.lt
  obtain ⟨k159, k160⟩ := blk2 p149
  have k161 := p149.lt
  obtain ⟨k162, k163⟩ := blk2 p151
  have k164 := p151.lt
  go_wp2_with fail
  refine (i_EqualSpaces _ _ _ _ laa1 lbb1 _ h145 h146).mono ?_; rintro e w152 ⟨rfl, b152⟩
  clear k153 k154 k155 k156 k157 k158 k159 k160 k161 k162 k163 k164
  have h165 := h145.below b152
  have h166 := h146.below b152
  have p167 := p147.below b152
  have p168 := p148.below b152
  have p169 := p149.below b152
  have p170 := p151.below b152
  have hb171 := below_call hb150 b152 hb150.size
  have e173 := eqSp_refl aa0 laa1
  obtain ⟨k174, k175⟩ := blk2 p167
  have k176 := p167.lt
  obtain ⟨k177, k178⟩ := blk2 p168
  have k179 := p168.lt
  obtain ⟨k180, k181⟩ := blk2 p169
  have k182 := p169.lt
  obtain ⟨k183, k184⟩ := blk2 p170
  have k185 := p170.lt
  go_wp2_with fail
  go_region_held3 (fun w' => w'.cell? ⟨w.heap.size, 0, none⟩ = some (.int .i64 aa0) ∧ w'.cell? ⟨w.heap.size, 1, none⟩ = some (.slice a_aa1 laa1.length cap_aa1) ∧ w'.cell? ⟨w.heap.size + 1, 0, none⟩ = some (.int .i64 bb0) ∧ w'.cell? ⟨w.heap.size + 1, 1, none⟩ = some (.slice a_bb1 lbb1.length cap_bb1) ∧ w'.cell? ⟨w88.heap.size, 0, none⟩ = some (.int .i64 aa0) ∧ w'.cell? ⟨w88.heap.size, 1, none⟩ = some (.slice a88_0 (laa1).length cap88_0) ∧ w'.cell? ⟨w113.heap.size, 0, none⟩ = some (.int .i64 bb0) ∧ w'.cell? ⟨w113.heap.size, 1, none⟩ = some (.slice a113_0 (lbb1).length cap113_0))
    (first
      | go_keep
      | exact ⟨(p167.below (below_of_drew b172)).cell 0, (p167.below (below_of_drew b172)).cell 1, (p168.below (below_of_drew b172)).cell 0, (p168.below (below_of_drew b172)).cell 1, (p169.below (below_of_drew b172)).cell 0, (p169.below (below_of_drew b172)).cell 1, (p170.below (below_of_drew b172)).cell 0, (p170.below (below_of_drew b172)).cell 1⟩
      | exact ⟨((p167.below (below_of_drew b172)).below b173).cell 0, ((p167.below (below_of_drew b172)).below b173).cell 1, ((p168.below (below_of_drew b172)).below b173).cell 0, ((p168.below (below_of_drew b172)).below b173).cell 1, ((p169.below (below_of_drew b172)).below b173).cell 0, ((p169.below (below_of_drew b172)).below b173).cell 1, ((p170.below (below_of_drew b172)).below b173).cell 0, ((p170.below (below_of_drew b172)).below b173).cell 1⟩)
    (first
      | (go_at_call 18; (with_reducible refine (l_toSpace _ _ laa1 _ (Raa1.out.below hb171).drew (by omega)).mono ?_); rintro e w172 ⟨v172_0, rfl, h172_0, f172_0, b172⟩)
      | (go_at_call 20; (with_reducible refine (l_eqSpace _ _ _ _ _ _ _ (h165.below (below_of_drew b172)) h172_0).mono ?_); rintro e w173 ⟨rfl, b173⟩))
  clear k174 k175 k176 k177 k178 k179 k180 k181 k182 k183 k184 k185
  have Db172 := below_of_drew b172
  have h186 := h165.below Db172
  have h187 := h166.below Db172
  have p188 := p167.below Db172
  have p189 := p168.below Db172
  have p190 := p169.below Db172
  have p191 := p170.below Db172
  have hb192 := below_call hb171 Db172 hb171.size
  have h193 := h186.below b173
  have h194 := h187.below b173
  have p195 := p188.below b173
  have p196 := p189.below b173
  have p197 := p190.below b173
  have p198 := p191.below b173
  have hb199 := below_call hb192 b173 hb192.size
  have e201 := eqSp_refl bb0 lbb1
  obtain ⟨k202, k203⟩ := blk2 p195
  have k204 := p195.lt
  obtain ⟨k205, k206⟩ := blk2 p196
  have k207 := p196.lt
  obtain ⟨k208, k209⟩ := blk2 p197
  have k210 := p197.lt
  obtain ⟨k211, k212⟩ := blk2 p198
  have k213 := p198.lt
  go_wp2_with fail
  go_region_held3 (fun w' => w'.cell? ⟨w.heap.size, 0, none⟩ = some (.int .i64 aa0) ∧ w'.cell? ⟨w.heap.size, 1, none⟩ = some (.slice a_aa1 laa1.length cap_aa1) ∧ w'.cell? ⟨w.heap.size + 1, 0, none⟩ = some (.int .i64 bb0) ∧ w'.cell? ⟨w.heap.size + 1, 1, none⟩ = some (.slice a_bb1 lbb1.length cap_bb1) ∧ w'.cell? ⟨w88.heap.size, 0, none⟩ = some (.int .i64 aa0) ∧ w'.cell? ⟨w88.heap.size, 1, none⟩ = some (.slice a88_0 (laa1).length cap88_0) ∧ w'.cell? ⟨w113.heap.size, 0, none⟩ = some (.int .i64 bb0) ∧ w'.cell? ⟨w113.heap.size, 1, none⟩ = some (.slice a113_0 (lbb1).length cap113_0))
    (first
      | go_keep
      | exact ⟨(p195.below (below_of_drew b200)).cell 0, (p195.below (below_of_drew b200)).cell 1, (p196.below (below_of_drew b200)).cell 0, (p196.below (below_of_drew b200)).cell 1, (p197.below (below_of_drew b200)).cell 0, (p197.below (below_of_drew b200)).cell 1, (p198.below (below_of_drew b200)).cell 0, (p198.below (below_of_drew b200)).cell 1⟩
      | exact ⟨((p195.below (below_of_drew b200)).below b201).cell 0, ((p195.below (below_of_drew b200)).below b201).cell 1, ((p196.below (below_of_drew b200)).below b201).cell 0, ((p196.below (below_of_drew b200)).below b201).cell 1, ((p197.below (below_of_drew b200)).below b201).cell 0, ((p197.below (below_of_drew b200)).below b201).cell 1, ((p198.below (below_of_drew b200)).below b201).cell 0, ((p198.below (below_of_drew b200)).below b201).cell 1⟩)
    (first
      | (go_at_call 18; (with_reducible refine (l_toSpace _ _ lbb1 _ (Rbb1.out.below hb199).drew (by omega)).mono ?_); rintro e w200 ⟨v200_0, rfl, h200_0, f200_0, b200⟩)
      | (go_at_call 20; (with_reducible refine (l_eqSpace _ _ _ _ _ _ _ (h194.below (below_of_drew b200)) h200_0).mono ?_); rintro e w201 ⟨rfl, b201⟩))
  clear k202 k203 k204 k205 k206 k207 k208 k209 k210 k211 k212 k213
  have Db200 := below_of_drew b200
  have h214 := h193.below Db200
  have h215 := h194.below Db200
  have p216 := p195.below Db200
  have p217 := p196.below Db200
  have p218 := p197.below Db200
  have p219 := p198.below Db200
  have hb220 := below_call hb199 Db200 hb199.size
  have h221 := h214.below b201
  have h222 := h215.below b201
  have p223 := p216.below b201
  have p224 := p217.below b201
  have p225 := p218.below b201
  have p226 := p219.below b201
  have hb227 := below_call hb220 b201 hb220.size
  obtain ⟨k228, k229⟩ := blk2 p223
  have k230 := p223.lt
  obtain ⟨k231, k232⟩ := blk2 p224
  have k233 := p224.lt
  obtain ⟨k234, k235⟩ := blk2 p225
  have k236 := p225.lt
  obtain ⟨k237, k238⟩ := blk2 p226
  have k239 := p226.lt
  go_wp2
  go_ret
  exact ⟨rfl, hb227⟩
end Go.Proofs.Ytmcjgaffecimlaa
