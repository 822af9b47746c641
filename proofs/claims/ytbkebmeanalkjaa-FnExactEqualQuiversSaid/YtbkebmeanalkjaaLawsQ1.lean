/- Walks of laws on quivers and paths. -/
import Derived.Test.YtbkebmeanalkjaaPathV
namespace Go.Proofs.Ytbkebmeanalkjaa
open Go.RowKit
set_option linter.unusedVariables false

set_option maxHeartbeats 4000000 in
set_option linter.unusedVariables false in
theorem law_FnExactEqualQuivers (aa0 : Int) (aa1 : Value) (laa1 : List Int) (aa2 : Value) (laa2 : List Int) (bb0 : Int) (bb1 : Value) (lbb1 : List Int) (bb2 : Value) (lbb2 : List Int) (w : World) (wf_aa0 : (Lit.int .i64 aa0).wf = true) (raa1 : Raw w aa1 laa1) (bdaa1 : Bd laa1) (raa2 : Raw w aa2 laa2) (bdaa2 : Bd laa2) (wf_bb0 : (Lit.int .i64 bb0).wf = true) (rbb1 : Raw w bb1 lbb1) (bdbb1 : Bd lbb1) (rbb2 : Raw w bb2 lbb2) (bdbb2 : Bd lbb2) :
    Calls Try.prog 4 #[.agg #[.int .i64 aa0, aa1, aa2], .agg #[.int .i64 bb0, bb1, bb2]] w fun e w' => e = .returned (.bool true) ∧ Below w.heap.size w w' := by
  obtain ⟨lo_aa0, hi_aa0⟩ := wf_i64 wf_aa0
  clear wf_aa0
  have Raa1 := Lib.hid raa1
  have BDaa1 := Lib.hid bdaa1
  obtain ⟨a_aa1, cap_aa1, rfl, hlc_aa1, hcm_aa1⟩ := raa1.shape
  clear raa1 bdaa1
  have Raa2 := Lib.hid raa2
  have BDaa2 := Lib.hid bdaa2
  obtain ⟨a_aa2, cap_aa2, rfl, hlc_aa2, hcm_aa2⟩ := raa2.shape
  clear raa2 bdaa2
  obtain ⟨lo_bb0, hi_bb0⟩ := wf_i64 wf_bb0
  clear wf_bb0
  have Rbb1 := Lib.hid rbb1
  have BDbb1 := Lib.hid bdbb1
  obtain ⟨a_bb1, cap_bb1, rfl, hlc_bb1, hcm_bb1⟩ := rbb1.shape
  clear rbb1 bdbb1
  have Rbb2 := Lib.hid rbb2
  have BDbb2 := Lib.hid bdbb2
  obtain ⟨a_bb2, cap_bb2, rfl, hlc_bb2, hcm_bb2⟩ := rbb2.shape
  clear rbb2 bdbb2
  have b1 : Below w.heap.size w (w.alloc (.cells #[.int .i64 aa0, .slice a_aa1 laa1.length cap_aa1, .slice a_aa2 laa2.length cap_aa2] 31)) := (Below.refl _ _).alloc (Nat.le_refl _) _
  have hb2 := b1
  have p3 := Blk.new w #[.int .i64 aa0, .slice a_aa1 laa1.length cap_aa1, .slice a_aa2 laa2.length cap_aa2] 31
  have b4 : Below (w.alloc (.cells #[.int .i64 aa0, .slice a_aa1 laa1.length cap_aa1, .slice a_aa2 laa2.length cap_aa2] 31)).heap.size (w.alloc (.cells #[.int .i64 aa0, .slice a_aa1 laa1.length cap_aa1, .slice a_aa2 laa2.length cap_aa2] 31)) ((w.alloc (.cells #[.int .i64 aa0, .slice a_aa1 laa1.length cap_aa1, .slice a_aa2 laa2.length cap_aa2] 31)).alloc (.cells #[.int .i64 bb0, .slice a_bb1 lbb1.length cap_bb1, .slice a_bb2 lbb2.length cap_bb2] 31)) := (Below.refl _ _).alloc (Nat.le_refl _) _
  have p5 := p3.below b4
  have hb6 := below_call hb2 b4 hb2.size
  have p7 : Blk ((w.alloc (.cells #[.int .i64 aa0, .slice a_aa1 laa1.length cap_aa1, .slice a_aa2 laa2.length cap_aa2] 31)).alloc (.cells #[.int .i64 bb0, .slice a_bb1 lbb1.length cap_bb1, .slice a_bb2 lbb2.length cap_bb2] 31)) (w.heap.size + 1) #[.int .i64 bb0, .slice a_bb1 lbb1.length cap_bb1, .slice a_bb2 lbb2.length cap_bb2] 31 := by simpa using Blk.new (w.alloc (.cells #[.int .i64 aa0, .slice a_aa1 laa1.length cap_aa1, .slice a_aa2 laa2.length cap_aa2] 31)) #[.int .i64 bb0, .slice a_bb1 lbb1.length cap_bb1, .slice a_bb2 lbb2.length cap_bb2] 31
  by_cases hL0 : laa1.length + laa2.length ≤ 1048576
  rotate_left
  · skip
    go_enter Try.func4, Try.ntmps4
    have es8 : szQ 1048576 laa1 laa2 = -1 := by unfold szQ; simp only [szI]; repeat (first | rfl | omega | split)
    obtain ⟨k9, k10, k11⟩ := blk3 p5
    have k12 := p5.lt
    obtain ⟨k13, k14, k15⟩ := blk3 p7
    have k16 := p7.lt
    go_wp2_with fail
    refine (l_szQuiver _ _ _ laa1 laa2 1048576 _ (Raa1.out.below hb6) (Raa2.out.below hb6) (by omega) (by omega)).mono ?_; rintro e w8 ⟨rfl, b8⟩
    clear k9 k10 k11 k12 k13 k14 k15 k16
    have p17 := p5.below b8
    have p18 := p7.below b8
    have hb19 := below_call hb6 b8 hb6.size
    obtain ⟨k20, k21, k22⟩ := blk3 p17
    have k23 := p17.lt
    obtain ⟨k24, k25, k26⟩ := blk3 p18
    have k27 := p18.lt
    go_wp2
    go_ret
    exact ⟨rfl, hb19⟩
  by_cases hL1 : lbb1.length + lbb2.length ≤ 1048576 - laa1.length - laa2.length
  rotate_left
  · skip
    go_enter Try.func4, Try.ntmps4
    have es28 : szQ 1048576 laa1 laa2 = 1048576 - (laa1.length : Int) - (laa2.length : Int) := by unfold szQ; simp only [szI]; repeat (first | rfl | omega | split)
    obtain ⟨k29, k30, k31⟩ := blk3 p5
    have k32 := p5.lt
    obtain ⟨k33, k34, k35⟩ := blk3 p7
    have k36 := p7.lt
    go_wp2_with fail
    refine (l_szQuiver _ _ _ laa1 laa2 1048576 _ (Raa1.out.below hb6) (Raa2.out.below hb6) (by omega) (by omega)).mono ?_; rintro e w28 ⟨rfl, b28⟩
    clear k29 k30 k31 k32 k33 k34 k35 k36
    have p37 := p5.below b28
    have p38 := p7.below b28
    have hb39 := below_call hb6 b28 hb6.size
    have es40 : szQ (1048576 - (laa1.length : Int) - (laa2.length : Int)) lbb1 lbb2 = -1 := by unfold szQ; simp only [szI]; repeat (first | rfl | omega | split)
    obtain ⟨k41, k42, k43⟩ := blk3 p37
    have k44 := p37.lt
    obtain ⟨k45, k46, k47⟩ := blk3 p38
    have k48 := p38.lt
    go_wp2_with fail
    refine (l_szQuiver _ _ _ lbb1 lbb2 (1048576 - (laa1.length : Int) - (laa2.length : Int)) _ (Rbb1.out.below hb39) (Rbb2.out.below hb39) (by omega) (by omega)).mono ?_; rintro e w40 ⟨rfl, b40⟩
    clear k41 k42 k43 k44 k45 k46 k47 k48
    have p49 := p37.below b40
    have p50 := p38.below b40
    have hb51 := below_call hb39 b40 hb39.size
    obtain ⟨k52, k53, k54⟩ := blk3 p49
    have k55 := p49.lt
    obtain ⟨k56, k57, k58⟩ := blk3 p50
    have k59 := p50.lt
    go_wp2
    go_ret
    exact ⟨rfl, hb51⟩
  go_enter Try.func4, Try.ntmps4
  have es60 : szQ 1048576 laa1 laa2 = 1048576 - (laa1.length : Int) - (laa2.length : Int) := by unfold szQ; simp only [szI]; repeat (first | rfl | omega | split)
  obtain ⟨k61, k62, k63⟩ := blk3 p5
  have k64 := p5.lt
  obtain ⟨k65, k66, k67⟩ := blk3 p7
  have k68 := p7.lt
  go_wp2_with fail
  refine (l_szQuiver _ _ _ laa1 laa2 1048576 _ (Raa1.out.below hb6) (Raa2.out.below hb6) (by omega) (by omega)).mono ?_; rintro e w60 ⟨rfl, b60⟩
  clear k61 k62 k63 k64 k65 k66 k67 k68
  have p69 := p5.below b60
  have p70 := p7.below b60
  have hb71 := below_call hb6 b60 hb6.size
  have es72 : szQ (1048576 - (laa1.length : Int) - (laa2.length : Int)) lbb1 lbb2 = (1048576 - (laa1.length : Int) - (laa2.length : Int)) - (lbb1.length : Int) - (lbb2.length : Int) := by unfold szQ; simp only [szI]; repeat (first | rfl | omega | split)
  obtain ⟨k73, k74, k75⟩ := blk3 p69
  have k76 := p69.lt
  obtain ⟨k77, k78, k79⟩ := blk3 p70
  have k80 := p70.lt
  go_wp2_with fail
  refine (l_szQuiver _ _ _ lbb1 lbb2 (1048576 - (laa1.length : Int) - (laa2.length : Int)) _ (Rbb1.out.below hb71) (Rbb2.out.below hb71) (by omega) (by omega)).mono ?_; rintro e w72 ⟨rfl, b72⟩
  clear k73 k74 k75 k76 k77 k78 k79 k80
  have p81 := p69.below b72
  have p82 := p70.below b72
  have hb83 := below_call hb71 b72 hb71.size
  obtain ⟨k87, k88, k89⟩ := blk3 p81
  have k90 := p81.lt
  obtain ⟨k91, k92, k93⟩ := blk3 p82
  have k94 := p82.lt
  go_wp2_with fail
  go_region_held3 (fun w' => w'.cell? ⟨w.heap.size, 0, none⟩ = some (.int .i64 aa0) ∧ w'.cell? ⟨w.heap.size, 1, none⟩ = some (.slice a_aa1 laa1.length cap_aa1) ∧ w'.cell? ⟨w.heap.size, 2, none⟩ = some (.slice a_aa2 laa2.length cap_aa2) ∧ w'.cell? ⟨w.heap.size + 1, 0, none⟩ = some (.int .i64 bb0) ∧ w'.cell? ⟨w.heap.size + 1, 1, none⟩ = some (.slice a_bb1 lbb1.length cap_bb1) ∧ w'.cell? ⟨w.heap.size + 1, 2, none⟩ = some (.slice a_bb2 lbb2.length cap_bb2))
    (first
      | go_keep
      | exact ⟨(p81.below (below_of_drew b84)).cell 0, (p81.below (below_of_drew b84)).cell 1, (p81.below (below_of_drew b84)).cell 2, (p82.below (below_of_drew b84)).cell 0, (p82.below (below_of_drew b84)).cell 1, (p82.below (below_of_drew b84)).cell 2⟩
      | exact ⟨((p81.below (below_of_drew b84)).below b85).cell 0, ((p81.below (below_of_drew b84)).below b85).cell 1, ((p81.below (below_of_drew b84)).below b85).cell 2, ((p82.below (below_of_drew b84)).below b85).cell 0, ((p82.below (below_of_drew b84)).below b85).cell 1, ((p82.below (below_of_drew b84)).below b85).cell 2⟩
      | exact ⟨(((p81.below (below_of_drew b84)).below b85).below b86).cell 0, (((p81.below (below_of_drew b84)).below b85).below b86).cell 1, (((p81.below (below_of_drew b84)).below b85).below b86).cell 2, (((p82.below (below_of_drew b84)).below b85).below b86).cell 0, (((p82.below (below_of_drew b84)).below b85).below b86).cell 1, (((p82.below (below_of_drew b84)).below b85).below b86).cell 2⟩)
    (first
      | (go_at_call 22; (with_reducible refine (l_toQuiver _ _ _ laa1 laa2 _ (Raa1.out.below hb83).drew (Raa2.out.below hb83).drew (by omega) (by omega)).mono ?_); rintro e w84 ⟨v84_0, v84_1, rfl, h84_0, h84_1, f84_0, f84_1, s84_01, b84⟩)
      | (go_at_call 22; (with_reducible refine (l_toQuiver _ _ _ lbb1 lbb2 _ ((Rbb1.out.below hb83).below (below_of_drew b84)) ((Rbb2.out.below hb83).below (below_of_drew b84)) (by omega) (by omega)).mono ?_); rintro e w85 ⟨v85_0, v85_1, rfl, h85_0, h85_1, f85_0, f85_1, s85_01, b85⟩)
      | (go_at_call 21; (with_reducible refine (s_EqualQuivers _ _ _ _ _ _ laa1 laa2 lbb1 lbb2 _ (h84_0.below b85) (h84_1.below b85) h85_0 h85_1).mono ?_); rintro e w86 ⟨rfl, b86⟩))
  clear k87 k88 k89 k90 k91 k92 k93 k94
  have Db84 := below_of_drew b84
  have p95 := p81.below Db84
  have p96 := p82.below Db84
  have hb97 := below_call hb83 Db84 hb83.size
  have p98 := p95.below b85
  have p99 := p96.below b85
  have hb100 := below_call hb97 b85 hb97.size
  have p101 := p98.below b86
  have p102 := p99.below b86
  have hb103 := below_call hb100 b86 hb100.size
  obtain ⟨k105, k106, k107⟩ := blk3 p101
  have k108 := p101.lt
  obtain ⟨k109, k110, k111⟩ := blk3 p102
  have k112 := p102.lt
  go_wp2_with fail
  refine (l_toQuiver _ _ _ laa1 laa2 _ (Raa1.out.below hb103) (Raa2.out.below hb103) (by omega) (by omega)).mono ?_; rintro e w104 ⟨v104_0, v104_1, rfl, h104_0, h104_1, f104_0, f104_1, s104_01, b104⟩
  clear k105 k106 k107 k108 k109 k110 k111 k112
  have p113 := p101.below b104
  have p114 := p102.below b104
  have hb115 := below_call hb103 b104 hb103.size
  obtain ⟨a104_0, cap104_0, rfl, _, _⟩ := h104_0.shape
  have sb116 := Lib.hid (sep_blk_new p101 f104_0)
  have sb117 := Lib.hid (sep_blk_new p102 f104_0)
  obtain ⟨a104_1, cap104_1, rfl, _, _⟩ := h104_1.shape
  have sb118 := Lib.hid (sep_blk_new p101 f104_1)
  have sb119 := Lib.hid (sep_blk_new p102 f104_1)
  have Ss104_01 := Lib.hid s104_01
  have Ts104_01 := Lib.hid (sep_symm Ss104_01.out)
  clear s104_01
  have Ff104_0 := Lib.hid f104_0
  clear f104_0
  have Ff104_1 := Lib.hid f104_1
  clear f104_1
  obtain ⟨k120, k121, k122⟩ := blk3 p113
  have k123 := p113.lt
  obtain ⟨k124, k125, k126⟩ := blk3 p114
  have k127 := p114.lt
  have sb128 := Lib.hid (sep_blk_old h104_0)
  have sb129 := Lib.hid (sep_blk_old h104_1)
  have b130 : Below w104.heap.size w104 (w104.alloc (.cells #[.int .i64 aa0, .slice a104_0 (laa1).length cap104_0, .slice a104_1 (laa2).length cap104_1] 34)) := (Below.refl _ w104).alloc (Nat.le_refl _) _
  have h131 := h104_0.below b130
  have h132 := h104_1.below b130
  have p133 := p113.below b130
  have p134 := p114.below b130
  have hb135 := below_call hb115 b130 hb115.size
  have p136 := Blk.new w104 #[.int .i64 aa0, .slice a104_0 (laa1).length cap104_0, .slice a104_1 (laa2).length cap104_1] 34
  obtain ⟨k138, k139, k140⟩ := blk3 p133
  have k141 := p133.lt
  obtain ⟨k142, k143, k144⟩ := blk3 p134
  have k145 := p134.lt
  obtain ⟨k146, k147, k148⟩ := blk3 p136
  have k149 := p136.lt
  go_wp2_with fail
  refine (l_toQuiver _ _ _ lbb1 lbb2 _ (Rbb1.out.below hb135) (Rbb2.out.below hb135) (by omega) (by omega)).mono ?_; rintro e w137 ⟨v137_0, v137_1, rfl, h137_0, h137_1, f137_0, f137_1, s137_01, b137⟩
  clear k138 k139 k140 k141 k142 k143 k144 k145 k146 k147 k148 k149
  have h150 := h131.below b137
  have h151 := h132.below b137
  have p152 := p133.below b137
  have p153 := p134.below b137
  have p154 := p136.below b137
  have hb155 := below_call hb135 b137 hb135.size
  obtain ⟨a137_0, cap137_0, rfl, _, _⟩ := h137_0.shape
  have sp156 := Lib.hid (sep_new h131 f137_0)
  have sp157 := Lib.hid (sep_symm sp156.out)
  have sp158 := Lib.hid (sep_new h132 f137_0)
  have sp159 := Lib.hid (sep_symm sp158.out)
  have sb160 := Lib.hid (sep_blk_new p133 f137_0)
  have sb161 := Lib.hid (sep_blk_new p134 f137_0)
  have sb162 := Lib.hid (sep_blk_new p136 f137_0)
  obtain ⟨a137_1, cap137_1, rfl, _, _⟩ := h137_1.shape
  have sp163 := Lib.hid (sep_new h131 f137_1)
  have sp164 := Lib.hid (sep_symm sp163.out)
  have sp165 := Lib.hid (sep_new h132 f137_1)
  have sp166 := Lib.hid (sep_symm sp165.out)
  have sb167 := Lib.hid (sep_blk_new p133 f137_1)
  have sb168 := Lib.hid (sep_blk_new p134 f137_1)
  have sb169 := Lib.hid (sep_blk_new p136 f137_1)
  have Ss137_01 := Lib.hid s137_01
  have Ts137_01 := Lib.hid (sep_symm Ss137_01.out)
  clear s137_01
  have Ff137_0 := Lib.hid f137_0
  clear f137_0
  have Ff137_1 := Lib.hid f137_1
  clear f137_1
  obtain ⟨k170, k171, k172⟩ := blk3 p152
  have k173 := p152.lt
  obtain ⟨k174, k175, k176⟩ := blk3 p153
  have k177 := p153.lt
  obtain ⟨k178, k179, k180⟩ := blk3 p154
  have k181 := p154.lt
  have sb182 := Lib.hid (sep_blk_old h150)
  have sb183 := Lib.hid (sep_blk_old h151)
  have sb184 := Lib.hid (sep_blk_old h137_0)
  have sb185 := Lib.hid (sep_blk_old h137_1)
  have b186 : Below w137.heap.size w137 (w137.alloc (.cells #[.int .i64 bb0, .slice a137_0 (lbb1).length cap137_0, .slice a137_1 (lbb2).length cap137_1] 34)) := (Below.refl _ w137).alloc (Nat.le_refl _) _
  have h187 := h150.below b186
  have h188 := h151.below b186
  have h189 := h137_0.below b186
  have h190 := h137_1.below b186
  have p191 := p152.below b186
  have p192 := p153.below b186
  have p193 := p154.below b186
  have hb194 := below_call hb155 b186 hb155.size
  have p195 := Blk.new w137 #[.int .i64 bb0, .slice a137_0 (lbb1).length cap137_0, .slice a137_1 (lbb2).length cap137_1] 34
  obtain ⟨k197, k198, k199⟩ := blk3 p191
  have k200 := p191.lt
  obtain ⟨k201, k202, k203⟩ := blk3 p192
  have k204 := p192.lt
  obtain ⟨k205, k206, k207⟩ := blk3 p193
  have k208 := p193.lt
  obtain ⟨k209, k210, k211⟩ := blk3 p195
  have k212 := p195.lt
  go_wp2_with fail
  refine (i_EqualQuivers _ _ _ _ _ _ laa1 laa2 lbb1 lbb2 _ h187 h188 h189 h190).mono ?_; rintro e w196 ⟨rfl, b196⟩
  clear k197 k198 k199 k200 k201 k202 k203 k204 k205 k206 k207 k208 k209 k210 k211 k212
  have h213 := h187.below b196
  have h214 := h188.below b196
  have h215 := h189.below b196
  have h216 := h190.below b196
  have p217 := p191.below b196
  have p218 := p192.below b196
  have p219 := p193.below b196
  have p220 := p195.below b196
  have hb221 := below_call hb194 b196 hb194.size
  have e223 := eqQ_refl aa0 laa1 laa2
  obtain ⟨k224, k225, k226⟩ := blk3 p217
  have k227 := p217.lt
  obtain ⟨k228, k229, k230⟩ := blk3 p218
  have k231 := p218.lt
  obtain ⟨k232, k233, k234⟩ := blk3 p219
  have k235 := p219.lt
  obtain ⟨k236, k237, k238⟩ := blk3 p220
  have k239 := p220.lt
  go_wp2_with fail
  go_region_held3 (fun w' => w'.cell? ⟨w.heap.size, 0, none⟩ = some (.int .i64 aa0) ∧ w'.cell? ⟨w.heap.size, 1, none⟩ = some (.slice a_aa1 laa1.length cap_aa1) ∧ w'.cell? ⟨w.heap.size, 2, none⟩ = some (.slice a_aa2 laa2.length cap_aa2) ∧ w'.cell? ⟨w.heap.size + 1, 0, none⟩ = some (.int .i64 bb0) ∧ w'.cell? ⟨w.heap.size + 1, 1, none⟩ = some (.slice a_bb1 lbb1.length cap_bb1) ∧ w'.cell? ⟨w.heap.size + 1, 2, none⟩ = some (.slice a_bb2 lbb2.length cap_bb2) ∧ w'.cell? ⟨w104.heap.size, 0, none⟩ = some (.int .i64 aa0) ∧ w'.cell? ⟨w104.heap.size, 1, none⟩ = some (.slice a104_0 (laa1).length cap104_0) ∧ w'.cell? ⟨w104.heap.size, 2, none⟩ = some (.slice a104_1 (laa2).length cap104_1) ∧ w'.cell? ⟨w137.heap.size, 0, none⟩ = some (.int .i64 bb0) ∧ w'.cell? ⟨w137.heap.size, 1, none⟩ = some (.slice a137_0 (lbb1).length cap137_0) ∧ w'.cell? ⟨w137.heap.size, 2, none⟩ = some (.slice a137_1 (lbb2).length cap137_1))
    (first
      | go_keep
      | exact ⟨(p217.below (below_of_drew b222)).cell 0, (p217.below (below_of_drew b222)).cell 1, (p217.below (below_of_drew b222)).cell 2, (p218.below (below_of_drew b222)).cell 0, (p218.below (below_of_drew b222)).cell 1, (p218.below (below_of_drew b222)).cell 2, (p219.below (below_of_drew b222)).cell 0, (p219.below (below_of_drew b222)).cell 1, (p219.below (below_of_drew b222)).cell 2, (p220.below (below_of_drew b222)).cell 0, (p220.below (below_of_drew b222)).cell 1, (p220.below (below_of_drew b222)).cell 2⟩
      | exact ⟨((p217.below (below_of_drew b222)).below b223).cell 0, ((p217.below (below_of_drew b222)).below b223).cell 1, ((p217.below (below_of_drew b222)).below b223).cell 2, ((p218.below (below_of_drew b222)).below b223).cell 0, ((p218.below (below_of_drew b222)).below b223).cell 1, ((p218.below (below_of_drew b222)).below b223).cell 2, ((p219.below (below_of_drew b222)).below b223).cell 0, ((p219.below (below_of_drew b222)).below b223).cell 1, ((p219.below (below_of_drew b222)).below b223).cell 2, ((p220.below (below_of_drew b222)).below b223).cell 0, ((p220.below (below_of_drew b222)).below b223).cell 1, ((p220.below (below_of_drew b222)).below b223).cell 2⟩)
    (first
      | (go_at_call 22; (with_reducible refine (l_toQuiver _ _ _ laa1 laa2 _ (Raa1.out.below hb221).drew (Raa2.out.below hb221).drew (by omega) (by omega)).mono ?_); rintro e w222 ⟨v222_0, v222_1, rfl, h222_0, h222_1, f222_0, f222_1, s222_01, b222⟩)
      | (go_at_call 24; (with_reducible refine (l_eqQuiver _ _ _ _ _ _ _ _ _ _ _ (h213.below (below_of_drew b222)) (h214.below (below_of_drew b222)) h222_0 h222_1).mono ?_); rintro e w223 ⟨rfl, b223⟩))
  clear k224 k225 k226 k227 k228 k229 k230 k231 k232 k233 k234 k235 k236 k237 k238 k239
  have Db222 := below_of_drew b222
  have h240 := h213.below Db222
  have h241 := h214.below Db222
  have h242 := h215.below Db222
  have h243 := h216.below Db222
  have p244 := p217.below Db222
  have p245 := p218.below Db222
  have p246 := p219.below Db222
  have p247 := p220.below Db222
  have hb248 := below_call hb221 Db222 hb221.size
  have h249 := h240.below b223
  have h250 := h241.below b223
  have h251 := h242.below b223
  have h252 := h243.below b223
  have p253 := p244.below b223
  have p254 := p245.below b223
  have p255 := p246.below b223
  have p256 := p247.below b223
  have hb257 := below_call hb248 b223 hb248.size
  have e259 := eqQ_refl bb0 lbb1 lbb2
  obtain ⟨k260, k261, k262⟩ := blk3 p253
  have k263 := p253.lt
  obtain ⟨k264, k265, k266⟩ := blk3 p254
  have k267 := p254.lt
  obtain ⟨k268, k269, k270⟩ := blk3 p255
  have k271 := p255.lt
  obtain ⟨k272, k273, k274⟩ := blk3 p256
  have k275 := p256.lt
  go_wp2_with fail
  go_region_held3 (fun w' => w'.cell? ⟨w.heap.size, 0, none⟩ = some (.int .i64 aa0) ∧ w'.cell? ⟨w.heap.size, 1, none⟩ = some (.slice a_aa1 laa1.length cap_aa1) ∧ w'.cell? ⟨w.heap.size, 2, none⟩ = some (.slice a_aa2 laa2.length cap_aa2) ∧ w'.cell? ⟨w.heap.size + 1, 0, none⟩ = some (.int .i64 bb0) ∧ w'.cell? ⟨w.heap.size + 1, 1, none⟩ = some (.slice a_bb1 lbb1.length cap_bb1) ∧ w'.cell? ⟨w.heap.size + 1, 2, none⟩ = some (.slice a_bb2 lbb2.length cap_bb2) ∧ w'.cell? ⟨w104.heap.size, 0, none⟩ = some (.int .i64 aa0) ∧ w'.cell? ⟨w104.heap.size, 1, none⟩ = some (.slice a104_0 (laa1).length cap104_0) ∧ w'.cell? ⟨w104.heap.size, 2, none⟩ = some (.slice a104_1 (laa2).length cap104_1) ∧ w'.cell? ⟨w137.heap.size, 0, none⟩ = some (.int .i64 bb0) ∧ w'.cell? ⟨w137.heap.size, 1, none⟩ = some (.slice a137_0 (lbb1).length cap137_0) ∧ w'.cell? ⟨w137.heap.size, 2, none⟩ = some (.slice a137_1 (lbb2).length cap137_1))
    (first
      | go_keep
      | exact ⟨(p253.below (below_of_drew b258)).cell 0, (p253.below (below_of_drew b258)).cell 1, (p253.below (below_of_drew b258)).cell 2, (p254.below (below_of_drew b258)).cell 0, (p254.below (below_of_drew b258)).cell 1, (p254.below (below_of_drew b258)).cell 2, (p255.below (below_of_drew b258)).cell 0, (p255.below (below_of_drew b258)).cell 1, (p255.below (below_of_drew b258)).cell 2, (p256.below (below_of_drew b258)).cell 0, (p256.below (below_of_drew b258)).cell 1, (p256.below (below_of_drew b258)).cell 2⟩
      | exact ⟨((p253.below (below_of_drew b258)).below b259).cell 0, ((p253.below (below_of_drew b258)).below b259).cell 1, ((p253.below (below_of_drew b258)).below b259).cell 2, ((p254.below (below_of_drew b258)).below b259).cell 0, ((p254.below (below_of_drew b258)).below b259).cell 1, ((p254.below (below_of_drew b258)).below b259).cell 2, ((p255.below (below_of_drew b258)).below b259).cell 0, ((p255.below (below_of_drew b258)).below b259).cell 1, ((p255.below (below_of_drew b258)).below b259).cell 2, ((p256.below (below_of_drew b258)).below b259).cell 0, ((p256.below (below_of_drew b258)).below b259).cell 1, ((p256.below (below_of_drew b258)).below b259).cell 2⟩)
    (first
      | (go_at_call 22; (with_reducible refine (l_toQuiver _ _ _ lbb1 lbb2 _ (Rbb1.out.below hb257).drew (Rbb2.out.below hb257).drew (by omega) (by omega)).mono ?_); rintro e w258 ⟨v258_0, v258_1, rfl, h258_0, h258_1, f258_0, f258_1, s258_01, b258⟩)
      | (go_at_call 24; (with_reducible refine (l_eqQuiver _ _ _ _ _ _ _ _ _ _ _ (h251.below (below_of_drew b258)) (h252.below (below_of_drew b258)) h258_0 h258_1).mono ?_); rintro e w259 ⟨rfl, b259⟩))
  clear k260 k261 k262 k263 k264 k265 k266 k267 k268 k269 k270 k271 k272 k273 k274 k275
  have Db258 := below_of_drew b258
  have h276 := h249.below Db258
  have h277 := h250.below Db258
  have h278 := h251.below Db258
  have h279 := h252.below Db258
  have p280 := p253.below Db258
  have p281 := p254.below Db258
  have p282 := p255.below Db258
  have p283 := p256.below Db258
  have hb284 := below_call hb257 Db258 hb257.size
  have h285 := h276.below b259
  have h286 := h277.below b259
  have h287 := h278.below b259
  have h288 := h279.below b259
  have p289 := p280.below b259
  have p290 := p281.below b259
  have p291 := p282.below b259
  have p292 := p283.below b259
  have hb293 := below_call hb284 b259 hb284.size
  obtain ⟨k294, k295, k296⟩ := blk3 p289
  have k297 := p289.lt
  obtain ⟨k298, k299, k300⟩ := blk3 p290
  have k301 := p290.lt
  obtain ⟨k302, k303, k304⟩ := blk3 p291
  have k305 := p291.lt
  obtain ⟨k306, k307, k308⟩ := blk3 p292
  have k309 := p292.lt
  go_wp2
  go_ret
  exact ⟨rfl, hb293⟩


end Go.Proofs.Ytbkebmeanalkjaa
