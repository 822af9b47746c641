/- The walk of the law PowerOf. -/
import Derived.Test.YtcjjjejocnlhmaaMat7
import Derived.Test.YtcjjjejocnlhmaaMatAux
namespace Go.Proofs.Ytcjjjejocnlhmaa
open Go.RowKit
set_option linter.unusedVariables false
set_option linter.unusedSimpArgs false

theorem powM64 (p ra ca n : Int) (l : List Int) : (mL (powMOK p ra ca n l) (powM p ra.toNat l n.toNat)).length ≤ 64 := by
  unfold mL
  cases h : powMOK p ra ca n l
  · simp
  · unfold powMOK at h
    simp only [Bool.and_eq_true] at h
    obtain ⟨r0, r8, _⟩ := isM_true h.1.1
    simp only [if_true, powM_len]
    exact Nat.mul_le_mul (show ra.toNat ≤ 8 by omega) (show ra.toNat ≤ 8 by omega)
-- walks
set_option maxRecDepth 100000 in
set_option maxHeartbeats 4000000 in
set_option linter.unusedVariables false in
theorem law_FnExactPowerOf (p : Int) (mm0 : Int) (mm1 : Int) (mm2 : Value) (lmm2 : List Int) (n : Int) (w : World) (wf_p : (Lit.int .i64 p).wf = true) (wf_mm0 : (Lit.int .i64 mm0).wf = true) (wf_mm1 : (Lit.int .i64 mm1).wf = true) (rmm2 : Raw w mm2 lmm2) (bdmm2 : Bd lmm2) (wf_n : (Lit.int .i64 n).wf = true) :
    Calls Try.prog 8 #[.int .i64 p, .agg #[.int .i64 mm0, .int .i64 mm1, mm2], .int .i64 n] w fun e w' => e = .returned (.bool true) ∧ Below w.heap.size w w' := by
  obtain ⟨lo_p, hi_p⟩ := wf_i64 wf_p
  clear wf_p
  obtain ⟨lo_mm0, hi_mm0⟩ := wf_i64 wf_mm0
  clear wf_mm0
  obtain ⟨lo_mm1, hi_mm1⟩ := wf_i64 wf_mm1
  clear wf_mm1
  have Rmm2 := Lib.hid rmm2
  have BDmm2 := Lib.hid bdmm2
  obtain ⟨a_mm2, cap_mm2, rfl, hlc_mm2, hcm_mm2⟩ := rmm2.shape
  clear rmm2 bdmm2
  obtain ⟨lo_n, hi_n⟩ := wf_i64 wf_n
  clear wf_n
  have b1 : Below w.heap.size w (w.alloc (.cells #[.int .i64 mm0, .int .i64 mm1, .slice a_mm2 lmm2.length cap_mm2] 24)) := (Below.refl _ _).alloc (Nat.le_refl _) _
  have hb2 := b1
  have p3 := Blk.new w #[.int .i64 mm0, .int .i64 mm1, .slice a_mm2 lmm2.length cap_mm2] 24
  by_cases hL0 : lmm2.length ≤ 1048576
  rotate_left
  · skip
    go_enter Try.func8, Try.ntmps8
    have es4 : szI 1048576 lmm2 = -1 := by unfold szI; rw [if_pos (by omega)]
    obtain ⟨k5, k6, k7⟩ := blk3 p3
    have k8 := p3.lt
    go_wp2_with fail
    refine (l_szMatrix _ _ _ lmm2 1048576 _ (Rmm2.out.below hb2) (by omega) (by omega)).mono ?_; rintro e w4 ⟨rfl, b4⟩
    clear k5 k6 k7 k8
    have p9 := p3.below b4
    have hb10 := below_call hb2 b4 hb2.size
    obtain ⟨k11, k12, k13⟩ := blk3 p9
    have k14 := p9.lt
    go_wp2
    go_ret
    exact ⟨rfl, hb10⟩
  have hn15 := powM64 p mm0 mm1 n lmm2
  go_enter Try.func8, Try.ntmps8
  have es16 : szI 1048576 lmm2 = 1048576 - (lmm2.length : Int) := by unfold szI; rw [if_neg (by omega)]
  obtain ⟨k17, k18, k19⟩ := blk3 p3
  have k20 := p3.lt
  go_wp2_with fail
  refine (l_szMatrix _ _ _ lmm2 1048576 _ (Rmm2.out.below hb2) (by omega) (by omega)).mono ?_; rintro e w16 ⟨rfl, b16⟩
  clear k17 k18 k19 k20
  have p21 := p3.below b16
  have hb22 := below_call hb2 b16 hb2.size
  obtain ⟨k24, k25, k26⟩ := blk3 p21
  have k27 := p21.lt
  go_wp2_with fail
  refine (l_toMatrix _ _ _ lmm2 _ (Rmm2.out.below hb22) (by omega)).mono ?_; rintro e w23 ⟨v23_0, rfl, h23_0, f23_0, b23⟩
  clear k24 k25 k26 k27
  have p28 := p21.below b23
  have hb29 := below_call hb22 b23 hb22.size
  obtain ⟨a23_0, cap23_0, rfl, _, _⟩ := h23_0.shape
  have sb30 := Lib.hid (sep_blk_new p21 f23_0)
  have Ff23_0 := Lib.hid f23_0
  clear f23_0
  obtain ⟨k32, k33, k34⟩ := blk3 p28
  have k35 := p28.lt
  go_wp2_with fail
  refine (s_PowerOf _ _ _ _ lmm2 _ _ h23_0).mono ?_; rintro e w31 ⟨v31_0, rfl, h31_0, f31_0, b31⟩
  clear k32 k33 k34 k35
  have h36 := h23_0.below b31
  have p37 := p28.below b31
  have hb38 := below_call hb29 b31 hb29.size
  obtain ⟨a31_0, cap31_0, rfl, _, _⟩ := h31_0.shape
  have sp39 := Lib.hid (sep_new h23_0 f31_0)
  have sp40 := Lib.hid (sep_symm sp39.out)
  have sb41 := Lib.hid (sep_blk_new p28 f31_0)
  have Ff31_0 := Lib.hid f31_0
  clear f31_0
  obtain ⟨k42, k43, k44⟩ := blk3 p37
  have k45 := p37.lt
  have sb46 := Lib.hid (sep_blk_old h36)
  have sb47 := Lib.hid (sep_blk_old h31_0)
  have b48 : Below w31.heap.size w31 (w31.alloc (.cells #[.int .i64 (mR (powMOK p mm0 mm1 n lmm2) mm0), .int .i64 (mR (powMOK p mm0 mm1 n lmm2) mm0), .slice a31_0 ((mL (powMOK p mm0 mm1 n lmm2) (powM p mm0.toNat lmm2 n.toNat))).length cap31_0] 26)) := (Below.refl _ w31).alloc (Nat.le_refl _) _
  have h49 := h36.below b48
  have h50 := h31_0.below b48
  have p51 := p37.below b48
  have hb52 := below_call hb38 b48 hb38.size
  have p53 := Blk.new w31 #[.int .i64 (mR (powMOK p mm0 mm1 n lmm2) mm0), .int .i64 (mR (powMOK p mm0 mm1 n lmm2) mm0), .slice a31_0 ((mL (powMOK p mm0 mm1 n lmm2) (powM p mm0.toNat lmm2 n.toNat))).length cap31_0] 26
  obtain ⟨k55, k56, k57⟩ := blk3 p51
  have k58 := p51.lt
  obtain ⟨k59, k60, k61⟩ := blk3 p53
  have k62 := p53.lt
  go_wp2_with fail
  refine (l_toMatrix _ _ _ lmm2 _ (Rmm2.out.below hb52) (by omega)).mono ?_; rintro e w54 ⟨v54_0, rfl, h54_0, f54_0, b54⟩
  clear k55 k56 k57 k58 k59 k60 k61 k62
  have h63 := h50.below b54
  have p64 := p51.below b54
  have p65 := p53.below b54
  have hb66 := below_call hb52 b54 hb52.size
  obtain ⟨a54_0, cap54_0, rfl, _, _⟩ := h54_0.shape
  have sp67 := Lib.hid (sep_new h50 f54_0)
  have sp68 := Lib.hid (sep_symm sp67.out)
  have sb69 := Lib.hid (sep_blk_new p51 f54_0)
  have sb70 := Lib.hid (sep_blk_new p53 f54_0)
  have Ff54_0 := Lib.hid f54_0
  clear f54_0
  obtain ⟨k71, k72, k73⟩ := blk3 p64
  have k74 := p64.lt
  obtain ⟨k75, k76, k77⟩ := blk3 p65
  have k78 := p65.lt
  have sb79 := Lib.hid (sep_blk_old h63)
  have sb80 := Lib.hid (sep_blk_old h54_0)
  have b81 : Below w54.heap.size w54 (w54.alloc (.cells #[.int .i64 mm0, .int .i64 mm1, .slice a54_0 (lmm2).length cap54_0] 26)) := (Below.refl _ w54).alloc (Nat.le_refl _) _
  have h82 := h63.below b81
  have h83 := h54_0.below b81
  have p84 := p64.below b81
  have p85 := p65.below b81
  have hb86 := below_call hb66 b81 hb66.size
  have p87 := Blk.new w54 #[.int .i64 mm0, .int .i64 mm1, .slice a54_0 (lmm2).length cap54_0] 26
  obtain ⟨k89, k90, k91⟩ := blk3 p84
  have k92 := p84.lt
  obtain ⟨k93, k94, k95⟩ := blk3 p85
  have k96 := p85.lt
  obtain ⟨k97, k98, k99⟩ := blk3 p87
  have k100 := p87.lt
  go_wp2_with fail
  refine (i_PowerOf _ _ _ _ lmm2 _ _ h83).mono ?_; rintro e w88 ⟨v88_0, rfl, h88_0, f88_0, b88⟩
  clear k89 k90 k91 k92 k93 k94 k95 k96 k97 k98 k99 k100
  have h101 := h82.below b88
  have h102 := h83.below b88
  have p103 := p84.below b88
  have p104 := p85.below b88
  have p105 := p87.below b88
  have hb106 := below_call hb86 b88 hb86.size
  obtain ⟨a88_0, cap88_0, rfl, _, _⟩ := h88_0.shape
  have sp107 := Lib.hid (sep_new h82 f88_0)
  have sp108 := Lib.hid (sep_symm sp107.out)
  have sp109 := Lib.hid (sep_new h83 f88_0)
  have sp110 := Lib.hid (sep_symm sp109.out)
  have sb111 := Lib.hid (sep_blk_new p84 f88_0)
  have sb112 := Lib.hid (sep_blk_new p85 f88_0)
  have sb113 := Lib.hid (sep_blk_new p87 f88_0)
  have Ff88_0 := Lib.hid f88_0
  clear f88_0
  obtain ⟨k114, k115, k116⟩ := blk3 p103
  have k117 := p103.lt
  obtain ⟨k118, k119, k120⟩ := blk3 p104
  have k121 := p104.lt
  obtain ⟨k122, k123, k124⟩ := blk3 p105
  have k125 := p105.lt
  have sb126 := Lib.hid (sep_blk_old h101)
  have sb127 := Lib.hid (sep_blk_old h102)
  have sb128 := Lib.hid (sep_blk_old h88_0)
  have b129 : Below w88.heap.size w88 (w88.alloc (.cells #[.int .i64 (mR (powMOK p mm0 mm1 n lmm2) mm0), .int .i64 (mR (powMOK p mm0 mm1 n lmm2) mm0), .slice a88_0 ((mL (powMOK p mm0 mm1 n lmm2) (powM p mm0.toNat lmm2 n.toNat))).length cap88_0] 26)) := (Below.refl _ w88).alloc (Nat.le_refl _) _
  have h130 := h101.below b129
  have h131 := h102.below b129
  have h132 := h88_0.below b129
  have p133 := p103.below b129
  have p134 := p104.below b129
  have p135 := p105.below b129
  have hb136 := below_call hb106 b129 hb106.size
  have p137 := Blk.new w88 #[.int .i64 (mR (powMOK p mm0 mm1 n lmm2) mm0), .int .i64 (mR (powMOK p mm0 mm1 n lmm2) mm0), .slice a88_0 ((mL (powMOK p mm0 mm1 n lmm2) (powM p mm0.toNat lmm2 n.toNat))).length cap88_0] 26
  have e138 := eqM_refl (mR (powMOK p mm0 mm1 n lmm2) mm0) (mR (powMOK p mm0 mm1 n lmm2) mm0) (mL (powMOK p mm0 mm1 n lmm2) (powM p mm0.toNat lmm2 n.toNat))
  obtain ⟨k139, k140, k141⟩ := blk3 p133
  have k142 := p133.lt
  obtain ⟨k143, k144, k145⟩ := blk3 p134
  have k146 := p134.lt
  obtain ⟨k147, k148, k149⟩ := blk3 p135
  have k150 := p135.lt
  obtain ⟨k151, k152, k153⟩ := blk3 p137
  have k154 := p137.lt
  go_wp2_with fail
  refine (l_eqMatrix _ _ _ _ _ _ _ _ _ h132 h130).mono ?_; rintro e w138 ⟨rfl, b138⟩
  clear k139 k140 k141 k142 k143 k144 k145 k146 k147 k148 k149 k150 k151 k152 k153 k154
  have h155 := h130.below b138
  have h156 := h131.below b138
  have h157 := h132.below b138
  have p158 := p133.below b138
  have p159 := p134.below b138
  have p160 := p135.below b138
  have p161 := p137.below b138
  have hb162 := below_call hb136 b138 hb136.size
  have e164 := eqM_refl mm0 mm1 lmm2
  obtain ⟨k165, k166, k167⟩ := blk3 p158
  have k168 := p158.lt
  obtain ⟨k169, k170, k171⟩ := blk3 p159
  have k172 := p159.lt
  obtain ⟨k173, k174, k175⟩ := blk3 p160
  have k176 := p160.lt
  obtain ⟨k177, k178, k179⟩ := blk3 p161
  have k180 := p161.lt
  go_wp2_with fail
  go_region_held3 (fun w' => w'.cell? ⟨w.heap.size, 0, none⟩ = some (.int .i64 mm0) ∧ w'.cell? ⟨w.heap.size, 1, none⟩ = some (.int .i64 mm1) ∧ w'.cell? ⟨w.heap.size, 2, none⟩ = some (.slice a_mm2 lmm2.length cap_mm2) ∧ w'.cell? ⟨w31.heap.size, 0, none⟩ = some (.int .i64 (mR (powMOK p mm0 mm1 n lmm2) mm0)) ∧ w'.cell? ⟨w31.heap.size, 1, none⟩ = some (.int .i64 (mR (powMOK p mm0 mm1 n lmm2) mm0)) ∧ w'.cell? ⟨w31.heap.size, 2, none⟩ = some (.slice a31_0 ((mL (powMOK p mm0 mm1 n lmm2) (powM p mm0.toNat lmm2 n.toNat))).length cap31_0) ∧ w'.cell? ⟨w54.heap.size, 0, none⟩ = some (.int .i64 mm0) ∧ w'.cell? ⟨w54.heap.size, 1, none⟩ = some (.int .i64 mm1) ∧ w'.cell? ⟨w54.heap.size, 2, none⟩ = some (.slice a54_0 (lmm2).length cap54_0) ∧ w'.cell? ⟨w88.heap.size, 0, none⟩ = some (.int .i64 (mR (powMOK p mm0 mm1 n lmm2) mm0)) ∧ w'.cell? ⟨w88.heap.size, 1, none⟩ = some (.int .i64 (mR (powMOK p mm0 mm1 n lmm2) mm0)) ∧ w'.cell? ⟨w88.heap.size, 2, none⟩ = some (.slice a88_0 ((mL (powMOK p mm0 mm1 n lmm2) (powM p mm0.toNat lmm2 n.toNat))).length cap88_0))
    (first
      | go_keep
      | exact ⟨(p158.below (below_of_drew b163)).cell 0, (p158.below (below_of_drew b163)).cell 1, (p158.below (below_of_drew b163)).cell 2, (p159.below (below_of_drew b163)).cell 0, (p159.below (below_of_drew b163)).cell 1, (p159.below (below_of_drew b163)).cell 2, (p160.below (below_of_drew b163)).cell 0, (p160.below (below_of_drew b163)).cell 1, (p160.below (below_of_drew b163)).cell 2, (p161.below (below_of_drew b163)).cell 0, (p161.below (below_of_drew b163)).cell 1, (p161.below (below_of_drew b163)).cell 2⟩
      | exact ⟨((p158.below (below_of_drew b163)).below b164).cell 0, ((p158.below (below_of_drew b163)).below b164).cell 1, ((p158.below (below_of_drew b163)).below b164).cell 2, ((p159.below (below_of_drew b163)).below b164).cell 0, ((p159.below (below_of_drew b163)).below b164).cell 1, ((p159.below (below_of_drew b163)).below b164).cell 2, ((p160.below (below_of_drew b163)).below b164).cell 0, ((p160.below (below_of_drew b163)).below b164).cell 1, ((p160.below (below_of_drew b163)).below b164).cell 2, ((p161.below (below_of_drew b163)).below b164).cell 0, ((p161.below (below_of_drew b163)).below b164).cell 1, ((p161.below (below_of_drew b163)).below b164).cell 2⟩)
    (first
      | (go_at_call 15; (with_reducible refine (l_toMatrix _ _ _ lmm2 _ (Rmm2.out.below hb162).drew (by omega)).mono ?_); rintro e w163 ⟨v163_0, rfl, h163_0, f163_0, b163⟩)
      | (go_at_call 17; (with_reducible refine (l_eqMatrix _ _ _ _ _ _ _ _ _ (h156.below (below_of_drew b163)) h163_0).mono ?_); rintro e w164 ⟨rfl, b164⟩))
  clear k165 k166 k167 k168 k169 k170 k171 k172 k173 k174 k175 k176 k177 k178 k179 k180
  have Db163 := below_of_drew b163
  have h181 := h155.below Db163
  have h182 := h156.below Db163
  have h183 := h157.below Db163
  have p184 := p158.below Db163
  have p185 := p159.below Db163
  have p186 := p160.below Db163
  have p187 := p161.below Db163
  have hb188 := below_call hb162 Db163 hb162.size
  have h189 := h181.below b164
  have h190 := h182.below b164
  have h191 := h183.below b164
  have p192 := p184.below b164
  have p193 := p185.below b164
  have p194 := p186.below b164
  have p195 := p187.below b164
  have hb196 := below_call hb188 b164 hb188.size
  obtain ⟨k198, k199, k200⟩ := blk3 p192
  have k201 := p192.lt
  obtain ⟨k202, k203, k204⟩ := blk3 p193
  have k205 := p193.lt
  obtain ⟨k206, k207, k208⟩ := blk3 p194
  have k209 := p194.lt
  obtain ⟨k210, k211, k212⟩ := blk3 p195
  have k213 := p195.lt
  go_wp2_with fail
  refine (l_markMatrix _ _ _ lmm2 _ _ h190 (by omega) (by omega)).mono ?_; rintro e w197 ⟨rfl, h197_0, c197⟩
  clear k198 k199 k200 k201 k202 k203 k204 k205 k206 k207 k208 k209 k210 k211 k212 k213
  have p214 := p192.chg c197 sb69.out
  have p215 := p193.chg c197 sb70.out
  have p216 := p194.chg c197 sb80.out
  have p217 := p195.chg c197 sb127.out
  have h218 := h189.chg c197 sp67.out
  have h219 := h191.chg c197 sp110.out
  have hb220 := below_chg hb196 c197 hb196.size (fun k h => Nat.le_trans hb52.size (Ff54_0.out k h))
  have e221 := eqM_refl (mR (powMOK p mm0 mm1 n lmm2) mm0) (mR (powMOK p mm0 mm1 n lmm2) mm0) (mL (powMOK p mm0 mm1 n lmm2) (powM p mm0.toNat lmm2 n.toNat))
  obtain ⟨k222, k223, k224⟩ := blk3 p214
  have k225 := p214.lt
  obtain ⟨k226, k227, k228⟩ := blk3 p215
  have k229 := p215.lt
  obtain ⟨k230, k231, k232⟩ := blk3 p216
  have k233 := p216.lt
  obtain ⟨k234, k235, k236⟩ := blk3 p217
  have k237 := p217.lt
  go_wp2_with fail
  refine (l_eqMatrix _ _ _ _ _ _ _ _ _ h219 h218).mono ?_; rintro e w221 ⟨rfl, b221⟩
  clear k222 k223 k224 k225 k226 k227 k228 k229 k230 k231 k232 k233 k234 k235 k236 k237
  have h238 := h218.below b221
  have h239 := h197_0.below b221
  have h240 := h219.below b221
  have p241 := p214.below b221
  have p242 := p215.below b221
  have p243 := p216.below b221
  have p244 := p217.below b221
  have hb245 := below_call hb220 b221 hb220.size
  obtain ⟨k247, k248, k249⟩ := blk3 p241
  have k250 := p241.lt
  obtain ⟨k251, k252, k253⟩ := blk3 p242
  have k254 := p242.lt
  obtain ⟨k255, k256, k257⟩ := blk3 p244
  have k258 := p244.lt
  go_wp2_with fail
  refine (l_markMatrix _ _ _ (mL (powMOK p mm0 mm1 n lmm2) (powM p mm0.toNat lmm2 n.toNat)) _ _ h240 (by omega) (by omega)).mono ?_; rintro e w246 ⟨rfl, h246_0, c246⟩
  clear k247 k248 k249 k250 k251 k252 k253 k254 k255 k256 k257 k258
  have p259 := p241.chg c246 sb111.out
  have p260 := p242.chg c246 sb112.out
  have p261 := p244.chg c246 sb128.out
  have h262 := h238.chg c246 sp107.out
  have hb263 := below_chg hb245 c246 hb245.size (fun k h => Nat.le_trans hb86.size (Ff88_0.out k h))
  obtain ⟨k265, k266, k267⟩ := blk3 p259
  have k268 := p259.lt
  obtain ⟨k269, k270, k271⟩ := blk3 p260
  have k272 := p260.lt
  obtain ⟨k273, k274, k275⟩ := blk3 p261
  have k276 := p261.lt
  go_wp2_with fail
  refine (l_heldMatrix _ _ _ _ _ _ h246_0 (by omega) (by omega)).mono ?_; rintro e w264 ⟨rfl, b264⟩
  clear k265 k266 k267 k268 k269 k270 k271 k272 k273 k274 k275 k276
  have h277 := h262.below b264
  have h278 := h246_0.below b264
  have p279 := p259.below b264
  have p280 := p260.below b264
  have p281 := p261.below b264
  have hb282 := below_call hb263 b264 hb263.size
  obtain ⟨k284, k285, k286⟩ := blk3 p279
  have k287 := p279.lt
  obtain ⟨k288, k289, k290⟩ := blk3 p280
  have k291 := p280.lt
  obtain ⟨k292, k293, k294⟩ := blk3 p281
  have k295 := p281.lt
  go_wp2_with fail
  refine (l_toMatrix _ _ _ lmm2 _ (Rmm2.out.below hb282) (by omega)).mono ?_; rintro e w283 ⟨v283_0, rfl, h283_0, f283_0, b283⟩
  clear k284 k285 k286 k287 k288 k289 k290 k291 k292 k293 k294 k295
  have h296 := h277.below b283
  have h297 := h278.below b283
  have p298 := p279.below b283
  have p299 := p280.below b283
  have p300 := p281.below b283
  have hb301 := below_call hb282 b283 hb282.size
  obtain ⟨a283_0, cap283_0, rfl, _, _⟩ := h283_0.shape
  have sp302 := Lib.hid (sep_new h277 f283_0)
  have sp303 := Lib.hid (sep_symm sp302.out)
  have sp304 := Lib.hid (sep_new h278 f283_0)
  have sp305 := Lib.hid (sep_symm sp304.out)
  have sb306 := Lib.hid (sep_blk_new p279 f283_0)
  have sb307 := Lib.hid (sep_blk_new p280 f283_0)
  have sb308 := Lib.hid (sep_blk_new p281 f283_0)
  have Ff283_0 := Lib.hid f283_0
  clear f283_0
  obtain ⟨k310, k311, k312⟩ := blk3 p298
  have k313 := p298.lt
  obtain ⟨k314, k315, k316⟩ := blk3 p299
  have k317 := p299.lt
  obtain ⟨k318, k319, k320⟩ := blk3 p300
  have k321 := p300.lt
  go_wp2_with fail
  refine (i_PowerOf _ _ _ _ lmm2 _ _ h283_0).mono ?_; rintro e w309 ⟨v309_0, rfl, h309_0, f309_0, b309⟩
  clear k310 k311 k312 k313 k314 k315 k316 k317 k318 k319 k320 k321
  have h322 := h296.below b309
  have h323 := h297.below b309
  have h324 := h283_0.below b309
  have p325 := p298.below b309
  have p326 := p299.below b309
  have p327 := p300.below b309
  have hb328 := below_call hb301 b309 hb301.size
  obtain ⟨a309_0, cap309_0, rfl, _, _⟩ := h309_0.shape
  have sp329 := Lib.hid (sep_new h296 f309_0)
  have sp330 := Lib.hid (sep_symm sp329.out)
  have sp331 := Lib.hid (sep_new h297 f309_0)
  have sp332 := Lib.hid (sep_symm sp331.out)
  have sp333 := Lib.hid (sep_new h283_0 f309_0)
  have sp334 := Lib.hid (sep_symm sp333.out)
  have sb335 := Lib.hid (sep_blk_new p298 f309_0)
  have sb336 := Lib.hid (sep_blk_new p299 f309_0)
  have sb337 := Lib.hid (sep_blk_new p300 f309_0)
  have Ff309_0 := Lib.hid f309_0
  clear f309_0
  obtain ⟨k338, k339, k340⟩ := blk3 p325
  have k341 := p325.lt
  obtain ⟨k342, k343, k344⟩ := blk3 p326
  have k345 := p326.lt
  obtain ⟨k346, k347, k348⟩ := blk3 p327
  have k349 := p327.lt
  have sb350 := Lib.hid (sep_blk_old h322)
  have sb351 := Lib.hid (sep_blk_old h323)
  have sb352 := Lib.hid (sep_blk_old h324)
  have sb353 := Lib.hid (sep_blk_old h309_0)
  have b354 : Below w309.heap.size w309 (w309.alloc (.cells #[.int .i64 (mR (powMOK p mm0 mm1 n lmm2) mm0), .int .i64 (mR (powMOK p mm0 mm1 n lmm2) mm0), .slice a309_0 ((mL (powMOK p mm0 mm1 n lmm2) (powM p mm0.toNat lmm2 n.toNat))).length cap309_0] 26)) := (Below.refl _ w309).alloc (Nat.le_refl _) _
  have h355 := h322.below b354
  have h356 := h323.below b354
  have h357 := h324.below b354
  have h358 := h309_0.below b354
  have p359 := p325.below b354
  have p360 := p326.below b354
  have p361 := p327.below b354
  have hb362 := below_call hb328 b354 hb328.size
  have p363 := Blk.new w309 #[.int .i64 (mR (powMOK p mm0 mm1 n lmm2) mm0), .int .i64 (mR (powMOK p mm0 mm1 n lmm2) mm0), .slice a309_0 ((mL (powMOK p mm0 mm1 n lmm2) (powM p mm0.toNat lmm2 n.toNat))).length cap309_0] 26
  have e364 := eqM_refl (mR (powMOK p mm0 mm1 n lmm2) mm0) (mR (powMOK p mm0 mm1 n lmm2) mm0) (mL (powMOK p mm0 mm1 n lmm2) (powM p mm0.toNat lmm2 n.toNat))
  obtain ⟨k365, k366, k367⟩ := blk3 p359
  have k368 := p359.lt
  obtain ⟨k369, k370, k371⟩ := blk3 p360
  have k372 := p360.lt
  obtain ⟨k373, k374, k375⟩ := blk3 p361
  have k376 := p361.lt
  obtain ⟨k377, k378, k379⟩ := blk3 p363
  have k380 := p363.lt
  go_wp2_with fail
  refine (l_eqMatrix _ _ _ _ _ _ _ _ _ h358 h355).mono ?_; rintro e w364 ⟨rfl, b364⟩
  clear k365 k366 k367 k368 k369 k370 k371 k372 k373 k374 k375 k376 k377 k378 k379 k380
  have h381 := h355.below b364
  have h382 := h356.below b364
  have h383 := h358.below b364
  have p384 := p359.below b364
  have p385 := p360.below b364
  have p386 := p361.below b364
  have p387 := p363.below b364
  have hb388 := below_call hb362 b364 hb362.size
  obtain ⟨k390, k391, k392⟩ := blk3 p384
  have k393 := p384.lt
  obtain ⟨k394, k395, k396⟩ := blk3 p386
  have k397 := p386.lt
  go_wp2_with fail
  refine (l_heldMatrix _ _ _ _ _ _ h382 (by omega) (by omega)).mono ?_; rintro e w389 ⟨rfl, b389⟩
  clear k390 k391 k392 k393 k394 k395 k396 k397
  have h398 := h382.below b389
  have p399 := p384.below b389
  have p400 := p386.below b389
  have hb401 := below_call hb388 b389 hb388.size
  obtain ⟨k402, k403, k404⟩ := blk3 p399
  have k405 := p399.lt
  obtain ⟨k406, k407, k408⟩ := blk3 p400
  have k409 := p400.lt
  go_wp2
  go_ret
  exact ⟨rfl, hb401⟩

end Go.Proofs.Ytcjjjejocnlhmaa
