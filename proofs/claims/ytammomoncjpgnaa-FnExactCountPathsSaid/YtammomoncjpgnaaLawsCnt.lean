/- Walk of the law CountPaths. -/
import Derived.Test.YtammomoncjpgnaaBetI
namespace Go.Proofs.Ytammomoncjpgnaa
open Go.RowKit
set_option linter.unusedVariables false
set_option linter.unusedSimpArgs false

-- walks
set_option maxRecDepth 100000 in
set_option maxHeartbeats 4000000 in
set_option linter.unusedVariables false in
theorem law_FnExactCountPaths (qq0 : Int) (qq1 : Value) (lqq1 : List Int) (qq2 : Value) (lqq2 : List Int) (a : Int) (b : Int) (w : World) (wf_qq0 : (Lit.int .i64 qq0).wf = true) (rqq1 : Raw w qq1 lqq1) (bdqq1 : Bd lqq1) (rqq2 : Raw w qq2 lqq2) (bdqq2 : Bd lqq2) (wf_a : (Lit.int .i64 a).wf = true) (wf_b : (Lit.int .i64 b).wf = true) :
    Calls Try.prog 6 #[.agg #[.int .i64 qq0, qq1, qq2], .int .i64 a, .int .i64 b] w fun e w' => e = .returned (.bool true) ∧ Below w.heap.size w w' := by
  obtain ⟨lo_qq0, hi_qq0⟩ := wf_i64 wf_qq0
  clear wf_qq0
  have Rqq1 := Lib.hid rqq1
  have BDqq1 := Lib.hid bdqq1
  obtain ⟨a_qq1, cap_qq1, rfl, hlc_qq1, hcm_qq1⟩ := rqq1.shape
  clear rqq1 bdqq1
  have Rqq2 := Lib.hid rqq2
  have BDqq2 := Lib.hid bdqq2
  obtain ⟨a_qq2, cap_qq2, rfl, hlc_qq2, hcm_qq2⟩ := rqq2.shape
  clear rqq2 bdqq2
  obtain ⟨lo_a, hi_a⟩ := wf_i64 wf_a
  clear wf_a
  obtain ⟨lo_b, hi_b⟩ := wf_i64 wf_b
  clear wf_b
  have b1 : Below w.heap.size w (w.alloc (.cells #[.int .i64 qq0, .slice a_qq1 lqq1.length cap_qq1, .slice a_qq2 lqq2.length cap_qq2] 24)) := (Below.refl _ _).alloc (Nat.le_refl _) _
  have hb2 := b1
  have p3 := Blk.new w #[.int .i64 qq0, .slice a_qq1 lqq1.length cap_qq1, .slice a_qq2 lqq2.length cap_qq2] 24
  by_cases hL0 : lqq1.length + lqq2.length ≤ 1048576
  rotate_left
  · skip
    go_enter Try.func6, Try.ntmps6
    have es4 : szQ 1048576 lqq1 lqq2 = -1 := by unfold szQ; simp only [szI]; repeat (first | rfl | omega | split)
    obtain ⟨k5, k6, k7⟩ := blk3 p3
    have k8 := p3.lt
    go_wp2_with fail
    refine (l_szQuiver _ _ _ lqq1 lqq2 1048576 _ (Rqq1.out.below hb2) (Rqq2.out.below hb2) (by omega) (by omega)).mono ?_; rintro e w4 ⟨rfl, b4⟩
    clear k5 k6 k7 k8
    have p9 := p3.below b4
    have hb10 := below_call hb2 b4 hb2.size
    obtain ⟨k11, k12, k13⟩ := blk3 p9
    have k14 := p9.lt
    go_wp2
    go_ret
    exact ⟨rfl, hb10⟩
  go_enter Try.func6, Try.ntmps6
  have es15 : szQ 1048576 lqq1 lqq2 = 1048576 - (lqq1.length : Int) - (lqq2.length : Int) := by unfold szQ; simp only [szI]; repeat (first | rfl | omega | split)
  obtain ⟨k16, k17, k18⟩ := blk3 p3
  have k19 := p3.lt
  go_wp2_with fail
  refine (l_szQuiver _ _ _ lqq1 lqq2 1048576 _ (Rqq1.out.below hb2) (Rqq2.out.below hb2) (by omega) (by omega)).mono ?_; rintro e w15 ⟨rfl, b15⟩
  clear k16 k17 k18 k19
  have p20 := p3.below b15
  have hb21 := below_call hb2 b15 hb2.size
  obtain ⟨k23, k24, k25⟩ := blk3 p20
  have k26 := p20.lt
  go_wp2_with fail
  refine (l_toQuiver _ _ _ lqq1 lqq2 _ (Rqq1.out.below hb21) (Rqq2.out.below hb21) (by omega) (by omega)).mono ?_; rintro e w22 ⟨v22_0, v22_1, rfl, h22_0, h22_1, f22_0, f22_1, s22_01, b22⟩
  clear k23 k24 k25 k26
  have p27 := p20.below b22
  have hb28 := below_call hb21 b22 hb21.size
  obtain ⟨a22_0, cap22_0, rfl, _, _⟩ := h22_0.shape
  have sb29 := Lib.hid (sep_blk_new p20 f22_0)
  obtain ⟨a22_1, cap22_1, rfl, _, _⟩ := h22_1.shape
  have sb30 := Lib.hid (sep_blk_new p20 f22_1)
  have Ss22_01 := Lib.hid s22_01
  have Ts22_01 := Lib.hid (sep_symm Ss22_01.out)
  clear s22_01
  have Ff22_0 := Lib.hid f22_0
  clear f22_0
  have Ff22_1 := Lib.hid f22_1
  clear f22_1
  obtain ⟨k32, k33, k34⟩ := blk3 p27
  have k35 := p27.lt
  go_wp2_with fail
  refine (s_CountPaths _ _ _ lqq1 lqq2 _ _ _ h22_0 h22_1).mono ?_; rintro e w31 ⟨rfl, b31⟩
  clear k32 k33 k34 k35
  have h36 := h22_0.below b31
  have h37 := h22_1.below b31
  have p38 := p27.below b31
  have hb39 := below_call hb28 b31 hb28.size
  obtain ⟨k41, k42, k43⟩ := blk3 p38
  have k44 := p38.lt
  go_wp2_with fail
  refine (l_toQuiver _ _ _ lqq1 lqq2 _ (Rqq1.out.below hb39) (Rqq2.out.below hb39) (by omega) (by omega)).mono ?_; rintro e w40 ⟨v40_0, v40_1, rfl, h40_0, h40_1, f40_0, f40_1, s40_01, b40⟩
  clear k41 k42 k43 k44
  have p45 := p38.below b40
  have hb46 := below_call hb39 b40 hb39.size
  obtain ⟨a40_0, cap40_0, rfl, _, _⟩ := h40_0.shape
  have sb47 := Lib.hid (sep_blk_new p38 f40_0)
  obtain ⟨a40_1, cap40_1, rfl, _, _⟩ := h40_1.shape
  have sb48 := Lib.hid (sep_blk_new p38 f40_1)
  have Ss40_01 := Lib.hid s40_01
  have Ts40_01 := Lib.hid (sep_symm Ss40_01.out)
  clear s40_01
  have Ff40_0 := Lib.hid f40_0
  clear f40_0
  have Ff40_1 := Lib.hid f40_1
  clear f40_1
  obtain ⟨k49, k50, k51⟩ := blk3 p45
  have k52 := p45.lt
  have sb53 := Lib.hid (sep_blk_old h40_0)
  have sb54 := Lib.hid (sep_blk_old h40_1)
  have b55 : Below w40.heap.size w40 (w40.alloc (.cells #[.int .i64 qq0, .slice a40_0 (lqq1).length cap40_0, .slice a40_1 (lqq2).length cap40_1] 29)) := (Below.refl _ w40).alloc (Nat.le_refl _) _
  have h56 := h40_0.below b55
  have h57 := h40_1.below b55
  have p58 := p45.below b55
  have hb59 := below_call hb46 b55 hb46.size
  have p60 := Blk.new w40 #[.int .i64 qq0, .slice a40_0 (lqq1).length cap40_0, .slice a40_1 (lqq2).length cap40_1] 29
  obtain ⟨k62, k63, k64⟩ := blk3 p58
  have k65 := p58.lt
  obtain ⟨k66, k67, k68⟩ := blk3 p60
  have k69 := p60.lt
  go_wp2_with fail
  refine (i_CountPaths _ _ _ lqq1 lqq2 _ _ _ h56 h57).mono ?_; rintro e w61 ⟨rfl, b61⟩
  clear k62 k63 k64 k65 k66 k67 k68 k69
  have h70 := h56.below b61
  have h71 := h57.below b61
  have p72 := p58.below b61
  have p73 := p60.below b61
  have hb74 := below_call hb59 b61 hb59.size
  have e76 := eqQ_refl qq0 lqq1 lqq2
  obtain ⟨k77, k78, k79⟩ := blk3 p72
  have k80 := p72.lt
  obtain ⟨k81, k82, k83⟩ := blk3 p73
  have k84 := p73.lt
  go_wp2_with fail
  go_region_held3 (fun w' => w'.cell? ⟨w.heap.size, 0, none⟩ = some (.int .i64 qq0) ∧ w'.cell? ⟨w.heap.size, 1, none⟩ = some (.slice a_qq1 lqq1.length cap_qq1) ∧ w'.cell? ⟨w.heap.size, 2, none⟩ = some (.slice a_qq2 lqq2.length cap_qq2) ∧ w'.cell? ⟨w40.heap.size, 0, none⟩ = some (.int .i64 qq0) ∧ w'.cell? ⟨w40.heap.size, 1, none⟩ = some (.slice a40_0 (lqq1).length cap40_0) ∧ w'.cell? ⟨w40.heap.size, 2, none⟩ = some (.slice a40_1 (lqq2).length cap40_1))
    (first
      | go_keep
      | exact ⟨(p72.below (below_of_drew b75)).cell 0, (p72.below (below_of_drew b75)).cell 1, (p72.below (below_of_drew b75)).cell 2, (p73.below (below_of_drew b75)).cell 0, (p73.below (below_of_drew b75)).cell 1, (p73.below (below_of_drew b75)).cell 2⟩
      | exact ⟨((p72.below (below_of_drew b75)).below b76).cell 0, ((p72.below (below_of_drew b75)).below b76).cell 1, ((p72.below (below_of_drew b75)).below b76).cell 2, ((p73.below (below_of_drew b75)).below b76).cell 0, ((p73.below (below_of_drew b75)).below b76).cell 1, ((p73.below (below_of_drew b75)).below b76).cell 2⟩)
    (first
      | (go_at_call 9; (with_reducible refine (l_toQuiver _ _ _ lqq1 lqq2 _ (Rqq1.out.below hb74).drew (Rqq2.out.below hb74).drew (by omega) (by omega)).mono ?_); rintro e w75 ⟨v75_0, v75_1, rfl, h75_0, h75_1, f75_0, f75_1, s75_01, b75⟩)
      | (go_at_call 12; (with_reducible refine (l_eqQuiver _ _ _ _ _ _ _ _ _ _ _ (h70.below (below_of_drew b75)) (h71.below (below_of_drew b75)) h75_0 h75_1).mono ?_); rintro e w76 ⟨rfl, b76⟩))
  clear k77 k78 k79 k80 k81 k82 k83 k84
  have Db75 := below_of_drew b75
  have h85 := h70.below Db75
  have h86 := h71.below Db75
  have p87 := p72.below Db75
  have p88 := p73.below Db75
  have hb89 := below_call hb74 Db75 hb74.size
  have h90 := h85.below b76
  have h91 := h86.below b76
  have p92 := p87.below b76
  have p93 := p88.below b76
  have hb94 := below_call hb89 b76 hb89.size
  obtain ⟨k95, k96, k97⟩ := blk3 p92
  have k98 := p92.lt
  obtain ⟨k99, k100, k101⟩ := blk3 p93
  have k102 := p93.lt
  go_wp2
  go_ret
  exact ⟨rfl, hb94⟩

end Go.Proofs.Ytammomoncjpgnaa
