/- Walks of laws whose program writes numbers as texts. -/
import Derived.Test.YtdmjikfjmimfmaaDoorPmI
import Derived.Test.YtdmjikfjmimfmaaDoorMatAux
import Derived.Test.YtdmjikfjmimfmaaDoorLawR
namespace Go.Proofs.YtdmjikfjmimfmaaDoor
open Go.RowKit
set_option linter.unusedVariables false
set_option linter.unusedSimpArgs false

-- walks
set_option maxRecDepth 100000 in
set_option maxHeartbeats 4000000 in
set_option linter.unusedVariables false in
theorem law_FnExactParseMatrix (p : Int) (s : ByteArray) (w : World) (wf_p : (Lit.int .i64 p).wf = true) (ws_s : s.size ≤ maxLen) (ht : DoorM w) :
    Calls Tryd.prog 8 #[.int .i64 p, .string s] w fun e w' => e = .returned (.bool true) ∧ Below w.heap.size w w' := by
  have HTAB := Lib.hid ht
  clear ht
  obtain ⟨lo_p, hi_p⟩ := wf_i64 wf_p
  clear wf_p
  unfold maxLen at ws_s
  by_cases hL0 : s.size ≤ 1048576
  rotate_left
  · skip
    go_enter Tryd.func8, Tryd.ntmps8
    go_wp2
    go_ret
    exact ⟨rfl, Below.refl _ _⟩
  have hn1 := pm_len p s
  go_enter Tryd.func8, Tryd.ntmps8
  go_wp2_with fail
  refine (s_ParseMatrix p s _).mono ?_; rintro e w2 ⟨v2_0, rfl, h2_0, f2_0, b2⟩
  have hb3 := b2
  obtain ⟨a2_0, cap2_0, rfl, _, _⟩ := h2_0.shape
  have Ff2_0 := Lib.hid f2_0
  clear f2_0
  have sb4 := Lib.hid (sep_blk_old h2_0)
  have b5 : Below w2.heap.size w2 (w2.alloc (.cells #[.int .i64 (pmR p s), .int .i64 (pmC p s), .slice a2_0 ((pmL p s)).length cap2_0] 43)) := (Below.refl _ w2).alloc (Nat.le_refl _) _
  have h6 := h2_0.below b5
  have hb7 := below_call hb3 b5 hb3.size
  have p8 := Blk.new w2 #[.int .i64 (pmR p s), .int .i64 (pmC p s), .slice a2_0 ((pmL p s)).length cap2_0] 43
  obtain ⟨k10, k11, k12⟩ := blk3 p8
  have k13 := p8.lt
  go_wp2_with fail
  refine (i_ParseMatrix p s _ (by omega) (HTAB.out.below hb7 (Nat.le_refl _))).mono ?_; rintro e w9 ⟨v9_0, rfl, h9_0, f9_0, b9⟩
  clear k10 k11 k12 k13
  have h14 := h6.below b9
  have p15 := p8.below b9
  have hb16 := below_call hb7 b9 hb7.size
  obtain ⟨a9_0, cap9_0, rfl, _, _⟩ := h9_0.shape
  have sp17 := Lib.hid (sep_new h6 f9_0)
  have sp18 := Lib.hid (sep_symm sp17.out)
  have sb19 := Lib.hid (sep_blk_new p8 f9_0)
  have Ff9_0 := Lib.hid f9_0
  clear f9_0
  obtain ⟨k20, k21, k22⟩ := blk3 p15
  have k23 := p15.lt
  have sb24 := Lib.hid (sep_blk_old h14)
  have sb25 := Lib.hid (sep_blk_old h9_0)
  have b26 : Below w9.heap.size w9 (w9.alloc (.cells #[.int .i64 (pmR p s), .int .i64 (pmC p s), .slice a9_0 ((pmL p s)).length cap9_0] 43)) := (Below.refl _ w9).alloc (Nat.le_refl _) _
  have h27 := h14.below b26
  have h28 := h9_0.below b26
  have p29 := p15.below b26
  have hb30 := below_call hb16 b26 hb16.size
  have p31 := Blk.new w9 #[.int .i64 (pmR p s), .int .i64 (pmC p s), .slice a9_0 ((pmL p s)).length cap9_0] 43
  have e32 := eqM_refl (pmR p s) (pmC p s) (pmL p s)
  obtain ⟨k33, k34, k35⟩ := blk3 p29
  have k36 := p29.lt
  obtain ⟨k37, k38, k39⟩ := blk3 p31
  have k40 := p31.lt
  go_wp2_with fail
  refine (l_eqMatrix _ _ _ _ _ _ _ _ _ h28 h27).mono ?_; rintro e w32 ⟨rfl, b32⟩
  clear k33 k34 k35 k36 k37 k38 k39 k40
  have h41 := h27.below b32
  have h42 := h28.below b32
  have p43 := p29.below b32
  have p44 := p31.below b32
  have hb45 := below_call hb30 b32 hb30.size
  obtain ⟨k47, k48, k49⟩ := blk3 p43
  have k50 := p43.lt
  obtain ⟨k51, k52, k53⟩ := blk3 p44
  have k54 := p44.lt
  go_wp2_with fail
  refine (l_markMatrix _ _ _ (pmL p s) _ _ h42 (by omega) (by omega)).mono ?_; rintro e w46 ⟨rfl, h46_0, c46⟩
  clear k47 k48 k49 k50 k51 k52 k53 k54
  have p55 := p43.chg c46 sb19.out
  have p56 := p44.chg c46 sb25.out
  have h57 := h41.chg c46 sp17.out
  have hb58 := below_chg hb45 c46 hb45.size (fun k h => Nat.le_trans hb7.size (Ff9_0.out k h))
  obtain ⟨k60, k61, k62⟩ := blk3 p55
  have k63 := p55.lt
  obtain ⟨k64, k65, k66⟩ := blk3 p56
  have k67 := p56.lt
  go_wp2_with fail
  refine (l_heldMatrix _ _ _ _ _ _ h46_0 (by omega) (by omega)).mono ?_; rintro e w59 ⟨rfl, b59⟩
  clear k60 k61 k62 k63 k64 k65 k66 k67
  have h68 := h57.below b59
  have h69 := h46_0.below b59
  have p70 := p55.below b59
  have p71 := p56.below b59
  have hb72 := below_call hb58 b59 hb58.size
  obtain ⟨k74, k75, k76⟩ := blk3 p70
  have k77 := p70.lt
  obtain ⟨k78, k79, k80⟩ := blk3 p71
  have k81 := p71.lt
  go_wp2_with fail
  refine (i_ParseMatrix p s _ (by omega) (HTAB.out.below hb72 (Nat.le_refl _))).mono ?_; rintro e w73 ⟨v73_0, rfl, h73_0, f73_0, b73⟩
  clear k74 k75 k76 k77 k78 k79 k80 k81
  have h82 := h68.below b73
  have h83 := h69.below b73
  have p84 := p70.below b73
  have p85 := p71.below b73
  have hb86 := below_call hb72 b73 hb72.size
  obtain ⟨a73_0, cap73_0, rfl, _, _⟩ := h73_0.shape
  have sp87 := Lib.hid (sep_new h68 f73_0)
  have sp88 := Lib.hid (sep_symm sp87.out)
  have sp89 := Lib.hid (sep_new h69 f73_0)
  have sp90 := Lib.hid (sep_symm sp89.out)
  have sb91 := Lib.hid (sep_blk_new p70 f73_0)
  have sb92 := Lib.hid (sep_blk_new p71 f73_0)
  have Ff73_0 := Lib.hid f73_0
  clear f73_0
  obtain ⟨k93, k94, k95⟩ := blk3 p84
  have k96 := p84.lt
  obtain ⟨k97, k98, k99⟩ := blk3 p85
  have k100 := p85.lt
  have sb101 := Lib.hid (sep_blk_old h82)
  have sb102 := Lib.hid (sep_blk_old h83)
  have sb103 := Lib.hid (sep_blk_old h73_0)
  have b104 : Below w73.heap.size w73 (w73.alloc (.cells #[.int .i64 (pmR p s), .int .i64 (pmC p s), .slice a73_0 ((pmL p s)).length cap73_0] 43)) := (Below.refl _ w73).alloc (Nat.le_refl _) _
  have h105 := h82.below b104
  have h106 := h83.below b104
  have h107 := h73_0.below b104
  have p108 := p84.below b104
  have p109 := p85.below b104
  have hb110 := below_call hb86 b104 hb86.size
  have p111 := Blk.new w73 #[.int .i64 (pmR p s), .int .i64 (pmC p s), .slice a73_0 ((pmL p s)).length cap73_0] 43
  have e112 := eqM_refl (pmR p s) (pmC p s) (pmL p s)
  obtain ⟨k113, k114, k115⟩ := blk3 p108
  have k116 := p108.lt
  obtain ⟨k117, k118, k119⟩ := blk3 p109
  have k120 := p109.lt
  obtain ⟨k121, k122, k123⟩ := blk3 p111
  have k124 := p111.lt
  go_wp2_with fail
  refine (l_eqMatrix _ _ _ _ _ _ _ _ _ h107 h105).mono ?_; rintro e w112 ⟨rfl, b112⟩
  clear k113 k114 k115 k116 k117 k118 k119 k120 k121 k122 k123 k124
  have h125 := h105.below b112
  have h126 := h106.below b112
  have h127 := h107.below b112
  have p128 := p108.below b112
  have p129 := p109.below b112
  have p130 := p111.below b112
  have hb131 := below_call hb110 b112 hb110.size
  obtain ⟨k133, k134, k135⟩ := blk3 p129
  have k136 := p129.lt
  go_wp2_with fail
  refine (l_heldMatrix _ _ _ _ _ _ h126 (by omega) (by omega)).mono ?_; rintro e w132 ⟨rfl, b132⟩
  clear k133 k134 k135 k136
  have h137 := h126.below b132
  have p138 := p129.below b132
  have hb139 := below_call hb131 b132 hb131.size
  obtain ⟨k140, k141, k142⟩ := blk3 p138
  have k143 := p138.lt
  go_wp2
  go_ret
  exact ⟨rfl, hb139⟩

end Go.Proofs.YtdmjikfjmimfmaaDoor
