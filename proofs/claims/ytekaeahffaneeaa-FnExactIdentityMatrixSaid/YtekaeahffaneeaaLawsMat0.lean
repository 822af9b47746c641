/- The walks of the laws ZeroMatrix and IdentityMatrix. -/
import Derived.Test.YtekaeahffaneeaaMatAux
import Derived.Test.YtekaeahffaneeaaSep
namespace Go.Proofs.Ytekaeahffaneeaa
open Go.RowKit
set_option linter.unusedVariables false

theorem zerL_len (r c : Int) : (zerL r c).length ≤ 64 := by
  unfold zerL
  cases h : zerOK r c
  · simp
  · unfold zerOK at h
    simp only [Bool.and_eq_true] at h
    obtain ⟨h1, h2⟩ := inR_true h.1
    obtain ⟨h3, h4⟩ := inR_true h.2
    simp only [if_true, List.length_replicate]
    exact Nat.mul_le_mul (show r.toNat ≤ 8 by omega) (show c.toNat ≤ 8 by omega)
theorem ideL_len (n : Int) : (ideL n).length ≤ 64 := by
  unfold ideL
  cases h : inR n 0 8
  · simp
  · obtain ⟨h1, h2⟩ := inR_true h
    simp only [if_true, idL_len]
    exact Nat.mul_le_mul (show n.toNat ≤ 8 by omega) (show n.toNat ≤ 8 by omega)

set_option maxHeartbeats 2000000 in
set_option linter.unusedVariables false in
theorem law_FnExactZeroMatrix (r : Int) (c : Int) (w : World) (wf_r : (Lit.int .i64 r).wf = true) (wf_c : (Lit.int .i64 c).wf = true) :
    Calls Try.prog 9 #[.int .i64 r, .int .i64 c] w fun e w' => e = .returned (.bool true) ∧ Below w.heap.size w w' := by
  obtain ⟨lo_r, hi_r⟩ := wf_i64 wf_r
  clear wf_r
  obtain ⟨lo_c, hi_c⟩ := wf_i64 wf_c
  clear wf_c
  have hn1 := zerL_len r c
  go_enter Try.func9, Try.ntmps9
  go_wp2_with fail
  refine (s_ZeroMatrix _ _ _).mono ?_; rintro e w2 ⟨v2, rfl, h2, f2, b2⟩
  have hb3 := b2
  obtain ⟨a2, cap2, rfl, _, _⟩ := h2.shape
  have sb4 := Lib.hid (sep_blk_old h2)
  have b5 : Below w2.heap.size w2 (w2.alloc (.cells #[.int .i64 (zerR r c), .int .i64 (zerC r c), .slice a2 ((zerL r c)).length cap2] 37)) := (Below.refl _ w2).alloc (Nat.le_refl _) _
  have h6 := Ints.below h2 b5
  have hb7 := below_call hb3 b5 hb3.size
  have p8 := Blk.new w2 #[.int .i64 (zerR r c), .int .i64 (zerC r c), .slice a2 ((zerL r c)).length cap2] 37
  obtain ⟨k10, k11, k12⟩ := blk3 p8
  have k13 := p8.lt
  go_wp2_with fail
  refine (i_ZeroMatrix _ _ _).mono ?_; rintro e w9 ⟨v9, rfl, h9, f9, b9⟩
  clear k10 k11 k12 k13
  have h14 := Ints.below h6 b9
  have p15 := p8.below b9
  have hb16 := below_call hb7 b9 hb7.size
  obtain ⟨a9, cap9, rfl, _, _⟩ := h9.shape
  have sp17 := Lib.hid (sep_new h6 f9)
  have sp18 := Lib.hid (sep_symm sp17.out)
  have sb19 := Lib.hid (sep_blk_new p8 f9)
  obtain ⟨k20, k21, k22⟩ := blk3 p15
  have k23 := p15.lt
  have sb24 := Lib.hid (sep_blk_old h14)
  have sb25 := Lib.hid (sep_blk_old h9)
  have b26 : Below w9.heap.size w9 (w9.alloc (.cells #[.int .i64 (zerR r c), .int .i64 (zerC r c), .slice a9 ((zerL r c)).length cap9] 37)) := (Below.refl _ w9).alloc (Nat.le_refl _) _
  have h27 := Ints.below h14 b26
  have h28 := Ints.below h9 b26
  have p29 := p15.below b26
  have hb30 := below_call hb16 b26 hb16.size
  have p31 := Blk.new w9 #[.int .i64 (zerR r c), .int .i64 (zerC r c), .slice a9 ((zerL r c)).length cap9] 37
  have e32 := eqM_refl (zerR r c) (zerC r c) (zerL r c)
  obtain ⟨k33, k34, k35⟩ := blk3 p29
  have k36 := p29.lt
  obtain ⟨k37, k38, k39⟩ := blk3 p31
  have k40 := p31.lt
  go_wp2_with fail
  refine (l_eqMatrix _ _ _ _ _ _ _ _ _ h28 h27).mono ?_; rintro e w32 ⟨rfl, b32⟩
  clear k33 k34 k35 k36 k37 k38 k39 k40
  have h41 := Ints.below h27 b32
  have h42 := Ints.below h28 b32
  have p43 := p29.below b32
  have p44 := p31.below b32
  have hb45 := below_call hb30 b32 hb30.size
  obtain ⟨k47, k48, k49⟩ := blk3 p43
  have k50 := p43.lt
  obtain ⟨k51, k52, k53⟩ := blk3 p44
  have k54 := p44.lt
  go_wp2_with fail
  refine (l_markMatrix _ _ _ (zerL r c) _ _ h42 (by omega) (by omega)).mono ?_; rintro e w46 ⟨rfl, h46, c46⟩
  clear k47 k48 k49 k50 k51 k52 k53 k54
  have p55 := Blk.chg p43 c46 sb19.out
  have p56 := Blk.chg p44 c46 sb25.out
  have h57 := Ints.chg h41 c46 sp17.out
  have hb58 := below_chg hb45 c46 hb45.size (fun k h => Nat.le_trans (hb7.size) (f9 k h))
  obtain ⟨k60, k61, k62⟩ := blk3 p55
  have k63 := p55.lt
  obtain ⟨k64, k65, k66⟩ := blk3 p56
  have k67 := p56.lt
  go_wp2_with fail
  refine (l_heldMatrix _ _ _ _ _ _ h46 (by omega) (by omega)).mono ?_; rintro e w59 ⟨rfl, b59⟩
  clear k60 k61 k62 k63 k64 k65 k66 k67
  have h68 := Ints.below h57 b59
  have h69 := Ints.below h46 b59
  have p70 := p55.below b59
  have p71 := p56.below b59
  have hb72 := below_call hb58 b59 hb58.size
  obtain ⟨k74, k75, k76⟩ := blk3 p70
  have k77 := p70.lt
  obtain ⟨k78, k79, k80⟩ := blk3 p71
  have k81 := p71.lt
  go_wp2_with fail
  refine (i_ZeroMatrix _ _ _).mono ?_; rintro e w73 ⟨v73, rfl, h73, f73, b73⟩
  clear k74 k75 k76 k77 k78 k79 k80 k81
  have h82 := Ints.below h68 b73
  have h83 := Ints.below h69 b73
  have p84 := p70.below b73
  have p85 := p71.below b73
  have hb86 := below_call hb72 b73 hb72.size
  obtain ⟨a73, cap73, rfl, _, _⟩ := h73.shape
  have sp87 := Lib.hid (sep_new h68 f73)
  have sp88 := Lib.hid (sep_symm sp87.out)
  have sp89 := Lib.hid (sep_new h69 f73)
  have sp90 := Lib.hid (sep_symm sp89.out)
  have sb91 := Lib.hid (sep_blk_new p70 f73)
  have sb92 := Lib.hid (sep_blk_new p71 f73)
  obtain ⟨k93, k94, k95⟩ := blk3 p84
  have k96 := p84.lt
  obtain ⟨k97, k98, k99⟩ := blk3 p85
  have k100 := p85.lt
  have sb101 := Lib.hid (sep_blk_old h82)
  have sb102 := Lib.hid (sep_blk_old h83)
  have sb103 := Lib.hid (sep_blk_old h73)
  have b104 : Below w73.heap.size w73 (w73.alloc (.cells #[.int .i64 (zerR r c), .int .i64 (zerC r c), .slice a73 ((zerL r c)).length cap73] 37)) := (Below.refl _ w73).alloc (Nat.le_refl _) _
  have h105 := Ints.below h82 b104
  have h106 := Ints.below h83 b104
  have h107 := Ints.below h73 b104
  have p108 := p84.below b104
  have p109 := p85.below b104
  have hb110 := below_call hb86 b104 hb86.size
  have p111 := Blk.new w73 #[.int .i64 (zerR r c), .int .i64 (zerC r c), .slice a73 ((zerL r c)).length cap73] 37
  have e112 := eqM_refl (zerR r c) (zerC r c) (zerL r c)
  obtain ⟨k113, k114, k115⟩ := blk3 p108
  have k116 := p108.lt
  obtain ⟨k117, k118, k119⟩ := blk3 p109
  have k120 := p109.lt
  obtain ⟨k121, k122, k123⟩ := blk3 p111
  have k124 := p111.lt
  go_wp2_with fail
  refine (l_eqMatrix _ _ _ _ _ _ _ _ _ h107 h105).mono ?_; rintro e w112 ⟨rfl, b112⟩
  clear k113 k114 k115 k116 k117 k118 k119 k120 k121 k122 k123 k124
  have h125 := Ints.below h105 b112
  have h126 := Ints.below h106 b112
  have h127 := Ints.below h107 b112
  have p128 := p108.below b112
  have p129 := p109.below b112
  have p130 := p111.below b112
  have hb131 := below_call hb110 b112 hb110.size
  obtain ⟨k133, k134, k135⟩ := blk3 p128
  have k136 := p128.lt
  obtain ⟨k137, k138, k139⟩ := blk3 p129
  have k140 := p129.lt
  obtain ⟨k141, k142, k143⟩ := blk3 p130
  have k144 := p130.lt
  go_wp2_with fail
  refine (l_heldMatrix _ _ _ _ _ _ h126 (by omega) (by omega)).mono ?_; rintro e w132 ⟨rfl, b132⟩
  clear k133 k134 k135 k136 k137 k138 k139 k140 k141 k142 k143 k144
  have h145 := Ints.below h125 b132
  have h146 := Ints.below h126 b132
  have h147 := Ints.below h127 b132
  have p148 := p128.below b132
  have p149 := p129.below b132
  have p150 := p130.below b132
  have hb151 := below_call hb131 b132 hb131.size
  obtain ⟨k152, k153, k154⟩ := blk3 p148
  have k155 := p148.lt
  obtain ⟨k156, k157, k158⟩ := blk3 p149
  have k159 := p149.lt
  obtain ⟨k160, k161, k162⟩ := blk3 p150
  have k163 := p150.lt
  go_wp2
  go_ret
  exact ⟨rfl, hb151⟩

set_option maxHeartbeats 2000000 in
set_option linter.unusedVariables false in
theorem law_FnExactIdentityMatrix (n : Int) (w : World) (wf_n : (Lit.int .i64 n).wf = true) :
    Calls Try.prog 11 #[.int .i64 n] w fun e w' => e = .returned (.bool true) ∧ Below w.heap.size w w' := by
  obtain ⟨lo_n, hi_n⟩ := wf_i64 wf_n
  clear wf_n
  have hn1 := ideL_len n
  go_enter Try.func11, Try.ntmps11
  go_wp2_with fail
  refine (s_IdentityMatrix _ _).mono ?_; rintro e w2 ⟨v2, rfl, h2, f2, b2⟩
  have hb3 := b2
  obtain ⟨a2, cap2, rfl, _, _⟩ := h2.shape
  have sb4 := Lib.hid (sep_blk_old h2)
  have b5 : Below w2.heap.size w2 (w2.alloc (.cells #[.int .i64 (ideR n), .int .i64 (ideR n), .slice a2 ((ideL n)).length cap2] 37)) := (Below.refl _ w2).alloc (Nat.le_refl _) _
  have h6 := Ints.below h2 b5
  have hb7 := below_call hb3 b5 hb3.size
  have p8 := Blk.new w2 #[.int .i64 (ideR n), .int .i64 (ideR n), .slice a2 ((ideL n)).length cap2] 37
  obtain ⟨k10, k11, k12⟩ := blk3 p8
  have k13 := p8.lt
  go_wp2_with fail
  refine (i_IdentityMatrix _ _).mono ?_; rintro e w9 ⟨v9, rfl, h9, f9, b9⟩
  clear k10 k11 k12 k13
  have h14 := Ints.below h6 b9
  have p15 := p8.below b9
  have hb16 := below_call hb7 b9 hb7.size
  obtain ⟨a9, cap9, rfl, _, _⟩ := h9.shape
  have sp17 := Lib.hid (sep_new h6 f9)
  have sp18 := Lib.hid (sep_symm sp17.out)
  have sb19 := Lib.hid (sep_blk_new p8 f9)
  obtain ⟨k20, k21, k22⟩ := blk3 p15
  have k23 := p15.lt
  have sb24 := Lib.hid (sep_blk_old h14)
  have sb25 := Lib.hid (sep_blk_old h9)
  have b26 : Below w9.heap.size w9 (w9.alloc (.cells #[.int .i64 (ideR n), .int .i64 (ideR n), .slice a9 ((ideL n)).length cap9] 37)) := (Below.refl _ w9).alloc (Nat.le_refl _) _
  have h27 := Ints.below h14 b26
  have h28 := Ints.below h9 b26
  have p29 := p15.below b26
  have hb30 := below_call hb16 b26 hb16.size
  have p31 := Blk.new w9 #[.int .i64 (ideR n), .int .i64 (ideR n), .slice a9 ((ideL n)).length cap9] 37
  have e32 := eqM_refl (ideR n) (ideR n) (ideL n)
  obtain ⟨k33, k34, k35⟩ := blk3 p29
  have k36 := p29.lt
  obtain ⟨k37, k38, k39⟩ := blk3 p31
  have k40 := p31.lt
  go_wp2_with fail
  refine (l_eqMatrix _ _ _ _ _ _ _ _ _ h28 h27).mono ?_; rintro e w32 ⟨rfl, b32⟩
  clear k33 k34 k35 k36 k37 k38 k39 k40
  have h41 := Ints.below h27 b32
  have h42 := Ints.below h28 b32
  have p43 := p29.below b32
  have p44 := p31.below b32
  have hb45 := below_call hb30 b32 hb30.size
  obtain ⟨k47, k48, k49⟩ := blk3 p43
  have k50 := p43.lt
  obtain ⟨k51, k52, k53⟩ := blk3 p44
  have k54 := p44.lt
  go_wp2_with fail
  refine (l_markMatrix _ _ _ (ideL n) _ _ h42 (by omega) (by omega)).mono ?_; rintro e w46 ⟨rfl, h46, c46⟩
  clear k47 k48 k49 k50 k51 k52 k53 k54
  have p55 := Blk.chg p43 c46 sb19.out
  have p56 := Blk.chg p44 c46 sb25.out
  have h57 := Ints.chg h41 c46 sp17.out
  have hb58 := below_chg hb45 c46 hb45.size (fun k h => Nat.le_trans (hb7.size) (f9 k h))
  obtain ⟨k60, k61, k62⟩ := blk3 p55
  have k63 := p55.lt
  obtain ⟨k64, k65, k66⟩ := blk3 p56
  have k67 := p56.lt
  go_wp2_with fail
  refine (l_heldMatrix _ _ _ _ _ _ h46 (by omega) (by omega)).mono ?_; rintro e w59 ⟨rfl, b59⟩
  clear k60 k61 k62 k63 k64 k65 k66 k67
  have h68 := Ints.below h57 b59
  have h69 := Ints.below h46 b59
  have p70 := p55.below b59
  have p71 := p56.below b59
  have hb72 := below_call hb58 b59 hb58.size
  obtain ⟨k74, k75, k76⟩ := blk3 p70
  have k77 := p70.lt
  obtain ⟨k78, k79, k80⟩ := blk3 p71
  have k81 := p71.lt
  go_wp2_with fail
  refine (i_IdentityMatrix _ _).mono ?_; rintro e w73 ⟨v73, rfl, h73, f73, b73⟩
  clear k74 k75 k76 k77 k78 k79 k80 k81
  have h82 := Ints.below h68 b73
  have h83 := Ints.below h69 b73
  have p84 := p70.below b73
  have p85 := p71.below b73
  have hb86 := below_call hb72 b73 hb72.size
  obtain ⟨a73, cap73, rfl, _, _⟩ := h73.shape
  have sp87 := Lib.hid (sep_new h68 f73)
  have sp88 := Lib.hid (sep_symm sp87.out)
  have sp89 := Lib.hid (sep_new h69 f73)
  have sp90 := Lib.hid (sep_symm sp89.out)
  have sb91 := Lib.hid (sep_blk_new p70 f73)
  have sb92 := Lib.hid (sep_blk_new p71 f73)
  obtain ⟨k93, k94, k95⟩ := blk3 p84
  have k96 := p84.lt
  obtain ⟨k97, k98, k99⟩ := blk3 p85
  have k100 := p85.lt
  have sb101 := Lib.hid (sep_blk_old h82)
  have sb102 := Lib.hid (sep_blk_old h83)
  have sb103 := Lib.hid (sep_blk_old h73)
  have b104 : Below w73.heap.size w73 (w73.alloc (.cells #[.int .i64 (ideR n), .int .i64 (ideR n), .slice a73 ((ideL n)).length cap73] 37)) := (Below.refl _ w73).alloc (Nat.le_refl _) _
  have h105 := Ints.below h82 b104
  have h106 := Ints.below h83 b104
  have h107 := Ints.below h73 b104
  have p108 := p84.below b104
  have p109 := p85.below b104
  have hb110 := below_call hb86 b104 hb86.size
  have p111 := Blk.new w73 #[.int .i64 (ideR n), .int .i64 (ideR n), .slice a73 ((ideL n)).length cap73] 37
  have e112 := eqM_refl (ideR n) (ideR n) (ideL n)
  obtain ⟨k113, k114, k115⟩ := blk3 p108
  have k116 := p108.lt
  obtain ⟨k117, k118, k119⟩ := blk3 p109
  have k120 := p109.lt
  obtain ⟨k121, k122, k123⟩ := blk3 p111
  have k124 := p111.lt
  go_wp2_with fail
  refine (l_eqMatrix _ _ _ _ _ _ _ _ _ h107 h105).mono ?_; rintro e w112 ⟨rfl, b112⟩
  clear k113 k114 k115 k116 k117 k118 k119 k120 k121 k122 k123 k124
  have h125 := Ints.below h105 b112
  have h126 := Ints.below h106 b112
  have h127 := Ints.below h107 b112
  have p128 := p108.below b112
  have p129 := p109.below b112
  have p130 := p111.below b112
  have hb131 := below_call hb110 b112 hb110.size
  obtain ⟨k133, k134, k135⟩ := blk3 p128
  have k136 := p128.lt
  obtain ⟨k137, k138, k139⟩ := blk3 p129
  have k140 := p129.lt
  obtain ⟨k141, k142, k143⟩ := blk3 p130
  have k144 := p130.lt
  go_wp2_with fail
  refine (l_heldMatrix _ _ _ _ _ _ h126 (by omega) (by omega)).mono ?_; rintro e w132 ⟨rfl, b132⟩
  clear k133 k134 k135 k136 k137 k138 k139 k140 k141 k142 k143 k144
  have h145 := Ints.below h125 b132
  have h146 := Ints.below h126 b132
  have h147 := Ints.below h127 b132
  have p148 := p128.below b132
  have p149 := p129.below b132
  have p150 := p130.below b132
  have hb151 := below_call hb131 b132 hb131.size
  obtain ⟨k152, k153, k154⟩ := blk3 p148
  have k155 := p148.lt
  obtain ⟨k156, k157, k158⟩ := blk3 p149
  have k159 := p149.lt
  obtain ⟨k160, k161, k162⟩ := blk3 p150
  have k163 := p150.lt
  go_wp2
  go_ret
  exact ⟨rfl, hb151⟩

end Go.Proofs.Ytekaeahffaneeaa
