/- Walks of laws whose program writes numbers as texts. -/
import Derived.Test.YtdmjikfjmimfmaaDoorNqS
import Derived.Test.YtdmjikfjmimfmaaDoorLawR
namespace Go.Proofs.YtdmjikfjmimfmaaDoor
open Go.RowKit
set_option linter.unusedVariables false
set_option linter.unusedSimpArgs false

-- walks
set_option maxRecDepth 100000 in
set_option maxHeartbeats 4000000 in
set_option linter.unusedVariables false in
theorem law_FnExactNamedQuiver (s : ByteArray) (w : World) (ws_s : s.size ≤ maxLen) (ht : PowTab w) :
    Calls Tryd.prog 7 #[.string s] w fun e w' => e = .returned (.bool true) ∧ Below w.heap.size w w' := by
  have HTAB := Lib.hid ht
  clear ht
  unfold maxLen at ws_s
  by_cases hL0 : s.size ≤ 1048576
  rotate_left
  · skip
    go_enter Tryd.func7, Tryd.ntmps7
    go_wp2
    go_ret
    exact ⟨rfl, Below.refl _ _⟩
  have hn1 := par_len (namT s)
  go_enter Tryd.func7, Tryd.ntmps7
  go_wp2_with fail
  refine (s_NamedQuiver s _).mono ?_; rintro e w2 ⟨v2_0, v2_1, rfl, h2_0, h2_1, f2_0, f2_1, s2_01, b2⟩
  have hb3 := b2
  obtain ⟨a2_0, cap2_0, rfl, _, _⟩ := h2_0.shape
  obtain ⟨a2_1, cap2_1, rfl, _, _⟩ := h2_1.shape
  have Ss2_01 := Lib.hid s2_01
  have Ts2_01 := Lib.hid (sep_symm Ss2_01.out)
  clear s2_01
  have Ff2_0 := Lib.hid f2_0
  clear f2_0
  have Ff2_1 := Lib.hid f2_1
  clear f2_1
  have sb4 := Lib.hid (sep_blk_old h2_0)
  have sb5 := Lib.hid (sep_blk_old h2_1)
  have b6 : Below w2.heap.size w2 (w2.alloc (.cells #[.int .i64 (parN (namT s)), .slice a2_0 ((parF (namT s))).length cap2_0, .slice a2_1 ((parT (namT s))).length cap2_1] 30)) := (Below.refl _ w2).alloc (Nat.le_refl _) _
  have h7 := h2_0.below b6
  have h8 := h2_1.below b6
  have hb9 := below_call hb3 b6 hb3.size
  have p10 := Blk.new w2 #[.int .i64 (parN (namT s)), .slice a2_0 ((parF (namT s))).length cap2_0, .slice a2_1 ((parT (namT s))).length cap2_1] 30
  obtain ⟨k12, k13, k14⟩ := blk3 p10
  have k15 := p10.lt
  go_wp2_with fail
  refine (i_NamedQuiver s _ (by unfold maxLen; omega) (HTAB.out.below hb9)).mono ?_; rintro e w11 ⟨v11_0, v11_1, rfl, h11_0, h11_1, f11_0, f11_1, s11_01, b11⟩
  clear k12 k13 k14 k15
  have h16 := h7.below b11
  have h17 := h8.below b11
  have p18 := p10.below b11
  have hb19 := below_call hb9 b11 hb9.size
  obtain ⟨a11_0, cap11_0, rfl, _, _⟩ := h11_0.shape
  have sp20 := Lib.hid (sep_new h7 f11_0)
  have sp21 := Lib.hid (sep_symm sp20.out)
  have sp22 := Lib.hid (sep_new h8 f11_0)
  have sp23 := Lib.hid (sep_symm sp22.out)
  have sb24 := Lib.hid (sep_blk_new p10 f11_0)
  obtain ⟨a11_1, cap11_1, rfl, _, _⟩ := h11_1.shape
  have sp25 := Lib.hid (sep_new h7 f11_1)
  have sp26 := Lib.hid (sep_symm sp25.out)
  have sp27 := Lib.hid (sep_new h8 f11_1)
  have sp28 := Lib.hid (sep_symm sp27.out)
  have sb29 := Lib.hid (sep_blk_new p10 f11_1)
  have Ss11_01 := Lib.hid s11_01
  have Ts11_01 := Lib.hid (sep_symm Ss11_01.out)
  clear s11_01
  have Ff11_0 := Lib.hid f11_0
  clear f11_0
  have Ff11_1 := Lib.hid f11_1
  clear f11_1
  obtain ⟨k30, k31, k32⟩ := blk3 p18
  have k33 := p18.lt
  have sb34 := Lib.hid (sep_blk_old h16)
  have sb35 := Lib.hid (sep_blk_old h17)
  have sb36 := Lib.hid (sep_blk_old h11_0)
  have sb37 := Lib.hid (sep_blk_old h11_1)
  have b38 : Below w11.heap.size w11 (w11.alloc (.cells #[.int .i64 (parN (namT s)), .slice a11_0 ((parF (namT s))).length cap11_0, .slice a11_1 ((parT (namT s))).length cap11_1] 30)) := (Below.refl _ w11).alloc (Nat.le_refl _) _
  have h39 := h16.below b38
  have h40 := h17.below b38
  have h41 := h11_0.below b38
  have h42 := h11_1.below b38
  have p43 := p18.below b38
  have hb44 := below_call hb19 b38 hb19.size
  have p45 := Blk.new w11 #[.int .i64 (parN (namT s)), .slice a11_0 ((parF (namT s))).length cap11_0, .slice a11_1 ((parT (namT s))).length cap11_1] 30
  have e46 := eqQ_refl (parN (namT s)) (parF (namT s)) (parT (namT s))
  obtain ⟨k47, k48, k49⟩ := blk3 p43
  have k50 := p43.lt
  obtain ⟨k51, k52, k53⟩ := blk3 p45
  have k54 := p45.lt
  go_wp2_with fail
  refine (l_eqQuiver _ _ _ _ _ _ _ _ _ _ _ h41 h42 h39 h40).mono ?_; rintro e w46 ⟨rfl, b46⟩
  clear k47 k48 k49 k50 k51 k52 k53 k54
  have h55 := h39.below b46
  have h56 := h40.below b46
  have h57 := h41.below b46
  have h58 := h42.below b46
  have p59 := p43.below b46
  have p60 := p45.below b46
  have hb61 := below_call hb44 b46 hb44.size
  obtain ⟨k63, k64, k65⟩ := blk3 p59
  have k66 := p59.lt
  obtain ⟨k67, k68, k69⟩ := blk3 p60
  have k70 := p60.lt
  go_wp2_with fail
  refine (l_markQuiver _ _ _ (parF (namT s)) (parT (namT s)) _ _ h57 h58 Ss11_01.out (by omega) (by omega)).mono ?_; rintro e w62 ⟨rfl, h62_0, h62_1, c62⟩
  clear k63 k64 k65 k66 k67 k68 k69 k70
  have p71 := p59.chg c62 (fun h => h.elim sb24.out sb29.out)
  have p72 := p60.chg c62 (fun h => h.elim sb36.out sb37.out)
  have h73 := h55.chg c62 (fun q hq h => h.elim (sp20.out q hq) (sp25.out q hq))
  have h74 := h56.chg c62 (fun q hq h => h.elim (sp22.out q hq) (sp27.out q hq))
  have hb75 := below_chg hb61 c62 hb61.size (fun k h => h.elim (fun h => Nat.le_trans hb9.size (Ff11_0.out k h)) (fun h => Nat.le_trans hb9.size (Ff11_1.out k h)))
  obtain ⟨k77, k78, k79⟩ := blk3 p71
  have k80 := p71.lt
  obtain ⟨k81, k82, k83⟩ := blk3 p72
  have k84 := p72.lt
  go_wp2_with fail
  refine (l_heldQuiver _ _ _ _ _ _ _ h62_0 h62_1 (by omega) (by omega)).mono ?_; rintro e w76 ⟨rfl, b76⟩
  clear k77 k78 k79 k80 k81 k82 k83 k84
  have h85 := h73.below b76
  have h86 := h74.below b76
  have h87 := h62_0.below b76
  have h88 := h62_1.below b76
  have p89 := p71.below b76
  have p90 := p72.below b76
  have hb91 := below_call hb75 b76 hb75.size
  obtain ⟨k93, k94, k95⟩ := blk3 p89
  have k96 := p89.lt
  obtain ⟨k97, k98, k99⟩ := blk3 p90
  have k100 := p90.lt
  go_wp2_with fail
  refine (i_NamedQuiver s _ (by unfold maxLen; omega) (HTAB.out.below hb91)).mono ?_; rintro e w92 ⟨v92_0, v92_1, rfl, h92_0, h92_1, f92_0, f92_1, s92_01, b92⟩
  clear k93 k94 k95 k96 k97 k98 k99 k100
  have h101 := h85.below b92
  have h102 := h86.below b92
  have h103 := h87.below b92
  have h104 := h88.below b92
  have p105 := p89.below b92
  have p106 := p90.below b92
  have hb107 := below_call hb91 b92 hb91.size
  obtain ⟨a92_0, cap92_0, rfl, _, _⟩ := h92_0.shape
  have sp108 := Lib.hid (sep_new h85 f92_0)
  have sp109 := Lib.hid (sep_symm sp108.out)
  have sp110 := Lib.hid (sep_new h86 f92_0)
  have sp111 := Lib.hid (sep_symm sp110.out)
  have sp112 := Lib.hid (sep_new h87 f92_0)
  have sp113 := Lib.hid (sep_symm sp112.out)
  have sp114 := Lib.hid (sep_new h88 f92_0)
  have sp115 := Lib.hid (sep_symm sp114.out)
  have sb116 := Lib.hid (sep_blk_new p89 f92_0)
  have sb117 := Lib.hid (sep_blk_new p90 f92_0)
  obtain ⟨a92_1, cap92_1, rfl, _, _⟩ := h92_1.shape
  have sp118 := Lib.hid (sep_new h85 f92_1)
  have sp119 := Lib.hid (sep_symm sp118.out)
  have sp120 := Lib.hid (sep_new h86 f92_1)
  have sp121 := Lib.hid (sep_symm sp120.out)
  have sp122 := Lib.hid (sep_new h87 f92_1)
  have sp123 := Lib.hid (sep_symm sp122.out)
  have sp124 := Lib.hid (sep_new h88 f92_1)
  have sp125 := Lib.hid (sep_symm sp124.out)
  have sb126 := Lib.hid (sep_blk_new p89 f92_1)
  have sb127 := Lib.hid (sep_blk_new p90 f92_1)
  have Ss92_01 := Lib.hid s92_01
  have Ts92_01 := Lib.hid (sep_symm Ss92_01.out)
  clear s92_01
  have Ff92_0 := Lib.hid f92_0
  clear f92_0
  have Ff92_1 := Lib.hid f92_1
  clear f92_1
  obtain ⟨k128, k129, k130⟩ := blk3 p105
  have k131 := p105.lt
  obtain ⟨k132, k133, k134⟩ := blk3 p106
  have k135 := p106.lt
  have sb136 := Lib.hid (sep_blk_old h101)
  have sb137 := Lib.hid (sep_blk_old h102)
  have sb138 := Lib.hid (sep_blk_old h103)
  have sb139 := Lib.hid (sep_blk_old h104)
  have sb140 := Lib.hid (sep_blk_old h92_0)
  have sb141 := Lib.hid (sep_blk_old h92_1)
  have b142 : Below w92.heap.size w92 (w92.alloc (.cells #[.int .i64 (parN (namT s)), .slice a92_0 ((parF (namT s))).length cap92_0, .slice a92_1 ((parT (namT s))).length cap92_1] 30)) := (Below.refl _ w92).alloc (Nat.le_refl _) _
  have h143 := h101.below b142
  have h144 := h102.below b142
  have h145 := h103.below b142
  have h146 := h104.below b142
  have h147 := h92_0.below b142
  have h148 := h92_1.below b142
  have p149 := p105.below b142
  have p150 := p106.below b142
  have hb151 := below_call hb107 b142 hb107.size
  have p152 := Blk.new w92 #[.int .i64 (parN (namT s)), .slice a92_0 ((parF (namT s))).length cap92_0, .slice a92_1 ((parT (namT s))).length cap92_1] 30
  have e153 := eqQ_refl (parN (namT s)) (parF (namT s)) (parT (namT s))
  obtain ⟨k154, k155, k156⟩ := blk3 p149
  have k157 := p149.lt
  obtain ⟨k158, k159, k160⟩ := blk3 p150
  have k161 := p150.lt
  obtain ⟨k162, k163, k164⟩ := blk3 p152
  have k165 := p152.lt
  go_wp2_with fail
  refine (l_eqQuiver _ _ _ _ _ _ _ _ _ _ _ h147 h148 h143 h144).mono ?_; rintro e w153 ⟨rfl, b153⟩
  clear k154 k155 k156 k157 k158 k159 k160 k161 k162 k163 k164 k165
  have h166 := h143.below b153
  have h167 := h144.below b153
  have h168 := h145.below b153
  have h169 := h146.below b153
  have h170 := h147.below b153
  have h171 := h148.below b153
  have p172 := p149.below b153
  have p173 := p150.below b153
  have p174 := p152.below b153
  have hb175 := below_call hb151 b153 hb151.size
  obtain ⟨k177, k178, k179⟩ := blk3 p173
  have k180 := p173.lt
  go_wp2_with fail
  refine (l_heldQuiver _ _ _ _ _ _ _ h168 h169 (by omega) (by omega)).mono ?_; rintro e w176 ⟨rfl, b176⟩
  clear k177 k178 k179 k180
  have h181 := h168.below b176
  have h182 := h169.below b176
  have p183 := p173.below b176
  have hb184 := below_call hb175 b176 hb175.size
  obtain ⟨k185, k186, k187⟩ := blk3 p183
  have k188 := p183.lt
  go_wp2
  go_ret
  exact ⟨rfl, hb184⟩

end Go.Proofs.YtdmjikfjmimfmaaDoor
