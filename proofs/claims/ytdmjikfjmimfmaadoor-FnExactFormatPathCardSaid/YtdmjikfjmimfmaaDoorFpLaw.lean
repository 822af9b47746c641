/- Walks of laws whose program writes numbers as texts. -/
import Derived.Test.YtdmjikfjmimfmaaDoorFp
namespace Go.Proofs.YtdmjikfjmimfmaaDoor
open Go.RowKit
set_option linter.unusedVariables false
set_option linter.unusedSimpArgs false

-- walks
set_option maxRecDepth 100000 in
set_option maxHeartbeats 4000000 in
set_option linter.unusedVariables false in
theorem law_FnExactFormatPath (qq0 : Int) (qq1 : Value) (lqq1 : List Int) (qq2 : Value) (lqq2 : List Int) (pp0 : Int) (pp1 : Value) (lpp1 : List Int) (w : World) (wf_qq0 : (Lit.int .i64 qq0).wf = true) (rqq1 : Raw w qq1 lqq1) (bdqq1 : Bd lqq1) (rqq2 : Raw w qq2 lqq2) (bdqq2 : Bd lqq2) (wf_pp0 : (Lit.int .i64 pp0).wf = true) (rpp1 : Raw w pp1 lpp1) (bdpp1 : Bd lpp1) (ht : PowTab w) :
    Calls Tryd.prog 3 #[.agg #[.int .i64 qq0, qq1, qq2], .agg #[.int .i64 pp0, pp1]] w fun e w' => e = .returned (.bool true) ∧ Below w.heap.size w w' := by
  have HTAB := Lib.hid ht
  clear ht
  obtain ⟨lo_qq0, hi_qq0⟩ := wf_i64 wf_qq0
  clear wf_qq0
  have Rqq1 := Lib.hid rqq1
  have BDqq1 := Lib.hid bdqq1
  obtain ⟨a_qq1, cap_qq1, rfl, hlc_qq1, hcm_qq1⟩ := rqq1.shape
  clear rqq1 bdqq1
  have Rqq2 := Lib.hid rqq2
  have BDqq2 := Lib.hid bdqq2
  obtain ⟨a_qq2, cap_qq2, rfl, hlc_qq2, hcm_qq2⟩ := rqq2.shape
  clear rqq2 bdqq2
  obtain ⟨lo_pp0, hi_pp0⟩ := wf_i64 wf_pp0
  clear wf_pp0
  have Rpp1 := Lib.hid rpp1
  have BDpp1 := Lib.hid bdpp1
  obtain ⟨a_pp1, cap_pp1, rfl, hlc_pp1, hcm_pp1⟩ := rpp1.shape
  clear rpp1 bdpp1
  have b1 : Below w.heap.size w (w.alloc (.cells #[.int .i64 qq0, .slice a_qq1 lqq1.length cap_qq1, .slice a_qq2 lqq2.length cap_qq2] 24)) := (Below.refl _ _).alloc (Nat.le_refl _) _
  have hb2 := b1
  have p3 := Blk.new w #[.int .i64 qq0, .slice a_qq1 lqq1.length cap_qq1, .slice a_qq2 lqq2.length cap_qq2] 24
  have b4 : Below (w.alloc (.cells #[.int .i64 qq0, .slice a_qq1 lqq1.length cap_qq1, .slice a_qq2 lqq2.length cap_qq2] 24)).heap.size (w.alloc (.cells #[.int .i64 qq0, .slice a_qq1 lqq1.length cap_qq1, .slice a_qq2 lqq2.length cap_qq2] 24)) ((w.alloc (.cells #[.int .i64 qq0, .slice a_qq1 lqq1.length cap_qq1, .slice a_qq2 lqq2.length cap_qq2] 24)).alloc (.cells #[.int .i64 pp0, .slice a_pp1 lpp1.length cap_pp1] 26)) := (Below.refl _ _).alloc (Nat.le_refl _) _
  have p5 := p3.below b4
  have hb6 := below_call hb2 b4 hb2.size
  have p7 : Blk ((w.alloc (.cells #[.int .i64 qq0, .slice a_qq1 lqq1.length cap_qq1, .slice a_qq2 lqq2.length cap_qq2] 24)).alloc (.cells #[.int .i64 pp0, .slice a_pp1 lpp1.length cap_pp1] 26)) (w.heap.size + 1) #[.int .i64 pp0, .slice a_pp1 lpp1.length cap_pp1] 26 := by simpa using Blk.new (w.alloc (.cells #[.int .i64 qq0, .slice a_qq1 lqq1.length cap_qq1, .slice a_qq2 lqq2.length cap_qq2] 24)) #[.int .i64 pp0, .slice a_pp1 lpp1.length cap_pp1] 26
  by_cases hL0 : lqq1.length + lqq2.length ≤ 1048576
  rotate_left
  · skip
    go_enter Tryd.func3, Tryd.ntmps3
    have es8 : szQ 1048576 lqq1 lqq2 = -1 := by unfold szQ; simp only [szI]; repeat (first | rfl | omega | split)
    obtain ⟨k9, k10, k11⟩ := blk3 p5
    have k12 := p5.lt
    obtain ⟨k13, k14⟩ := blk2 p7
    have k15 := p7.lt
    go_wp2_with fail
    refine (l_szQuiver _ _ _ lqq1 lqq2 1048576 _ (Rqq1.out.below hb6) (Rqq2.out.below hb6) (by omega) (by omega)).mono ?_; rintro e w8 ⟨rfl, b8⟩
    clear k9 k10 k11 k12 k13 k14 k15
    have p16 := p5.below b8
    have p17 := p7.below b8
    have hb18 := below_call hb6 b8 hb6.size
    obtain ⟨k19, k20, k21⟩ := blk3 p16
    have k22 := p16.lt
    obtain ⟨k23, k24⟩ := blk2 p17
    have k25 := p17.lt
    go_wp2
    go_ret
    exact ⟨rfl, hb18⟩
  by_cases hL1 : lpp1.length ≤ 1048576 - lqq1.length - lqq2.length
  rotate_left
  · skip
    go_enter Tryd.func3, Tryd.ntmps3
    have es26 : szQ 1048576 lqq1 lqq2 = 1048576 - (lqq1.length : Int) - (lqq2.length : Int) := by unfold szQ; simp only [szI]; repeat (first | rfl | omega | split)
    obtain ⟨k27, k28, k29⟩ := blk3 p5
    have k30 := p5.lt
    obtain ⟨k31, k32⟩ := blk2 p7
    have k33 := p7.lt
    go_wp2_with fail
    refine (l_szQuiver _ _ _ lqq1 lqq2 1048576 _ (Rqq1.out.below hb6) (Rqq2.out.below hb6) (by omega) (by omega)).mono ?_; rintro e w26 ⟨rfl, b26⟩
    clear k27 k28 k29 k30 k31 k32 k33
    have p34 := p5.below b26
    have p35 := p7.below b26
    have hb36 := below_call hb6 b26 hb6.size
    have es37 : szI (1048576 - (lqq1.length : Int) - (lqq2.length : Int)) lpp1 = -1 := by unfold szI; rw [if_pos (by omega)]
    obtain ⟨k38, k39, k40⟩ := blk3 p34
    have k41 := p34.lt
    obtain ⟨k42, k43⟩ := blk2 p35
    have k44 := p35.lt
    go_wp2_with fail
    refine (l_szPath _ _ lpp1 (1048576 - (lqq1.length : Int) - (lqq2.length : Int)) _ (Rpp1.out.below hb36) (by omega) (by omega)).mono ?_; rintro e w37 ⟨rfl, b37⟩
    clear k38 k39 k40 k41 k42 k43 k44
    have p45 := p34.below b37
    have p46 := p35.below b37
    have hb47 := below_call hb36 b37 hb36.size
    obtain ⟨k48, k49, k50⟩ := blk3 p45
    have k51 := p45.lt
    obtain ⟨k52, k53⟩ := blk2 p46
    have k54 := p46.lt
    go_wp2
    go_ret
    exact ⟨rfl, hb47⟩
  go_enter Tryd.func3, Tryd.ntmps3
  have es55 : szQ 1048576 lqq1 lqq2 = 1048576 - (lqq1.length : Int) - (lqq2.length : Int) := by unfold szQ; simp only [szI]; repeat (first | rfl | omega | split)
  obtain ⟨k56, k57, k58⟩ := blk3 p5
  have k59 := p5.lt
  obtain ⟨k60, k61⟩ := blk2 p7
  have k62 := p7.lt
  go_wp2_with fail
  refine (l_szQuiver _ _ _ lqq1 lqq2 1048576 _ (Rqq1.out.below hb6) (Rqq2.out.below hb6) (by omega) (by omega)).mono ?_; rintro e w55 ⟨rfl, b55⟩
  clear k56 k57 k58 k59 k60 k61 k62
  have p63 := p5.below b55
  have p64 := p7.below b55
  have hb65 := below_call hb6 b55 hb6.size
  have es66 : szI (1048576 - (lqq1.length : Int) - (lqq2.length : Int)) lpp1 = (1048576 - (lqq1.length : Int) - (lqq2.length : Int)) - (lpp1.length : Int) := by unfold szI; rw [if_neg (by omega)]
  obtain ⟨k67, k68, k69⟩ := blk3 p63
  have k70 := p63.lt
  obtain ⟨k71, k72⟩ := blk2 p64
  have k73 := p64.lt
  go_wp2_with fail
  refine (l_szPath _ _ lpp1 (1048576 - (lqq1.length : Int) - (lqq2.length : Int)) _ (Rpp1.out.below hb65) (by omega) (by omega)).mono ?_; rintro e w66 ⟨rfl, b66⟩
  clear k67 k68 k69 k70 k71 k72 k73
  have p74 := p63.below b66
  have p75 := p64.below b66
  have hb76 := below_call hb65 b66 hb65.size
  obtain ⟨k80, k81, k82⟩ := blk3 p74
  have k83 := p74.lt
  obtain ⟨k84, k85⟩ := blk2 p75
  have k86 := p75.lt
  go_wp2_with fail
  go_region_held3 (fun w' => w'.cell? ⟨w.heap.size, 0, none⟩ = some (.int .i64 qq0) ∧ w'.cell? ⟨w.heap.size, 1, none⟩ = some (.slice a_qq1 lqq1.length cap_qq1) ∧ w'.cell? ⟨w.heap.size, 2, none⟩ = some (.slice a_qq2 lqq2.length cap_qq2) ∧ w'.cell? ⟨w.heap.size + 1, 0, none⟩ = some (.int .i64 pp0) ∧ w'.cell? ⟨w.heap.size + 1, 1, none⟩ = some (.slice a_pp1 lpp1.length cap_pp1))
    (first
      | go_keep
      | exact ⟨(p74.below (below_of_drew b77)).cell 0, (p74.below (below_of_drew b77)).cell 1, (p74.below (below_of_drew b77)).cell 2, (p75.below (below_of_drew b77)).cell 0, (p75.below (below_of_drew b77)).cell 1⟩
      | exact ⟨((p74.below (below_of_drew b77)).below b78).cell 0, ((p74.below (below_of_drew b77)).below b78).cell 1, ((p74.below (below_of_drew b77)).below b78).cell 2, ((p75.below (below_of_drew b77)).below b78).cell 0, ((p75.below (below_of_drew b77)).below b78).cell 1⟩
      | exact ⟨(((p74.below (below_of_drew b77)).below b78).below b79).cell 0, (((p74.below (below_of_drew b77)).below b78).below b79).cell 1, (((p74.below (below_of_drew b77)).below b78).below b79).cell 2, (((p75.below (below_of_drew b77)).below b78).below b79).cell 0, (((p75.below (below_of_drew b77)).below b78).below b79).cell 1⟩)
    (first
      | (go_at_call 12; (with_reducible refine (l_toQuiver _ _ _ lqq1 lqq2 _ (Rqq1.out.below hb76).drew (Rqq2.out.below hb76).drew (by omega) (by omega)).mono ?_); rintro e w77 ⟨v77_0, v77_1, rfl, h77_0, h77_1, f77_0, f77_1, s77_01, b77⟩)
      | (go_at_call 13; (with_reducible refine (l_toPath _ _ lpp1 _ ((Rpp1.out.below hb76).below (below_of_drew b77)) (by omega)).mono ?_); rintro e w78 ⟨v78_0, rfl, h78_0, f78_0, b78⟩)
      | (go_at_call 11; (with_reducible refine (s_FormatPath _ _ _ _ _ lqq1 lqq2 lpp1 _ (h77_0.below b78) (h77_1.below b78) h78_0).mono ?_); rintro e w79 ⟨rfl, b79⟩))
  clear k80 k81 k82 k83 k84 k85 k86
  have Db77 := below_of_drew b77
  have p87 := p74.below Db77
  have p88 := p75.below Db77
  have hb89 := below_call hb76 Db77 hb76.size
  have p90 := p87.below b78
  have p91 := p88.below b78
  have hb92 := below_call hb89 b78 hb89.size
  have p93 := p90.below b79
  have p94 := p91.below b79
  have hb95 := below_call hb92 b79 hb92.size
  obtain ⟨k97, k98, k99⟩ := blk3 p93
  have k100 := p93.lt
  obtain ⟨k101, k102⟩ := blk2 p94
  have k103 := p94.lt
  go_wp2_with fail
  refine (l_toQuiver _ _ _ lqq1 lqq2 _ (Rqq1.out.below hb95) (Rqq2.out.below hb95) (by omega) (by omega)).mono ?_; rintro e w96 ⟨v96_0, v96_1, rfl, h96_0, h96_1, f96_0, f96_1, s96_01, b96⟩
  clear k97 k98 k99 k100 k101 k102 k103
  have p104 := p93.below b96
  have p105 := p94.below b96
  have hb106 := below_call hb95 b96 hb95.size
  obtain ⟨a96_0, cap96_0, rfl, _, _⟩ := h96_0.shape
  have sb107 := Lib.hid (sep_blk_new p93 f96_0)
  have sb108 := Lib.hid (sep_blk_new p94 f96_0)
  obtain ⟨a96_1, cap96_1, rfl, _, _⟩ := h96_1.shape
  have sb109 := Lib.hid (sep_blk_new p93 f96_1)
  have sb110 := Lib.hid (sep_blk_new p94 f96_1)
  have Ss96_01 := Lib.hid s96_01
  have Ts96_01 := Lib.hid (sep_symm Ss96_01.out)
  clear s96_01
  have Ff96_0 := Lib.hid f96_0
  clear f96_0
  have Ff96_1 := Lib.hid f96_1
  clear f96_1
  obtain ⟨k111, k112, k113⟩ := blk3 p104
  have k114 := p104.lt
  obtain ⟨k115, k116⟩ := blk2 p105
  have k117 := p105.lt
  have sb118 := Lib.hid (sep_blk_old h96_0)
  have sb119 := Lib.hid (sep_blk_old h96_1)
  have b120 : Below w96.heap.size w96 (w96.alloc (.cells #[.int .i64 qq0, .slice a96_0 (lqq1).length cap96_0, .slice a96_1 (lqq2).length cap96_1] 30)) := (Below.refl _ w96).alloc (Nat.le_refl _) _
  have h121 := h96_0.below b120
  have h122 := h96_1.below b120
  have p123 := p104.below b120
  have p124 := p105.below b120
  have hb125 := below_call hb106 b120 hb106.size
  have p126 := Blk.new w96 #[.int .i64 qq0, .slice a96_0 (lqq1).length cap96_0, .slice a96_1 (lqq2).length cap96_1] 30
  obtain ⟨k128, k129, k130⟩ := blk3 p123
  have k131 := p123.lt
  obtain ⟨k132, k133⟩ := blk2 p124
  have k134 := p124.lt
  obtain ⟨k135, k136, k137⟩ := blk3 p126
  have k138 := p126.lt
  go_wp2_with fail
  refine (l_toPath _ _ lpp1 _ (Rpp1.out.below hb125) (by omega)).mono ?_; rintro e w127 ⟨v127_0, rfl, h127_0, f127_0, b127⟩
  clear k128 k129 k130 k131 k132 k133 k134 k135 k136 k137 k138
  have h139 := h121.below b127
  have h140 := h122.below b127
  have p141 := p123.below b127
  have p142 := p124.below b127
  have p143 := p126.below b127
  have hb144 := below_call hb125 b127 hb125.size
  obtain ⟨a127_0, cap127_0, rfl, _, _⟩ := h127_0.shape
  have sp145 := Lib.hid (sep_new h121 f127_0)
  have sp146 := Lib.hid (sep_symm sp145.out)
  have sp147 := Lib.hid (sep_new h122 f127_0)
  have sp148 := Lib.hid (sep_symm sp147.out)
  have sb149 := Lib.hid (sep_blk_new p123 f127_0)
  have sb150 := Lib.hid (sep_blk_new p124 f127_0)
  have sb151 := Lib.hid (sep_blk_new p126 f127_0)
  have Ff127_0 := Lib.hid f127_0
  clear f127_0
  obtain ⟨k152, k153, k154⟩ := blk3 p141
  have k155 := p141.lt
  obtain ⟨k156, k157⟩ := blk2 p142
  have k158 := p142.lt
  obtain ⟨k159, k160, k161⟩ := blk3 p143
  have k162 := p143.lt
  have sb163 := Lib.hid (sep_blk_old h139)
  have sb164 := Lib.hid (sep_blk_old h140)
  have sb165 := Lib.hid (sep_blk_old h127_0)
  have b166 : Below w127.heap.size w127 (w127.alloc (.cells #[.int .i64 pp0, .slice a127_0 (lpp1).length cap127_0] 32)) := (Below.refl _ w127).alloc (Nat.le_refl _) _
  have h167 := h139.below b166
  have h168 := h140.below b166
  have h169 := h127_0.below b166
  have p170 := p141.below b166
  have p171 := p142.below b166
  have p172 := p143.below b166
  have hb173 := below_call hb144 b166 hb144.size
  have p174 := Blk.new w127 #[.int .i64 pp0, .slice a127_0 (lpp1).length cap127_0] 32
  obtain ⟨k176, k177, k178⟩ := blk3 p170
  have k179 := p170.lt
  obtain ⟨k180, k181⟩ := blk2 p171
  have k182 := p171.lt
  obtain ⟨k183, k184, k185⟩ := blk3 p172
  have k186 := p172.lt
  obtain ⟨k187, k188⟩ := blk2 p174
  have k189 := p174.lt
  go_wp2_with fail
  refine (i_FormatPath _ _ _ _ _ lqq1 lqq2 lpp1 _ h167 h168 h169 (HTAB.out.below hb173)).mono ?_; rintro e w175 ⟨rfl, b175⟩
  clear k176 k177 k178 k179 k180 k181 k182 k183 k184 k185 k186 k187 k188 k189
  have h190 := h167.below b175
  have h191 := h168.below b175
  have h192 := h169.below b175
  have p193 := p170.below b175
  have p194 := p171.below b175
  have p195 := p172.below b175
  have p196 := p174.below b175
  have hb197 := below_call hb173 b175 hb173.size
  have e199 := eqQ_refl qq0 lqq1 lqq2
  obtain ⟨k200, k201, k202⟩ := blk3 p193
  have k203 := p193.lt
  obtain ⟨k204, k205⟩ := blk2 p194
  have k206 := p194.lt
  obtain ⟨k207, k208, k209⟩ := blk3 p195
  have k210 := p195.lt
  obtain ⟨k211, k212⟩ := blk2 p196
  have k213 := p196.lt
  go_wp2_with fail
  go_region_held3 (fun w' => w'.cell? ⟨w.heap.size, 0, none⟩ = some (.int .i64 qq0) ∧ w'.cell? ⟨w.heap.size, 1, none⟩ = some (.slice a_qq1 lqq1.length cap_qq1) ∧ w'.cell? ⟨w.heap.size, 2, none⟩ = some (.slice a_qq2 lqq2.length cap_qq2) ∧ w'.cell? ⟨w.heap.size + 1, 0, none⟩ = some (.int .i64 pp0) ∧ w'.cell? ⟨w.heap.size + 1, 1, none⟩ = some (.slice a_pp1 lpp1.length cap_pp1) ∧ w'.cell? ⟨w96.heap.size, 0, none⟩ = some (.int .i64 qq0) ∧ w'.cell? ⟨w96.heap.size, 1, none⟩ = some (.slice a96_0 (lqq1).length cap96_0) ∧ w'.cell? ⟨w96.heap.size, 2, none⟩ = some (.slice a96_1 (lqq2).length cap96_1) ∧ w'.cell? ⟨w127.heap.size, 0, none⟩ = some (.int .i64 pp0) ∧ w'.cell? ⟨w127.heap.size, 1, none⟩ = some (.slice a127_0 (lpp1).length cap127_0))
    (first
      | go_keep
      | exact ⟨(p193.below (below_of_drew b198)).cell 0, (p193.below (below_of_drew b198)).cell 1, (p193.below (below_of_drew b198)).cell 2, (p194.below (below_of_drew b198)).cell 0, (p194.below (below_of_drew b198)).cell 1, (p195.below (below_of_drew b198)).cell 0, (p195.below (below_of_drew b198)).cell 1, (p195.below (below_of_drew b198)).cell 2, (p196.below (below_of_drew b198)).cell 0, (p196.below (below_of_drew b198)).cell 1⟩
      | exact ⟨((p193.below (below_of_drew b198)).below b199).cell 0, ((p193.below (below_of_drew b198)).below b199).cell 1, ((p193.below (below_of_drew b198)).below b199).cell 2, ((p194.below (below_of_drew b198)).below b199).cell 0, ((p194.below (below_of_drew b198)).below b199).cell 1, ((p195.below (below_of_drew b198)).below b199).cell 0, ((p195.below (below_of_drew b198)).below b199).cell 1, ((p195.below (below_of_drew b198)).below b199).cell 2, ((p196.below (below_of_drew b198)).below b199).cell 0, ((p196.below (below_of_drew b198)).below b199).cell 1⟩)
    (first
      | (go_at_call 12; (with_reducible refine (l_toQuiver _ _ _ lqq1 lqq2 _ (Rqq1.out.below hb197).drew (Rqq2.out.below hb197).drew (by omega) (by omega)).mono ?_); rintro e w198 ⟨v198_0, v198_1, rfl, h198_0, h198_1, f198_0, f198_1, s198_01, b198⟩)
      | (go_at_call 15; (with_reducible refine (l_eqQuiver _ _ _ _ _ _ _ _ _ _ _ (h190.below (below_of_drew b198)) (h191.below (below_of_drew b198)) h198_0 h198_1).mono ?_); rintro e w199 ⟨rfl, b199⟩))
  clear k200 k201 k202 k203 k204 k205 k206 k207 k208 k209 k210 k211 k212 k213
  have Db198 := below_of_drew b198
  have h214 := h190.below Db198
  have h215 := h191.below Db198
  have h216 := h192.below Db198
  have p217 := p193.below Db198
  have p218 := p194.below Db198
  have p219 := p195.below Db198
  have p220 := p196.below Db198
  have hb221 := below_call hb197 Db198 hb197.size
  have h222 := h214.below b199
  have h223 := h215.below b199
  have h224 := h216.below b199
  have p225 := p217.below b199
  have p226 := p218.below b199
  have p227 := p219.below b199
  have p228 := p220.below b199
  have hb229 := below_call hb221 b199 hb221.size
  have e231 := eqP_refl pp0 lpp1
  obtain ⟨k232, k233, k234⟩ := blk3 p225
  have k235 := p225.lt
  obtain ⟨k236, k237⟩ := blk2 p226
  have k238 := p226.lt
  obtain ⟨k239, k240, k241⟩ := blk3 p227
  have k242 := p227.lt
  obtain ⟨k243, k244⟩ := blk2 p228
  have k245 := p228.lt
  go_wp2_with fail
  go_region_held3 (fun w' => w'.cell? ⟨w.heap.size, 0, none⟩ = some (.int .i64 qq0) ∧ w'.cell? ⟨w.heap.size, 1, none⟩ = some (.slice a_qq1 lqq1.length cap_qq1) ∧ w'.cell? ⟨w.heap.size, 2, none⟩ = some (.slice a_qq2 lqq2.length cap_qq2) ∧ w'.cell? ⟨w.heap.size + 1, 0, none⟩ = some (.int .i64 pp0) ∧ w'.cell? ⟨w.heap.size + 1, 1, none⟩ = some (.slice a_pp1 lpp1.length cap_pp1) ∧ w'.cell? ⟨w96.heap.size, 0, none⟩ = some (.int .i64 qq0) ∧ w'.cell? ⟨w96.heap.size, 1, none⟩ = some (.slice a96_0 (lqq1).length cap96_0) ∧ w'.cell? ⟨w96.heap.size, 2, none⟩ = some (.slice a96_1 (lqq2).length cap96_1) ∧ w'.cell? ⟨w127.heap.size, 0, none⟩ = some (.int .i64 pp0) ∧ w'.cell? ⟨w127.heap.size, 1, none⟩ = some (.slice a127_0 (lpp1).length cap127_0))
    (first
      | go_keep
      | exact ⟨(p225.below (below_of_drew b230)).cell 0, (p225.below (below_of_drew b230)).cell 1, (p225.below (below_of_drew b230)).cell 2, (p226.below (below_of_drew b230)).cell 0, (p226.below (below_of_drew b230)).cell 1, (p227.below (below_of_drew b230)).cell 0, (p227.below (below_of_drew b230)).cell 1, (p227.below (below_of_drew b230)).cell 2, (p228.below (below_of_drew b230)).cell 0, (p228.below (below_of_drew b230)).cell 1⟩
      | exact ⟨((p225.below (below_of_drew b230)).below b231).cell 0, ((p225.below (below_of_drew b230)).below b231).cell 1, ((p225.below (below_of_drew b230)).below b231).cell 2, ((p226.below (below_of_drew b230)).below b231).cell 0, ((p226.below (below_of_drew b230)).below b231).cell 1, ((p227.below (below_of_drew b230)).below b231).cell 0, ((p227.below (below_of_drew b230)).below b231).cell 1, ((p227.below (below_of_drew b230)).below b231).cell 2, ((p228.below (below_of_drew b230)).below b231).cell 0, ((p228.below (below_of_drew b230)).below b231).cell 1⟩)
    (first
      | (go_at_call 13; (with_reducible refine (l_toPath _ _ lpp1 _ (Rpp1.out.below hb229).drew (by omega)).mono ?_); rintro e w230 ⟨v230_0, rfl, h230_0, f230_0, b230⟩)
      | (go_at_call 16; (with_reducible refine (l_eqPath _ _ _ _ _ _ _ (h224.below (below_of_drew b230)) h230_0).mono ?_); rintro e w231 ⟨rfl, b231⟩))
  clear k232 k233 k234 k235 k236 k237 k238 k239 k240 k241 k242 k243 k244 k245
  have Db230 := below_of_drew b230
  have h246 := h222.below Db230
  have h247 := h223.below Db230
  have h248 := h224.below Db230
  have p249 := p225.below Db230
  have p250 := p226.below Db230
  have p251 := p227.below Db230
  have p252 := p228.below Db230
  have hb253 := below_call hb229 Db230 hb229.size
  have h254 := h246.below b231
  have h255 := h247.below b231
  have h256 := h248.below b231
  have p257 := p249.below b231
  have p258 := p250.below b231
  have p259 := p251.below b231
  have p260 := p252.below b231
  have hb261 := below_call hb253 b231 hb253.size
  obtain ⟨k262, k263, k264⟩ := blk3 p257
  have k265 := p257.lt
  obtain ⟨k266, k267⟩ := blk2 p258
  have k268 := p258.lt
  obtain ⟨k269, k270, k271⟩ := blk3 p259
  have k272 := p259.lt
  obtain ⟨k273, k274⟩ := blk2 p260
  have k275 := p260.lt
  go_wp2
  go_ret
  exact ⟨rfl, hb261⟩

end Go.Proofs.YtdmjikfjmimfmaaDoor
