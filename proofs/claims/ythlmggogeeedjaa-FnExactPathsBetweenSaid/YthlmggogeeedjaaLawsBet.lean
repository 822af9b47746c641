/- Walk of the law PathsBetween (made from that of AllPaths). -/
import Derived.Test.YthlmggogeeedjaaBetD
import Derived.Test.YthlmggogeeedjaaEqPS
import Derived.Test.YthlmggogeeedjaaMarkS
namespace Go.Proofs.Ythlmggogeeedjaa
open Go.RowKit
set_option linter.unusedVariables false
set_option linter.unusedSimpArgs false

theorem OwnD.chg {w w' : World} {B : Nat} {v : Value} {L : List Pt} {X : Nat → Prop} (h : OwnD w B v L) (c : Chg X w w') (hx : ∀ q, X q → q < B) : OwnD w' B v L := by
  obtain ⟨us, ⟨h1, h2⟩, h3, h4⟩ := h
  refine ⟨us, ⟨h1, ?_⟩, h3.keep fun u l hu hf => hu.chg c (fun q hq hX => by have := hf q hq; have := hx q hX; omega), h4⟩
  rcases h2 with h2 | ⟨g, cap, cur, e, hb, hg, r⟩
  · exact .inl h2
  · exact .inr ⟨g, cap, cur, e, hb, (c.block g (Array.getElem?_eq_some_iff.1 hg).1 (fun hX => by have := hx g hX; omega)).trans hg, r⟩
theorem szP_small {L : List Pt} (h : ∀ i, i < L.length → (L.getD i (0, [])).2.length ≤ 6) : szP L ≤ L.length * 7 := by
  induction L with
  | nil => simp [szP]
  | cons p L ih =>
    have h0 := h 0 (by simp)
    have h1 := ih (fun i hi => by have := h (i + 1) (by simpa using hi); simpa [List.getD] using this)
    simp only [List.getD_cons_zero] at h0
    simp only [szP, List.length_cons]
    omega
theorem btwS_small {n : Int} {f t : List Int} {a b : Int} : (btwS n f t a b).length ≤ 117649 := by
  unfold btwS
  by_cases e : btwOK n f t a b = true
  · rw [if_pos e]
    unfold btwOK at e
    simp only [Bool.and_eq_true] at e
    obtain ⟨h6, _, h5, _⟩ := isQ_l62 e.1.1
    exact Nat.le_trans (List.length_filter_le _ _) (pP_small h6 a)
  · rw [if_neg e]; simp
theorem pP_arr6 {f t : List Int} {a : Int} : ∀ p ∈ pP f t 6 a, p.2.length ≤ 6 := by
  intro p hp
  unfold pP at hp
  rw [List.mem_map] at hp
  obtain ⟨q, hq, rfl⟩ := hp
  exact pF_arr 6 _ q hq
theorem btwS_arr {n : Int} {f t : List Int} {a b : Int} {i : Nat} (h : i < (btwS n f t a b).length) : ((btwS n f t a b).getD i (0, [])).2.length ≤ 6 := by
  have hm : (btwS n f t a b).getD i (0, []) ∈ btwS n f t a b := by simp [List.getD, h]
  generalize (btwS n f t a b).getD i (0, []) = x at hm ⊢
  unfold btwS at hm
  by_cases e : btwOK n f t a b = true
  · rw [if_pos e] at hm
    exact pP_arr6 _ (List.mem_filter.1 hm).1
  · rw [if_neg e] at hm; cases hm
set_option maxRecDepth 100000 in
set_option maxHeartbeats 4000000 in
set_option linter.unusedVariables false in
theorem law_FnExactPathsBetween (qq0 : Int) (qq1 : Value) (lqq1 : List Int) (qq2 : Value) (lqq2 : List Int) (a : Int) (b : Int) (w : World) (wf_qq0 : (Lit.int .i64 qq0).wf = true) (rqq1 : Raw w qq1 lqq1) (bdqq1 : Bd lqq1) (rqq2 : Raw w qq2 lqq2) (bdqq2 : Bd lqq2) (wf_a : (Lit.int .i64 a).wf = true) (wf_b : (Lit.int .i64 b).wf = true) :
    Calls Try.prog 3 #[.agg #[.int .i64 qq0, qq1, qq2], .int .i64 a, .int .i64 b] w fun e w' => e = .returned (.bool true) ∧ Below w.heap.size w w' := by
  obtain ⟨lo_qq0, hi_qq0⟩ := wf_i64 wf_qq0
  clear wf_qq0
  have Rqq1 := Lib.hid rqq1
  have BDqq1 := Lib.hid bdqq1
  obtain ⟨a_qq1, cap_qq1, rfl, hlc_qq1, hcm_qq1⟩ := rqq1.shape
  clear rqq1 bdqq1
  have Rqq2 := Lib.hid rqq2
  have BDqq2 := Lib.hid bdqq2
  obtain ⟨a_qq2, cap_qq2, rfl, hlc_qq2, hcm_qq2⟩ := rqq2.shape
  clear rqq2 bdqq2
  obtain ⟨lo_a, hi_a⟩ := wf_i64 wf_a
  clear wf_a
  obtain ⟨lo_b, hi_b⟩ := wf_i64 wf_b
  clear wf_b
  have b1 : Below w.heap.size w (w.alloc (.cells #[.int .i64 qq0, .slice a_qq1 lqq1.length cap_qq1, .slice a_qq2 lqq2.length cap_qq2] 24)) := (Below.refl _ _).alloc (Nat.le_refl _) _
  have hb2 := b1
  have p3 := Blk.new w #[.int .i64 qq0, .slice a_qq1 lqq1.length cap_qq1, .slice a_qq2 lqq2.length cap_qq2] 24
  by_cases hL0 : lqq1.length + lqq2.length ≤ 1048576
  rotate_left
  · skip
    go_enter Try.func3, Try.ntmps3
    have es4 : szQ 1048576 lqq1 lqq2 = -1 := by unfold szQ; simp only [szI]; repeat (first | rfl | omega | split)
    obtain ⟨k5, k6, k7⟩ := blk3 p3
    have k8 := p3.lt
    go_wp2_with fail
    refine (l_szQuiver _ _ _ lqq1 lqq2 1048576 _ (Rqq1.out.below hb2) (Rqq2.out.below hb2) (by omega) (by omega)).mono ?_; rintro e w4 ⟨rfl, b4⟩
    clear k5 k6 k7 k8
    have p9 := p3.below b4
    have hb10 := below_call hb2 b4 hb2.size
    obtain ⟨k11, k12, k13⟩ := blk3 p9
    have k14 := p9.lt
    go_wp2
    go_ret
    exact ⟨rfl, hb10⟩
  go_enter Try.func3, Try.ntmps3
  have es16 : szQ 1048576 lqq1 lqq2 = 1048576 - (lqq1.length : Int) - (lqq2.length : Int) := by unfold szQ; simp only [szI]; repeat (first | rfl | omega | split)
  obtain ⟨k17, k18, k19⟩ := blk3 p3
  have k20 := p3.lt
  go_wp2_with fail
  refine (l_szQuiver _ _ _ lqq1 lqq2 1048576 _ (Rqq1.out.below hb2) (Rqq2.out.below hb2) (by omega) (by omega)).mono ?_; rintro e w16 ⟨rfl, b16⟩
  clear k17 k18 k19 k20
  have p21 := p3.below b16
  have hb22 := below_call hb2 b16 hb2.size
  obtain ⟨k24, k25, k26⟩ := blk3 p21
  have k27 := p21.lt
  go_wp2_with fail
  refine (l_toQuiver _ _ _ lqq1 lqq2 _ (Rqq1.out.below hb22) (Rqq2.out.below hb22) (by omega) (by omega)).mono ?_; rintro e w23 ⟨v23_0, v23_1, rfl, h23_0, h23_1, f23_0, f23_1, s23_01, b23⟩
  clear k24 k25 k26 k27
  have p28 := p21.below b23
  have hb29 := below_call hb22 b23 hb22.size
  obtain ⟨a23_0, cap23_0, rfl, _, _⟩ := h23_0.shape
  have sb30 := Lib.hid (sep_blk_new p21 f23_0)
  obtain ⟨a23_1, cap23_1, rfl, _, _⟩ := h23_1.shape
  have sb31 := Lib.hid (sep_blk_new p21 f23_1)
  have Ss23_01 := Lib.hid s23_01
  have Ts23_01 := Lib.hid (sep_symm Ss23_01.out)
  clear s23_01
  have Ff23_0 := Lib.hid f23_0
  clear f23_0
  have Ff23_1 := Lib.hid f23_1
  clear f23_1
  obtain ⟨k33, k34, k35⟩ := blk3 p28
  have k36 := p28.lt
  go_wp2_with fail
  refine (s_PathsBetween _ _ _ lqq1 lqq2 _ _ _ h23_0 h23_1).mono ?_; rintro e w32 ⟨v32_0, rfl, h32_0, b32⟩
  clear k33 k34 k35 k36
  have p39 := p28.below b32
  have hb40 := below_call hb29 b32 hb29.size
  obtain ⟨L, hL⟩ : ∃ L, L = btwS qq0 lqq1 lqq2 a b := ⟨_, rfl⟩
  rw [← hL] at h32_0
  have hsm : L.length ≤ 117649 := by rw [hL]; exact btwS_small
  have HSZ := Lib.hid (show szP L ≤ L.length * 7 from szP_small (fun i hi => by rw [hL] at hi ⊢; exact btwS_arr hi))
  have hsz : szP L ≤ 823543 := by have := HSZ.out; omega
  have HL := Lib.hid hL
  clear hL
  obtain ⟨a32_0, cap32_0, rfl, _, _⟩ := h32_0.shape
  have S := Lib.hid h32_0
  clear h32_0
  obtain ⟨k47, k48, k49⟩ := blk3 p39
  have k50 := p39.lt
  go_wp2_with fail
  refine (l_toQuiver _ _ _ lqq1 lqq2 _ (Rqq1.out.below hb40) (Rqq2.out.below hb40) (by omega) (by omega)).mono ?_; rintro e w46 ⟨v46_0, v46_1, rfl, h46_0, h46_1, f46_0, f46_1, s46_01, b46⟩
  clear k47 k48 k49 k50
  have p52 := p39.below b46
  have hb53 := below_call hb40 b46 hb40.size
  obtain ⟨a46_0, cap46_0, rfl, _, _⟩ := h46_0.shape
  have sb56 := Lib.hid (sep_blk_new p39 f46_0)
  obtain ⟨a46_1, cap46_1, rfl, _, _⟩ := h46_1.shape
  have sb59 := Lib.hid (sep_blk_new p39 f46_1)
  have Ss46_01 := Lib.hid s46_01
  clear s46_01
  have Ff46_0 := Lib.hid f46_0
  clear f46_0
  have Ff46_1 := Lib.hid f46_1
  clear f46_1
  have lt46_0 := Lib.hid h46_0.lt; have lt46_1 := Lib.hid h46_1.lt
  have bS46 := Lib.hid b46
  obtain ⟨k60, k61, k62⟩ := blk3 p52
  have k63 := p52.lt
  have sb65 := Lib.hid (sep_blk_old h46_0)
  have sb66 := Lib.hid (sep_blk_old h46_1)
  have b67 : Below w46.heap.size w46 (w46.alloc (.cells #[.int .i64 qq0, .slice a46_0 (lqq1).length cap46_0, .slice a46_1 (lqq2).length cap46_1] 29)) := (Below.refl _ w46).alloc (Nat.le_refl _) _
  have h69 := h46_0.below b67
  have h70 := h46_1.below b67
  have p71 := p52.below b67
  have hb72 := below_call hb53 b67 hb53.size
  have bS67 := Lib.hid (bS46.out.trans (b67.mono bS46.out.size))
  have p73 := Blk.new w46 #[.int .i64 qq0, .slice a46_0 (lqq1).length cap46_0, .slice a46_1 (lqq2).length cap46_1] 29
  obtain ⟨k75, k76, k77⟩ := blk3 p71
  have k78 := p71.lt
  obtain ⟨k79, k80, k81⟩ := blk3 p73
  have k82 := p73.lt
  go_wp2_with fail
  refine (i_PathsBetweenD _ _ _ lqq1 lqq2 _ _ _ h69 h70).mono ?_; rintro e w74 ⟨v74_0, rfl, h74_0, b74⟩
  clear k75 k76 k77 k78 k79 k80 k81 k82
  rw [← HL.out] at h74_0
  have h84 := h69.below b74
  have h85 := h70.below b74
  have p86 := p71.below b74
  have p87 := p73.below b74
  have hb88 := below_call hb72 b74 hb72.size
  have bS74 := Lib.hid (bS67.out.trans (b74.mono bS67.out.size))
  obtain ⟨a74_0, cap74_0, rfl, _, _⟩ := h74_0.own.shape
  have sb95 : Hid (w.heap.size < (w46.alloc (.cells #[.int .i64 qq0, .slice a46_0 (lqq1).length cap46_0, .slice a46_1 (lqq2).length cap46_1] 29)).heap.size) := Lib.hid p71.lt
  obtain ⟨B74, hB74⟩ : ∃ B, B = (w46.alloc (.cells #[.int .i64 qq0, .slice a46_0 (lqq1).length cap46_0, .slice a46_1 (lqq2).length cap46_1] 29)).heap.size := ⟨_, rfl⟩
  have HB74 := Lib.hid hB74
  rw [← hB74] at h74_0
  have D := Lib.hid h74_0
  clear h74_0 hB74
  obtain ⟨k98, k99, k100⟩ := blk3 p86
  have k101 := p86.lt
  obtain ⟨k102, k103, k104⟩ := blk3 p87
  have k105 := p87.lt
  go_wp2_with fail
  refine (l_eqPathS _ _ _ _ L _ D.out.own (S.out.below bS74.out) (by omega)).mono ?_; rintro e w97 ⟨rfl, b97⟩
  clear k98 k99 k100 k101 k102 k103 k104 k105
  have h107 := h84.below b97
  have h108 := h85.below b97
  have D97 := Lib.hid (D.out.below b97)
  have bS97 := Lib.hid (bS74.out.trans (b97.mono bS74.out.size))
  have p110 := p86.below b97
  have p111 := p87.below b97
  have hb112 := below_call hb88 b97 hb88.size
  have e114 := eqQ_refl qq0 lqq1 lqq2
  obtain ⟨k115, k116, k117⟩ := blk3 p110
  have k118 := p110.lt
  obtain ⟨k119, k120, k121⟩ := blk3 p111
  have k122 := p111.lt
  go_wp2_with fail
  go_region_held3 (fun w' => w'.cell? ⟨w.heap.size, 0, none⟩ = some (.int .i64 qq0) ∧ w'.cell? ⟨w.heap.size, 1, none⟩ = some (.slice a_qq1 lqq1.length cap_qq1) ∧ w'.cell? ⟨w.heap.size, 2, none⟩ = some (.slice a_qq2 lqq2.length cap_qq2) ∧ w'.cell? ⟨w46.heap.size, 0, none⟩ = some (.int .i64 qq0) ∧ w'.cell? ⟨w46.heap.size, 1, none⟩ = some (.slice a46_0 (lqq1).length cap46_0) ∧ w'.cell? ⟨w46.heap.size, 2, none⟩ = some (.slice a46_1 (lqq2).length cap46_1))
    (first
      | go_keep
      | exact ⟨(p110.below (below_of_drew b113)).cell 0, (p110.below (below_of_drew b113)).cell 1, (p110.below (below_of_drew b113)).cell 2, (p111.below (below_of_drew b113)).cell 0, (p111.below (below_of_drew b113)).cell 1, (p111.below (below_of_drew b113)).cell 2⟩
      | exact ⟨((p110.below (below_of_drew b113)).below b114).cell 0, ((p110.below (below_of_drew b113)).below b114).cell 1, ((p110.below (below_of_drew b113)).below b114).cell 2, ((p111.below (below_of_drew b113)).below b114).cell 0, ((p111.below (below_of_drew b113)).below b114).cell 1, ((p111.below (below_of_drew b113)).below b114).cell 2⟩)
    (first
      | (go_at_call 6; (with_reducible refine (l_toQuiver _ _ _ lqq1 lqq2 _ (Rqq1.out.below hb112).drew (Rqq2.out.below hb112).drew (by omega) (by omega)).mono ?_); rintro e w113 ⟨v113_0, v113_1, rfl, h113_0, h113_1, f113_0, f113_1, s113_01, b113⟩)
      | (go_at_call 9; (with_reducible refine (l_eqQuiver _ _ _ _ _ _ _ _ _ _ _ (h107.below (below_of_drew b113)) (h108.below (below_of_drew b113)) h113_0 h113_1).mono ?_); rintro e w114 ⟨rfl, b114⟩))
  clear k115 k116 k117 k118 k119 k120 k121 k122
  have Db113 := below_of_drew b113
  have h124 := h107.below Db113
  have h125 := h108.below Db113
  have p127 := p110.below Db113
  have p128 := p111.below Db113
  have hb129 := below_call hb112 Db113 hb112.size
  have h131 := h124.below b114
  have h132 := h125.below b114
  have p134 := p127.below b114
  have p135 := p128.below b114
  have hb136 := below_call hb129 b114 hb129.size
  have D114 := Lib.hid ((D97.out.below Db113).below b114)
  have bS114 := Lib.hid ((bS97.out.trans (Db113.mono bS97.out.size)).trans (b114.mono (Nat.le_trans bS97.out.size Db113.size)))
  obtain ⟨k138, k139, k140⟩ := blk3 p134
  have k141 := p134.lt
  obtain ⟨k142, k143, k144⟩ := blk3 p135
  have k145 := p135.lt
  go_wp2_with fail
  refine (l_markQuiver _ _ _ lqq1 lqq2 _ _ h131 h132 Ss46_01.out (by omega) (by omega)).mono ?_; rintro e w137 ⟨rfl, h137_0, h137_1, c137⟩
  clear k138 k139 k140 k141 k142 k143 k144 k145
  have p146 := p134.chg c137 (fun h => h.elim sb56.out sb59.out)
  have hb150 := below_chg hb136 c137 hb136.size (fun k h => h.elim (fun h => Nat.le_trans hb40.size (Ff46_0.out k h)) (fun h => Nat.le_trans hb40.size (Ff46_1.out k h)))
  have bS137 := Lib.hid (below_chg bS114.out c137 bS114.out.size (fun k h => h.elim (fun h => Ff46_0.out k h) (fun h => Ff46_1.out k h)))
  have D137 := Lib.hid (D114.out.chg c137 (fun q h => by
    have hB := HB74.out
    simp only [World.size_alloc] at hB
    rcases h with h | h
    · have := lt46_0.out q h; omega
    · have := lt46_1.out q h; omega))
  obtain ⟨k152, k153, k154⟩ := blk3 p146
  have k155 := p146.lt
  go_wp2_with fail
  refine (l_eqPathS _ _ _ _ L _ D137.out.own (S.out.below bS137.out) (by omega)).mono ?_; rintro e w151 ⟨rfl, b151⟩
  clear k152 k153 k154 k155
  have p164 := p146.below b151
  have hb166 := below_call hb150 b151 hb150.size
  have D151 := Lib.hid (D137.out.below b151)
  have bS151 := Lib.hid (bS137.out.trans (b151.mono bS137.out.size))
  obtain ⟨k168, k169, k170⟩ := blk3 p164
  have k171 := p164.lt
  go_wp2_with fail
  refine (l_markPathS _ _ L _ _ D151.out (by omega) (by omega)).mono ?_; rintro e w167 ⟨rfl, h167_0, c167⟩
  clear k168 k169 k170 k171
  have p172 := p164.chg c167 (fun h => by have := sb95.out; have := HB74.out; omega)
  have hb174 := below_chg hb166 c167 hb166.size (fun k h => by have := HB74.out; have := hb72.size; omega)
  have bS167 := Lib.hid (below_chg bS151.out c167 bS151.out.size (fun k h => by have := HB74.out; have := bS67.out.size; omega))
  obtain ⟨k176, k177, k178⟩ := blk3 p172
  have k179 := p172.lt
  have M167 := Lib.hid h167_0
  clear h167_0
  go_wp2_with fail
  refine (l_heldPathS _ _ L _ _ M167.out (by omega) (by omega)).mono ?_; rintro e wz ⟨rfl, rfl⟩
  clear k176 k177 k178 k179
  obtain ⟨k181, k182, k183⟩ := blk3 p172
  have k184 := p172.lt
  go_wp2_with fail
  refine (l_toQuiver _ _ _ lqq1 lqq2 _ (Rqq1.out.below hb174) (Rqq2.out.below hb174) (by omega) (by omega)).mono ?_; rintro e w180 ⟨v180_0, v180_1, rfl, h180_0, h180_1, f180_0, f180_1, s180_01, b180⟩
  clear k181 k182 k183 k184
  have p187 := p172.below b180
  have hb188 := below_call hb174 b180 hb174.size
  obtain ⟨a180_0, cap180_0, rfl, _, _⟩ := h180_0.shape
  obtain ⟨a180_1, cap180_1, rfl, _, _⟩ := h180_1.shape
  clear s180_01 f180_0 f180_1
  have bS180 := Lib.hid (bS167.out.trans (b180.mono bS167.out.size))
  have bM180 := Lib.hid b180
  obtain ⟨k200, k201, k202⟩ := blk3 p187
  have k203 := p187.lt
  go_wp2_with fail
  refine (i_PathsBetweenD _ _ _ lqq1 lqq2 _ _ _ h180_0 h180_1).mono ?_; rintro e w199 ⟨v199_0, rfl, h199_0, b199⟩
  clear k200 k201 k202 k203
  rw [← HL.out] at h199_0
  have p208 := p187.below b199
  have hb209 := below_call hb188 b199 hb188.size
  obtain ⟨a199_0, cap199_0, rfl, _, _⟩ := h199_0.own.shape
  have D199 := Lib.hid h199_0
  clear h199_0
  have bS199 := Lib.hid (bS180.out.trans (b199.mono bS180.out.size))
  have bM199 := Lib.hid (bM180.out.trans (b199.mono bM180.out.size))
  obtain ⟨k220, k221, k222⟩ := blk3 p208
  have k223 := p208.lt
  go_wp2_with fail
  refine (l_eqPathS _ _ _ _ L _ D199.out.own (S.out.below bS199.out) (by omega)).mono ?_; rintro e w219 ⟨rfl, b219⟩
  clear k220 k221 k222 k223
  have p227 := p208.below b219
  have hb228 := below_call hb209 b219 hb209.size
  have bM219 := Lib.hid (bM199.out.trans (b219.mono bM199.out.size))
  obtain ⟨k230, k231, k232⟩ := blk3 p227
  have k233 := p227.lt
  go_wp2_with fail
  refine (l_heldPathS _ _ L _ _ (M167.out.below bM219.out) (by omega) (by omega)).mono ?_; rintro e wz ⟨rfl, rfl⟩
  clear k230 k231 k232 k233
  obtain ⟨k234, k235, k236⟩ := blk3 p227
  have k237 := p227.lt
  go_wp2
  go_ret
  exact ⟨rfl, hb228⟩
end Go.Proofs.Ythlmggogeeedjaa
