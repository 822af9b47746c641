/- Walks of laws whose program writes numbers as texts. -/
import Derived.Test.YtdmjikfjmimfmaaDoorFmI
import Derived.Test.YtdmjikfjmimfmaaDoorMatAux
import Derived.Test.YtdmjikfjmimfmaaDoorLawR
namespace Go.Proofs.YtdmjikfjmimfmaaDoor
open Go.RowKit
set_option linter.unusedVariables false
set_option linter.unusedSimpArgs false

-- walks
set_option maxRecDepth 100000 in
set_option maxHeartbeats 4000000 in
set_option linter.unusedVariables false in
theorem law_FnExactFormatMatrix (p : Int) (mm0 : Int) (mm1 : Int) (mm2 : Value) (lmm2 : List Int) (w : World) (wf_p : (Lit.int .i64 p).wf = true) (wf_mm0 : (Lit.int .i64 mm0).wf = true) (wf_mm1 : (Lit.int .i64 mm1).wf = true) (rmm2 : Raw w mm2 lmm2) (bdmm2 : Bd lmm2) (ht : PowTab w) :
    Calls Tryd.prog 5 #[.int .i64 p, .agg #[.int .i64 mm0, .int .i64 mm1, mm2]] w fun e w' => e = .returned (.bool true) ∧ Below w.heap.size w w' := by
  have HTAB := Lib.hid ht
  clear ht
  obtain ⟨lo_p, hi_p⟩ := wf_i64 wf_p
  clear wf_p
  obtain ⟨lo_mm0, hi_mm0⟩ := wf_i64 wf_mm0
  clear wf_mm0
  obtain ⟨lo_mm1, hi_mm1⟩ := wf_i64 wf_mm1
  clear wf_mm1
  have Rmm2 := Lib.hid rmm2
  have BDmm2 := Lib.hid bdmm2
  obtain ⟨a_mm2, cap_mm2, rfl, hlc_mm2, hcm_mm2⟩ := rmm2.shape
  clear rmm2 bdmm2
  have b1 : Below w.heap.size w (w.alloc (.cells #[.int .i64 mm0, .int .i64 mm1, .slice a_mm2 lmm2.length cap_mm2] 40)) := (Below.refl _ _).alloc (Nat.le_refl _) _
  have hb2 := b1
  have p3 := Blk.new w #[.int .i64 mm0, .int .i64 mm1, .slice a_mm2 lmm2.length cap_mm2] 40
  by_cases hL0 : lmm2.length ≤ 1048576
  rotate_left
  · skip
    go_enter Tryd.func5, Tryd.ntmps5
    have es4 : szI 1048576 lmm2 = -1 := by unfold szI; rw [if_pos (by omega)]
    obtain ⟨k5, k6, k7⟩ := blk3 p3
    have k8 := p3.lt
    go_wp2_with fail
    refine (l_szMatrix _ _ _ lmm2 1048576 _ (Rmm2.out.below hb2) (by omega) (by omega)).mono ?_; rintro e w4 ⟨rfl, b4⟩
    clear k5 k6 k7 k8
    have p9 := p3.below b4
    have hb10 := below_call hb2 b4 hb2.size
    obtain ⟨k11, k12, k13⟩ := blk3 p9
    have k14 := p9.lt
    go_wp2
    go_ret
    exact ⟨rfl, hb10⟩
  go_enter Tryd.func5, Tryd.ntmps5
  have es15 : szI 1048576 lmm2 = 1048576 - (lmm2.length : Int) := by unfold szI; rw [if_neg (by omega)]
  obtain ⟨k16, k17, k18⟩ := blk3 p3
  have k19 := p3.lt
  go_wp2_with fail
  refine (l_szMatrix _ _ _ lmm2 1048576 _ (Rmm2.out.below hb2) (by omega) (by omega)).mono ?_; rintro e w15 ⟨rfl, b15⟩
  clear k16 k17 k18 k19
  have p20 := p3.below b15
  have hb21 := below_call hb2 b15 hb2.size
  obtain ⟨k23, k24, k25⟩ := blk3 p20
  have k26 := p20.lt
  go_wp2_with fail
  refine (l_toMatrix _ _ _ lmm2 _ (Rmm2.out.below hb21) (by omega)).mono ?_; rintro e w22 ⟨v22_0, rfl, h22_0, f22_0, b22⟩
  clear k23 k24 k25 k26
  have p27 := p20.below b22
  have hb28 := below_call hb21 b22 hb21.size
  obtain ⟨a22_0, cap22_0, rfl, _, _⟩ := h22_0.shape
  have sb29 := Lib.hid (sep_blk_new p20 f22_0)
  have Ff22_0 := Lib.hid f22_0
  clear f22_0
  obtain ⟨k31, k32, k33⟩ := blk3 p27
  have k34 := p27.lt
  go_wp2_with fail
  refine (s_FormatMatrix _ _ _ _ lmm2 _ h22_0).mono ?_; rintro e w30 ⟨rfl, b30⟩
  clear k31 k32 k33 k34
  have h35 := h22_0.below b30
  have p36 := p27.below b30
  have hb37 := below_call hb28 b30 hb28.size
  obtain ⟨k39, k40, k41⟩ := blk3 p36
  have k42 := p36.lt
  go_wp2_with fail
  refine (l_toMatrix _ _ _ lmm2 _ (Rmm2.out.below hb37) (by omega)).mono ?_; rintro e w38 ⟨v38_0, rfl, h38_0, f38_0, b38⟩
  clear k39 k40 k41 k42
  have p43 := p36.below b38
  have hb44 := below_call hb37 b38 hb37.size
  obtain ⟨a38_0, cap38_0, rfl, _, _⟩ := h38_0.shape
  have sb45 := Lib.hid (sep_blk_new p36 f38_0)
  have Ff38_0 := Lib.hid f38_0
  clear f38_0
  obtain ⟨k46, k47, k48⟩ := blk3 p43
  have k49 := p43.lt
  have sb50 := Lib.hid (sep_blk_old h38_0)
  have b51 : Below w38.heap.size w38 (w38.alloc (.cells #[.int .i64 mm0, .int .i64 mm1, .slice a38_0 (lmm2).length cap38_0] 43)) := (Below.refl _ w38).alloc (Nat.le_refl _) _
  have h52 := h38_0.below b51
  have p53 := p43.below b51
  have hb54 := below_call hb44 b51 hb44.size
  have p55 := Blk.new w38 #[.int .i64 mm0, .int .i64 mm1, .slice a38_0 (lmm2).length cap38_0] 43
  obtain ⟨k57, k58, k59⟩ := blk3 p53
  have k60 := p53.lt
  obtain ⟨k61, k62, k63⟩ := blk3 p55
  have k64 := p55.lt
  go_wp2_with fail
  refine (i_FormatMatrix _ _ _ _ lmm2 _ h52 (HTAB.out.below hb54)).mono ?_; rintro e w56 ⟨rfl, b56⟩
  clear k57 k58 k59 k60 k61 k62 k63 k64
  have h65 := h52.below b56
  have p66 := p53.below b56
  have p67 := p55.below b56
  have hb68 := below_call hb54 b56 hb54.size
  have e70 := eqM_refl mm0 mm1 lmm2
  obtain ⟨k71, k72, k73⟩ := blk3 p66
  have k74 := p66.lt
  obtain ⟨k75, k76, k77⟩ := blk3 p67
  have k78 := p67.lt
  go_wp2_with fail
  go_region_held3 (fun w' => w'.cell? ⟨w.heap.size, 0, none⟩ = some (.int .i64 mm0) ∧ w'.cell? ⟨w.heap.size, 1, none⟩ = some (.int .i64 mm1) ∧ w'.cell? ⟨w.heap.size, 2, none⟩ = some (.slice a_mm2 lmm2.length cap_mm2) ∧ w'.cell? ⟨w38.heap.size, 0, none⟩ = some (.int .i64 mm0) ∧ w'.cell? ⟨w38.heap.size, 1, none⟩ = some (.int .i64 mm1) ∧ w'.cell? ⟨w38.heap.size, 2, none⟩ = some (.slice a38_0 (lmm2).length cap38_0))
    (first
      | go_keep
      | exact ⟨(p66.below (below_of_drew b69)).cell 0, (p66.below (below_of_drew b69)).cell 1, (p66.below (below_of_drew b69)).cell 2, (p67.below (below_of_drew b69)).cell 0, (p67.below (below_of_drew b69)).cell 1, (p67.below (below_of_drew b69)).cell 2⟩
      | exact ⟨((p66.below (below_of_drew b69)).below b70).cell 0, ((p66.below (below_of_drew b69)).below b70).cell 1, ((p66.below (below_of_drew b69)).below b70).cell 2, ((p67.below (below_of_drew b69)).below b70).cell 0, ((p67.below (below_of_drew b69)).below b70).cell 1, ((p67.below (below_of_drew b69)).below b70).cell 2⟩)
    (first
      | (go_at_call 21; (with_reducible refine (l_toMatrix _ _ _ lmm2 _ (Rmm2.out.below hb68).drew (by omega)).mono ?_); rintro e w69 ⟨v69_0, rfl, h69_0, f69_0, b69⟩)
      | (go_at_call 23; (with_reducible refine (l_eqMatrix _ _ _ _ _ _ _ _ _ (h65.below (below_of_drew b69)) h69_0).mono ?_); rintro e w70 ⟨rfl, b70⟩))
  clear k71 k72 k73 k74 k75 k76 k77 k78
  have Db69 := below_of_drew b69
  have h79 := h65.below Db69
  have p80 := p66.below Db69
  have p81 := p67.below Db69
  have hb82 := below_call hb68 Db69 hb68.size
  have h83 := h79.below b70
  have p84 := p80.below b70
  have p85 := p81.below b70
  have hb86 := below_call hb82 b70 hb82.size
  obtain ⟨k87, k88, k89⟩ := blk3 p84
  have k90 := p84.lt
  obtain ⟨k91, k92, k93⟩ := blk3 p85
  have k94 := p85.lt
  go_wp2
  go_ret
  exact ⟨rfl, hb86⟩

end Go.Proofs.YtdmjikfjmimfmaaDoor
