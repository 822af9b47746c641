/- ParseMatrix of the reference: its walk. -/
import Derived.Test.YtdmjikfjmimfmaaDoorPmL
import Derived.Test.YtdmjikfjmimfmaaDoorMG
import Derived.Test.YtdmjikfjmimfmaaDoorFm
import Derived.Test.YtdmjikfjmimfmaaDoorPqI
namespace Go.Proofs.YtdmjikfjmimfmaaDoor
open Go.RowKit
set_option linter.unusedVariables false
set_option linter.unusedSimpArgs false
theorem MatOK.of_eq2 {r r' c c' : Int} {l l' : List Int} {ok ok' : Bool} {w w' : World} {e : Ending} (h : MatOK r c l ok w e w') (h0 : r = r') (h1 : c = c') (h2 : l = l') (h3 : ok = ok') : MatOK r' c' l' ok' w e w' := by
  subst h0; subst h1; subst h2; subst h3; exact h
theorem tk_succ {L : List UInt8} {j : Nat} (h4 : 4 ≤ j) (h : j < L.length) : (L.take (j + 1)).drop 4 = (L.take j).drop 4 ++ [L[j]] := by
  rw [List.take_succ_eq_append_getElem h, List.drop_append_of_le_length (by rw [List.length_take]; omega)]
set_option maxRecDepth 100000 in
set_option maxHeartbeats 4000000 in
theorem s_ParseMatrix (p : Int) (s : ByteArray) (w : World) :
    Calls Tryd.prog 30 #[.int .i64 p, .string s] w (MatOK (pmR p s) (pmC p s) (pmL p s) (pmB p s) w) := by
  have hb0 : Below w.heap.size w (w.alloc (.cells #[.int .i64 0, .int .i64 0, .slice none 0 0] 43)) := (Below.refl _ w).alloc (Nat.le_refl _) _
  have HB0 := Lib.hid hb0
  have HR0 := Lib.hid (Blk.new w #[.int .i64 0, .int .i64 0, .slice none 0 0] 43)
  clear hb0
  obtain ⟨r0, r1, r2⟩ := blk3 HR0.out
  have g0 := HR0.out.frozen 0; have g1 := HR0.out.frozen 1; have g2 := HR0.out.frozen 2
  by_cases hgood : isF p = true ∧ 4 ≤ s.size ∧ s.size ≤ 90
  · obtain ⟨hF, h4, h90⟩ := hgood
    have hd1 : decide ((s.size : Int) < 4) = false := by simp; omega
    have hd2 : decide ((90 : Int) < (s.size : Int)) = false := by simp; omega
    have hs0 : 0 < s.size := by omega
    have hs2 : 2 < s.size := by omega
    have hb0 := Lib.hid (bN_get s 0 hs0)
    have hb2 := Lib.hid (bN_get s 2 hs2)
    have hy0 := s[0].toNat_lt
    have hy2 := s[2].toNat_lt
    have HF := Lib.hid hF
    clear hF
    go_enter Tryd.func30, Tryd.ntmps30
    go_wp2_with fail
    refine (s_IsField p _).mono ?_; rintro e w' ⟨rfl, rfl⟩
    rw [HF.out]
    have e1 : IntKind.i64.wrap (s[0].toNat : Int) = (s[0].toNat : Int) := IntWalk.i64_in _ (by omega)
    have e2 : IntKind.i64.wrap ((s[0].toNat : Int) - 48) = (s[0].toNat : Int) - 48 := IntWalk.i64_in _ (by omega)
    have e3 : IntKind.i64.wrap (s[2].toNat : Int) = (s[2].toNat : Int) := IntWalk.i64_in _ (by omega)
    have e4 : IntKind.i64.wrap ((s[2].toNat : Int) - 48) = (s[2].toNat : Int) - 48 := IntWalk.i64_in _ (by omega)
    have i0 : (0 : Int) < (s.size : Int) := by omega
    have i2 : (2 : Int) < (s.size : Int) := by omega
    obtain ⟨R, hR⟩ : ∃ R, R = (s[0].toNat : Int) - 48 := ⟨_, rfl⟩
    obtain ⟨C, hC⟩ : ∃ C, C = (s[2].toNat : Int) - 48 := ⟨_, rfl⟩
    have HRC := Lib.hid (And.intro (hb0.out.trans hR.symm) (hb2.out.trans hC.symm))
    have Q0 : Hid (MG w w.heap.size (w.heap.size + 1) (w.heap.size + 2) R C (.slice none 0 0) (.slice none 0 0) [] (((w.alloc (.cells #[.int .i64 0, .int .i64 0, .slice none 0 0] 43)).alloc (.cells #[.int .i64 R, .int .i64 C, .slice none 0 0] 43)).drew)) := by
      refine ⟨?_, ?_, Own.nil _ _ _ _, fun k hk => (by simp [Value.ownBlock] at hk), ?_, by simp, by omega, by omega, by omega⟩
      · have := Blk.new (w.alloc (.cells #[.int .i64 0, .int .i64 0, .slice none 0 0] 43)) #[.int .i64 R, .int .i64 C, .slice none 0 0] 43
        rw [World.size_alloc] at this
        exact this.drew
      · exact ⟨_, _, _, (HR0.out.below ((Below.refl _ _).alloc (Nat.le_refl _) _)).drew⟩
      · exact (HB0.out.alloc (by simp) _).drew
    go_upto_region 3 with fail
    go_cut [6] (fun q wx => q = .pointer (some ⟨w.heap.size + 1, 0, none⟩) ∧ Hid (MG w w.heap.size (w.heap.size + 1) (w.heap.size + 2) R C (.slice none 0 0) (.slice none 0 0) [] wx))
    case first =>
      go_region_held3 (fun _ => True) (exact trivial) (fail)
      all_goals
        rw [← hR, ← hC]
        go_wp2_with fail
        go_meet
        exact ⟨rfl, Q0⟩
    case rest =>
      obtain ⟨rfl, HQ0⟩ := hcut
      clear e1 e2 e3 e4 i0 i2 hR hC hy0 hy2 r0 r1 r2 g0 g1 g2
      go_wp2
      go_loopw [7] (fun iv wr => ∃ (j : Nat) (v : Value), iv = .int .i64 j ∧ 4 ≤ j ∧ j ≤ s.size ∧ Hid (MG w w.heap.size (w.heap.size + 1) (w.heap.size + 2) R C v v (cB ((s.data.toList.take j).drop 4)) wr)) (fun iv _ => s.size - (intOf iv).toNat)
      case atStart => exact ⟨4, _, rfl, by omega, h4, by
        have e : (s.data.toList.take 4).drop 4 = [] := List.drop_eq_nil_of_le (by rw [List.length_take]; omega)
        rw [e]; exact HQ0⟩
      case round =>
        obtain ⟨j, v, rfl, hj4, hj, HQ⟩ := hrel
        by_cases hlt : j < s.size
        · have hy := s[j].toNat_lt
          have hbj := Lib.hid (tk_succ (L := s.data.toList) hj4 hlt)
          have hcl : (cB ((s.data.toList.take j).drop 4)).length ≤ 90 := Nat.le_trans (cB_len _) (by rw [List.length_drop, List.length_take]; have e : s.data.toList.length = s.size := rfl; omega)
          obtain ⟨u0, u1, u2⟩ := blk3 HQ.out.1
          have hf2 := HQ.out.1.frozen 2
          by_cases h47 : s[j] = 47
          · have hn : ((s[j].toNat : Int) != 47) = false := by rw [h47]; rfl
            have HQ2 : Hid (MG w w.heap.size (w.heap.size + 1) (w.heap.size + 2) R C v v (cB ((s.data.toList.take (j + 1)).drop 4)) wr) := by
              have e : s.data.toList[j]'hlt = s[j] := rfl
              rw [hbj.out, e, h47, cB_app, cB_no, List.append_nil]; exact HQ
            clear h47 hbj
            go_wp2
            go_roundw
            case rel => exact ⟨j + 1, v, by go_num, by omega, by omega, HQ2⟩
            case measure => simp [intOf]; omega
          · have hn : ((s[j].toNat : Int) != 47) = true := by
              rw [bne_iff_ne]; intro e
              exact h47 (by rw [← UInt8.toNat_inj]; show s[j].toNat = 47; omega)
            have hbs : cB ((s.data.toList.take (j + 1)).drop 4) = cB ((s.data.toList.take j).drop 4) ++ [(s[j].toNat : Int) - 48] := by
              have e : s.data.toList[j]'hlt = s[j] := rfl
              rw [hbj.out, e, cB_app, cB_yes h47]
            have HBS := Lib.hid hbs
            have e1 : IntKind.i64.wrap (s[j].toNat : Int) = (s[j].toNat : Int) := IntWalk.i64_in _ (by omega)
            have e2 : IntKind.i64.wrap ((s[j].toNat : Int) - 48) = (s[j].toNat : Int) - 48 := IntWalk.i64_in _ (by omega)
            have hld := (HQ.out.1.below ((Below.refl _ wr).alloc (Nat.le_refl _) (.cells #[.int .i64 ((s[j].toNat : Int) - 48)] 3))).cell 2
            simp only [List.getElem?_toArray, List.getElem?_cons_succ, List.getElem?_cons_zero] at hld
            obtain ⟨L, hL⟩ : ∃ L, L = cB ((s.data.toList.take j).drop 4) := ⟨_, rfl⟩
            rw [← hL] at HQ HBS hcl
            clear h47 hbj hbs hL
            go_wp2
            go_region_law (first | (refine step_app_m wr (by rfl) (.tmp 42) (.tmp 48) (by rfl) (by rfl) (by rfl) HQ.out (by omega) ?_; intro v1 w1 hq1; obtain ⟨aa1, ac1, rfl, _, _⟩ := (Ints.of_own hq1.2.2.1).1.shape; simp only [List.length_append, List.length_singleton] at hq1; obtain ⟨c0, c1, c2⟩ := blk3 hq1.1; have f2 := hq1.1.frozen 2))
            all_goals
              have hq2 := hq1.store
              clear hq1 c0 c1 c2 f2 u0 u1 u2 hf2 e1 e2 hld
              rw [← HBS.out] at hq2
              generalize w1.setCell { block := w.heap.size + 1, off := 2 } (Value.slice aa1 (L.length + 1) ac1) = W2 at hq2 ⊢
              have HQ2 := Lib.hid hq2
              clear hq2
              go_wp2
              go_roundw
              case rel => exact ⟨j + 1, _, by go_num, by omega, by omega, HQ2⟩
              case measure => simp [intOf]; omega
        · skip
          have hdk : decide (j < s.size) = false := by simpa using hlt
          have hjs : j = s.size := by omega
          have htk : (s.data.toList.take j).drop 4 = s.data.toList.drop 4 := by rw [List.take_of_length_le (by have e : s.data.toList.length = s.size := rfl; omega)]
          rw [htk] at HQ
          obtain ⟨l, hl⟩ : ∃ l, l = cB (s.data.toList.drop 4) := ⟨_, rfl⟩
          rw [← hl] at HQ
          have HL := Lib.hid hl
          have hs0 : s ≠ ⟨#[]⟩ := fun e => by rw [e] at h4; exact absurd h4 (by decide)
          clear hl htk
          obtain ⟨u0, u1, u2⟩ := blk3 HQ.out.1
          obtain ⟨i1, f1⟩ := Ints.of_own HQ.out.2.2.1
          obtain ⟨ac, cc, rfl, hlc, hmc⟩ := i1.shape
          have HJ := Lib.hid (And.intro i1 f1)
          have hcon := s_FormatMatrix p R C _ l wr i1
          obtain ⟨tx, htx⟩ : ∃ tx, tx = foM p R C l := ⟨_, rfl⟩
          rw [← htx] at hcon
          have HQB := Lib.hid HQ.out
          by_cases heq : tx = s
          · have hsay : SaysM p s.data.toList R C l := foM_says hs0 (by rw [← htx]; exact heq)
            have HE := Lib.hid (pm_yes hsay)
            clear i1 f1 htx hsay hjs hs0 hj hj4 hlt
            subst heq
            go_wp2_with fail
            refine hcon.mono ?_; rintro e w2 ⟨rfl, b2⟩
            have hbw := HQB.out.2.2.2.2.1
            have hbb := (hbw.trans (b2.mono hbw.size))
            obtain ⟨u0, u1, u2⟩ := blk3 (HQB.out.1.below b2)
            have hR1 := HQB.out.2.1.below b2
            obtain ⟨x0, x1, x2, q0, q1, q2, t0, t1, t2⟩ := hR1.open_
            have hne1 : ∀ q, blk (.slice ac l.length cc) = some q → q ≠ w.heap.size := fun q hq => by have := HJ.out.2 q hq; omega
            have HX := Lib.hid (And.intro (hR1.blk_set (.int .i64 R) (.int .i64 C) (.slice ac l.length cc))
              (And.intro (set3_ints (HJ.out.1.below b2) hne1 (.int .i64 R) (.int .i64 C) (.slice ac l.length cc))
              (set3_below hbb (b := w.heap.size) (by omega) (.int .i64 R) (.int .i64 C) (.slice ac l.length cc))))
            clear hbw hbb hR1 hne1 b2 hcon
            unfold set3 at HX
            go_wp2
            refine bodyPost_ret (v := .tuple #[.agg #[.int .i64 R, .int .i64 C, .slice ac l.length cc], .bool true]) (by simp [results, Tryd.results30, go_sem, HX.out.1.cell 0, HX.out.1.cell 1, HX.out.1.cell 2]) rfl ?_
            exact MatOK.of_eq2 ⟨_, rfl, HX.out.2.1, HJ.out.2.mono (by omega), HX.out.2.2⟩ HE.out.1.symm HE.out.2.1.symm HE.out.2.2.1.symm HE.out.2.2.2.symm
          · have hno : ∀ R C l, ¬ SaysM p s.data.toList R C l := fun R' C' l' h => by
              obtain ⟨_, _, _, g1, g2, g3⟩ := saysM_place h
              have := ((saysM_iff p s R' C' l').1 h).2
              rw [← g1, ← g2, ← g3, HRC.out.1, HRC.out.2, ← HL.out, ← htx] at this
              exact heq this
            have HE := Lib.hid (pm_no hno)
            have hcmp := str_beq heq
            clear i1 f1 htx hno heq hjs hs0 hj hj4 hlt
            go_wp2_with fail
            refine hcon.mono ?_; rintro e w2 ⟨rfl, b2⟩
            have hbw := HQB.out.2.2.2.2.1
            have hbb := (hbw.trans (b2.mono hbw.size))
            obtain ⟨u0, u1, u2⟩ := blk3 (HQB.out.1.below b2)
            have hR1 := HQB.out.2.1.below b2
            obtain ⟨x0, x1, x2, q0, q1, q2, t0, t1, t2⟩ := hR1.open_
            have HX := Lib.hid (And.intro (hR1.blk_set (.int .i64 0) (.int .i64 0) (.slice none 0 0)) (set3_below hbb (b := w.heap.size) (by omega) (.int .i64 0) (.int .i64 0) (.slice none 0 0)))
            clear hbw hbb hR1 b2 hcon
            unfold set3 at HX
            go_wp2
            refine bodyPost_ret (v := .tuple #[.agg #[.int .i64 0, .int .i64 0, .slice none 0 0], .bool false]) (by simp [results, Tryd.results30, go_sem, HX.out.1.cell 0, HX.out.1.cell 1, HX.out.1.cell 2]) rfl ?_
            exact MatOK.of_eq2 ⟨_, rfl, Ints.nil _, FreshV.nil _, HX.out.2⟩ HE.out.1.symm HE.out.2.1.symm HE.out.2.2.1.symm HE.out.2.2.2.symm
  · have hno : ∀ R C l, ¬ SaysM p s.data.toList R C l := fun R C l h => by
      obtain ⟨a, b, c, _⟩ := saysM_place h
      have e : s.data.toList.length = s.size := rfl
      exact hgood ⟨a, by omega, by omega⟩
    have HE := Lib.hid (pm_no hno)
    clear hno
    by_cases h4 : 4 ≤ s.size
    · have hd1 : decide ((s.size : Int) < 4) = false := by simp; omega
      by_cases h90 : s.size ≤ 90
      · have hd2 : decide ((90 : Int) < (s.size : Int)) = false := by simp; omega
        have hF : isF p = false := by
          cases hF : isF p
          · rfl
          · exact absurd ⟨hF, h4, h90⟩ hgood
        have HF := Lib.hid hF
        clear hF hgood
        go_enter Tryd.func30, Tryd.ntmps30
        go_wp2_with fail
        refine (s_IsField p _).mono ?_; rintro e w' ⟨rfl, rfl⟩
        rw [HF.out]
        go_wp2
        refine bodyPost_ret (v := .tuple #[.agg #[.int .i64 0, .int .i64 0, .slice none 0 0], .bool false]) (by simp [results, Tryd.results30, go_sem, HR0.out.cell 0, HR0.out.cell 1, HR0.out.cell 2]) rfl ?_
        exact MatOK.of_eq2 ⟨_, rfl, Ints.nil _, FreshV.nil _, HB0.out⟩ HE.out.1.symm HE.out.2.1.symm HE.out.2.2.1.symm HE.out.2.2.2.symm
      · have hd2 : decide ((90 : Int) < (s.size : Int)) = true := by simp; omega
        clear hgood
        go_enter Tryd.func30, Tryd.ntmps30
        go_wp2
        refine bodyPost_ret (v := .tuple #[.agg #[.int .i64 0, .int .i64 0, .slice none 0 0], .bool false]) (by simp [results, Tryd.results30, go_sem, HR0.out.cell 0, HR0.out.cell 1, HR0.out.cell 2]) rfl ?_
        exact MatOK.of_eq2 ⟨_, rfl, Ints.nil _, FreshV.nil _, HB0.out⟩ HE.out.1.symm HE.out.2.1.symm HE.out.2.2.1.symm HE.out.2.2.2.symm
    · have hd1 : decide ((s.size : Int) < 4) = true := by simp; omega
      clear hgood
      go_enter Tryd.func30, Tryd.ntmps30
      go_wp2
      refine bodyPost_ret (v := .tuple #[.agg #[.int .i64 0, .int .i64 0, .slice none 0 0], .bool false]) (by simp [results, Tryd.results30, go_sem, HR0.out.cell 0, HR0.out.cell 1, HR0.out.cell 2]) rfl ?_
      exact MatOK.of_eq2 ⟨_, rfl, Ints.nil _, FreshV.nil _, HB0.out⟩ HE.out.1.symm HE.out.2.1.symm HE.out.2.2.1.symm HE.out.2.2.2.symm
end Go.Proofs.YtdmjikfjmimfmaaDoor
