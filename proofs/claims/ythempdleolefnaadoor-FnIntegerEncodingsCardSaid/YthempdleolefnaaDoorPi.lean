/- ParseInt: the walks of the program and of the reference, the law. -/
import Derived.Test.YthempdleolefnaaDoorPiL
import Derived.Test.YthempdleolefnaaDoorRange
namespace Go.Proofs.YthempdleolefnaaDoor
open Go.RowKit
set_option linter.unusedVariables false
set_option linter.unusedSimpArgs false

theorem ps_step_yes (s : ByteArray) (k : Nat) (h : k < s.size) (hd : isDg s[k] = true) : ps (s.data.toList.take (k + 1)) = ((ps (s.data.toList.take k)).1 * 10 + (s[k].toNat - 48), (ps (s.data.toList.take k)).2 + 1) := by
  rw [take_snoc s k h, ps_snoc]; unfold scB; rw [if_pos hd]
theorem ps_step_no (s : ByteArray) (k : Nat) (h : k < s.size) (hd : isDg s[k] = false) : ps (s.data.toList.take (k + 1)) = ps (s.data.toList.take k) := by
  rw [take_snoc s k h, ps_snoc]; unfold scB; rw [if_neg (by simp [hd])]
theorem pvM_yes {s : ByteArray} (h : 0 < s.size) (h2 : s[0].toNat = 45) : pvM s = true := by
  unfold pvM
  have e : s.data.toList.head? = some s[0] := by
    rw [List.head?_eq_getElem?, List.getElem?_eq_getElem (by simpa using h)]; rfl
  rw [e]; simp [h2]
theorem pvM_no {s : ByteArray} (h : 0 < s.size) (h2 : s[0].toNat ≠ 45) : pvM s = false := by
  unfold pvM
  have e : s.data.toList.head? = some s[0] := by
    rw [List.head?_eq_getElem?, List.getElem?_eq_getElem (by simpa using h)]; rfl
  rw [e]; simp [h2]
theorem pvM_nil {s : ByteArray} (h : s.size = 0) : pvM s = false := by
  unfold pvM
  have : s.data.toList = [] := List.length_eq_zero_iff.1 h
  rw [this]; rfl
theorem okP_k {s : ByteArray} (h : ¬ pvK s ≤ 9) : okP s = false := by unfold okP; simp [h]
theorem okP_l {s : ByteArray} (h : ¬ s.size ≤ 10) : okP s = false := by unfold okP; simp [h]
theorem okP_f {s : ByteArray} (h : fmS (pv s) ≠ s) : okP s = false := by unfold okP; simp [h]
theorem okP_y {s : ByteArray} (h1 : pvK s ≤ 9) (h2 : s.size ≤ 10) (h : fmS (pv s) = s) : okP s = true := by unfold okP; simp [h1, h2, h]
theorem str_beq' {a b : ByteArray} (h : a = b) : (a.toList == b.toList) = true := by rw [h]; simp
theorem str_bne' {a b : ByteArray} (h : a ≠ b) : (a.toList == b.toList) = false := by
  simp only [beq_eq_false_iff_ne]
  rw [ByteArray.toList_eq, ByteArray.toList_eq]
  intro e
  apply h
  cases a; cases b
  simp at e
  rw [e]

set_option maxRecDepth 100000 in
set_option maxHeartbeats 4000000 in
theorem s_ParseInt_e (s : ByteArray) (w : World) (hs : s.size ≤ 1048576) (hz : s.size = 0) :
    Calls Tryd.prog 11 #[.string s] w (PiAns s w) := by
  have HZ := Lib.hid hz
  clear hz
  go_enter Tryd.func11, Tryd.ntmps11
  go_wp2
  go_loop [4, 5, 6] (fun n k i => ∃ j : Nat, j ≤ s.size ∧ j ≤ 11 ∧ i = .int .i64 j ∧ n = .int .i64 (ps (s.data.toList.take j)).1 ∧ k = .int .i64 (ps (s.data.toList.take j)).2) (fun _ _ i => 11 - (intOf i).toNat)
  case atStart => exact ⟨0, by omega, by omega, rfl, rfl, rfl⟩
  case round =>
    obtain ⟨j, hj, hj11, rfl, rfl, rfl⟩ := hrel
    have hb := ps_take (l := s.data.toList) hj11
    by_cases hlt : j < s.size ∧ j < 11
    · obtain ⟨hl1, hl2⟩ := hlt
      have hby := s[j].toNat_lt
      have hb2 := ps_take (l := s.data.toList) (show j + 1 ≤ 11 by omega)
      by_cases hd : isDg s[j] = true
      · have hst := Lib.hid (ps_step_yes s j hl1 hd)
        obtain ⟨d1, d2⟩ := isDg_iff.1 hd
        clear hd
        go_wp2
        go_round
        case rel => exact ⟨j + 1, by omega, by omega, by go_num, by rw [hst.out]; simp; omega, by rw [hst.out]; simp⟩
        case measure => simp [intOf]; omega
      · have hd : isDg s[j] = false := by simpa using hd
        have hst := Lib.hid (ps_step_no s j hl1 hd)
        have hnd : ¬ (48 ≤ s[j].toNat ∧ s[j].toNat ≤ 57) := fun h => by rw [isDg_iff.2 h] at hd; cases hd
        clear hd
        by_cases d1 : 48 ≤ s[j].toNat
        · have d2 : ¬ s[j].toNat ≤ 57 := by omega
          clear hnd
          go_wp2
          go_round
          case rel => exact ⟨j + 1, by omega, by omega, by go_num, by rw [hst.out], by rw [hst.out]⟩
          case measure => simp [intOf]; omega
        · clear hnd
          go_wp2
          go_round
          case rel => exact ⟨j + 1, by omega, by omega, by go_num, by rw [hst.out], by rw [hst.out]⟩
          case measure => simp [intOf]; omega
    · have htk : s.data.toList.take j = s.data.toList.take 11 := by
        have hlen : s.data.toList.length = s.size := rfl
        by_cases h11 : j = 11
        · rw [h11]
        · rw [List.take_of_length_le (by omega), List.take_of_length_le (by omega)]
      have e1 : (ps (s.data.toList.take j)).1 = pvN s := by rw [htk]; rfl
      have e2 : (ps (s.data.toList.take j)).2 = pvK s := by rw [htk]; rfl
      simp only [e1, e2] at hb ⊢
      clear e1 e2 htk
      generalize hN : pvN s = N at hb ⊢
      generalize hK : pvK s = K at hb ⊢
      have hp : pv s = if pvM s = true then -(N : Int) else (N : Int) := by unfold pv; rw [hN]
      have HN := Lib.hid hN; have HK := Lib.hid hK
      clear hN hK
      have hz := HZ.out
      have hm := pvM_nil hz
      have hz0 : decide (0 < s.size) = false := by rw [hz]; rfl
      have hpv : pv s = (N : Int) := by rw [hp, hm]; rfl
      clear hp hm
      by_cases hk : K ≤ 9
      · by_cases hl : s.size ≤ 10
        · by_cases hf : fmS (N : Int) = s
          · have ho := Lib.hid (okP_y (s := s) (by rw [HK.out]; exact hk) hl (by rw [hpv]; exact hf))
            have hst := str_beq' hf
            have HPV := Lib.hid hpv
            clear hf hpv
            go_wp2_with fail
            refine (s_FormatInt (N : Int) (by omega) (by omega) _).mono ?_; rintro e w1 ⟨rfl, b1⟩
            go_wp2
            go_ret2
            exact PiAns.yes ho.out HPV.out b1
          · have ho := Lib.hid (okP_f (s := s) (by rw [hpv]; exact hf))
            have hst := str_bne' hf
            clear hf hpv
            go_wp2_with fail
            refine (s_FormatInt (N : Int) (by omega) (by omega) _).mono ?_; rintro e w1 ⟨rfl, b1⟩
            go_wp2
            go_ret2
            exact PiAns.no ho.out b1
        · omega
      · have hk2 : (9 : Int) < (K : Int) := by omega
        have ho := Lib.hid (okP_k (s := s) (by rw [HK.out]; exact hk))
        clear hpv
        go_wp2
        all_goals (go_ret2; exact PiAns.no ho.out (Below.refl _ _))

set_option maxRecDepth 100000 in
set_option maxHeartbeats 4000000 in
theorem s_ParseInt_m (s : ByteArray) (w : World) (hs : s.size ≤ 1048576) (hz1 : 0 < s.size) (h45 : s[0].toNat = 45) :
    Calls Tryd.prog 11 #[.string s] w (PiAns s w) := by
  have HZ := Lib.hid h45
  clear h45
  go_enter Tryd.func11, Tryd.ntmps11
  go_wp2
  go_loop [4, 5, 6] (fun n k i => ∃ j : Nat, j ≤ s.size ∧ j ≤ 11 ∧ i = .int .i64 j ∧ n = .int .i64 (ps (s.data.toList.take j)).1 ∧ k = .int .i64 (ps (s.data.toList.take j)).2) (fun _ _ i => 11 - (intOf i).toNat)
  case atStart => exact ⟨0, by omega, by omega, rfl, rfl, rfl⟩
  case round =>
    obtain ⟨j, hj, hj11, rfl, rfl, rfl⟩ := hrel
    have hb := ps_take (l := s.data.toList) hj11
    by_cases hlt : j < s.size ∧ j < 11
    · obtain ⟨hl1, hl2⟩ := hlt
      have hby := s[j].toNat_lt
      have hb2 := ps_take (l := s.data.toList) (show j + 1 ≤ 11 by omega)
      by_cases hd : isDg s[j] = true
      · have hst := Lib.hid (ps_step_yes s j hl1 hd)
        obtain ⟨d1, d2⟩ := isDg_iff.1 hd
        clear hd
        go_wp2
        go_round
        case rel => exact ⟨j + 1, by omega, by omega, by go_num, by rw [hst.out]; simp; omega, by rw [hst.out]; simp⟩
        case measure => simp [intOf]; omega
      · have hd : isDg s[j] = false := by simpa using hd
        have hst := Lib.hid (ps_step_no s j hl1 hd)
        have hnd : ¬ (48 ≤ s[j].toNat ∧ s[j].toNat ≤ 57) := fun h => by rw [isDg_iff.2 h] at hd; cases hd
        clear hd
        by_cases d1 : 48 ≤ s[j].toNat
        · have d2 : ¬ s[j].toNat ≤ 57 := by omega
          clear hnd
          go_wp2
          go_round
          case rel => exact ⟨j + 1, by omega, by omega, by go_num, by rw [hst.out], by rw [hst.out]⟩
          case measure => simp [intOf]; omega
        · clear hnd
          go_wp2
          go_round
          case rel => exact ⟨j + 1, by omega, by omega, by go_num, by rw [hst.out], by rw [hst.out]⟩
          case measure => simp [intOf]; omega
    · have htk : s.data.toList.take j = s.data.toList.take 11 := by
        have hlen : s.data.toList.length = s.size := rfl
        by_cases h11 : j = 11
        · rw [h11]
        · rw [List.take_of_length_le (by omega), List.take_of_length_le (by omega)]
      have e1 : (ps (s.data.toList.take j)).1 = pvN s := by rw [htk]; rfl
      have e2 : (ps (s.data.toList.take j)).2 = pvK s := by rw [htk]; rfl
      simp only [e1, e2] at hb ⊢
      clear e1 e2 htk
      generalize hN : pvN s = N at hb ⊢
      generalize hK : pvK s = K at hb ⊢
      have hp : pv s = if pvM s = true then -(N : Int) else (N : Int) := by unfold pv; rw [hN]
      have HN := Lib.hid hN; have HK := Lib.hid hK
      clear hN hK
      have hby0 := s[0].toNat_lt
      have hm := pvM_yes hz1 HZ.out
      have hq : ((s[0].toNat : Int) == 45) = true := by rw [HZ.out]; rfl
      have hpv : pv s = (-(N : Int)) := by rw [hp, hm]; rfl
      clear hp hm
      by_cases hk : K ≤ 9
      · by_cases hl : s.size ≤ 10
        · by_cases hf : fmS (-(N : Int)) = s
          · have ho := Lib.hid (okP_y (s := s) (by rw [HK.out]; exact hk) hl (by rw [hpv]; exact hf))
            have hst := str_beq' hf
            have HPV := Lib.hid hpv
            clear hf hpv
            go_wp2_with fail
            refine (s_FormatInt (-(N : Int)) (by omega) (by omega) _).mono ?_; rintro e w1 ⟨rfl, b1⟩
            go_wp2
            go_ret2
            exact PiAns.yes ho.out HPV.out b1
          · have ho := Lib.hid (okP_f (s := s) (by rw [hpv]; exact hf))
            have hst := str_bne' hf
            clear hf hpv
            go_wp2_with fail
            refine (s_FormatInt (-(N : Int)) (by omega) (by omega) _).mono ?_; rintro e w1 ⟨rfl, b1⟩
            go_wp2
            go_ret2
            exact PiAns.no ho.out b1
        · have hl2 : (10 : Int) < (s.size : Int) := by omega
          have hl3 : decide ((10 : Nat) < s.size) = true := by simp; omega
          have ho := Lib.hid (okP_l (s := s) hl)
          clear hpv
          go_wp2
          all_goals (go_ret2; exact PiAns.no ho.out (Below.refl _ _))
      · have hk2 : (9 : Int) < (K : Int) := by omega
        have ho := Lib.hid (okP_k (s := s) (by rw [HK.out]; exact hk))
        clear hpv
        go_wp2
        all_goals (go_ret2; exact PiAns.no ho.out (Below.refl _ _))

set_option maxRecDepth 100000 in
set_option maxHeartbeats 4000000 in
theorem s_ParseInt_p (s : ByteArray) (w : World) (hs : s.size ≤ 1048576) (hz1 : 0 < s.size) (h45 : ¬ s[0].toNat = 45) :
    Calls Tryd.prog 11 #[.string s] w (PiAns s w) := by
  have HZ := Lib.hid h45
  clear h45
  go_enter Tryd.func11, Tryd.ntmps11
  go_wp2
  go_loop [4, 5, 6] (fun n k i => ∃ j : Nat, j ≤ s.size ∧ j ≤ 11 ∧ i = .int .i64 j ∧ n = .int .i64 (ps (s.data.toList.take j)).1 ∧ k = .int .i64 (ps (s.data.toList.take j)).2) (fun _ _ i => 11 - (intOf i).toNat)
  case atStart => exact ⟨0, by omega, by omega, rfl, rfl, rfl⟩
  case round =>
    obtain ⟨j, hj, hj11, rfl, rfl, rfl⟩ := hrel
    have hb := ps_take (l := s.data.toList) hj11
    by_cases hlt : j < s.size ∧ j < 11
    · obtain ⟨hl1, hl2⟩ := hlt
      have hby := s[j].toNat_lt
      have hb2 := ps_take (l := s.data.toList) (show j + 1 ≤ 11 by omega)
      by_cases hd : isDg s[j] = true
      · have hst := Lib.hid (ps_step_yes s j hl1 hd)
        obtain ⟨d1, d2⟩ := isDg_iff.1 hd
        clear hd
        go_wp2
        go_round
        case rel => exact ⟨j + 1, by omega, by omega, by go_num, by rw [hst.out]; simp; omega, by rw [hst.out]; simp⟩
        case measure => simp [intOf]; omega
      · have hd : isDg s[j] = false := by simpa using hd
        have hst := Lib.hid (ps_step_no s j hl1 hd)
        have hnd : ¬ (48 ≤ s[j].toNat ∧ s[j].toNat ≤ 57) := fun h => by rw [isDg_iff.2 h] at hd; cases hd
        clear hd
        by_cases d1 : 48 ≤ s[j].toNat
        · have d2 : ¬ s[j].toNat ≤ 57 := by omega
          clear hnd
          go_wp2
          go_round
          case rel => exact ⟨j + 1, by omega, by omega, by go_num, by rw [hst.out], by rw [hst.out]⟩
          case measure => simp [intOf]; omega
        · clear hnd
          go_wp2
          go_round
          case rel => exact ⟨j + 1, by omega, by omega, by go_num, by rw [hst.out], by rw [hst.out]⟩
          case measure => simp [intOf]; omega
    · have htk : s.data.toList.take j = s.data.toList.take 11 := by
        have hlen : s.data.toList.length = s.size := rfl
        by_cases h11 : j = 11
        · rw [h11]
        · rw [List.take_of_length_le (by omega), List.take_of_length_le (by omega)]
      have e1 : (ps (s.data.toList.take j)).1 = pvN s := by rw [htk]; rfl
      have e2 : (ps (s.data.toList.take j)).2 = pvK s := by rw [htk]; rfl
      simp only [e1, e2] at hb ⊢
      clear e1 e2 htk
      generalize hN : pvN s = N at hb ⊢
      generalize hK : pvK s = K at hb ⊢
      have hp : pv s = if pvM s = true then -(N : Int) else (N : Int) := by unfold pv; rw [hN]
      have HN := Lib.hid hN; have HK := Lib.hid hK
      clear hN hK
      have hby0 := s[0].toNat_lt
      have hm := pvM_no hz1 HZ.out
      have hq : ((s[0].toNat : Int) == 45) = false := by have := HZ.out; simp; omega
      have hpv : pv s = (N : Int) := by rw [hp, hm]; rfl
      clear hp hm
      by_cases hk : K ≤ 9
      · by_cases hl : s.size ≤ 10
        · by_cases hf : fmS (N : Int) = s
          · have ho := Lib.hid (okP_y (s := s) (by rw [HK.out]; exact hk) hl (by rw [hpv]; exact hf))
            have hst := str_beq' hf
            have HPV := Lib.hid hpv
            clear hf hpv
            go_wp2_with fail
            refine (s_FormatInt (N : Int) (by omega) (by omega) _).mono ?_; rintro e w1 ⟨rfl, b1⟩
            go_wp2
            go_ret2
            exact PiAns.yes ho.out HPV.out b1
          · have ho := Lib.hid (okP_f (s := s) (by rw [hpv]; exact hf))
            have hst := str_bne' hf
            clear hf hpv
            go_wp2_with fail
            refine (s_FormatInt (N : Int) (by omega) (by omega) _).mono ?_; rintro e w1 ⟨rfl, b1⟩
            go_wp2
            go_ret2
            exact PiAns.no ho.out b1
        · have hl2 : (10 : Int) < (s.size : Int) := by omega
          have hl3 : decide ((10 : Nat) < s.size) = true := by simp; omega
          have ho := Lib.hid (okP_l (s := s) hl)
          clear hpv
          go_wp2
          all_goals (go_ret2; exact PiAns.no ho.out (Below.refl _ _))
      · have hk2 : (9 : Int) < (K : Int) := by omega
        have ho := Lib.hid (okP_k (s := s) (by rw [HK.out]; exact hk))
        clear hpv
        go_wp2
        all_goals (go_ret2; exact PiAns.no ho.out (Below.refl _ _))

theorem s_ParseInt (s : ByteArray) (w : World) (hs : s.size ≤ 1048576) : Calls Tryd.prog 11 #[.string s] w (PiAns s w) := by
  by_cases hz : s.size = 0
  · exact s_ParseInt_e s w hs hz
  · by_cases h45 : (s[0]'(by omega)).toNat = 45
    · exact s_ParseInt_m s w hs (by omega) h45
    · exact s_ParseInt_p s w hs (by omega) h45

set_option maxRecDepth 100000 in
set_option maxHeartbeats 2000000 in
theorem i_ParseInt (s : ByteArray) (w : World) (hs : s.size ≤ 1048576) (ht : PowTab w) (te1 te2 : TypeId) (pe1 pe2 : Value) (h1 : w.cell? ⟨1, 0, none⟩ = some (.iface te1 pe1)) (h2 : w.cell? ⟨2, 0, none⟩ = some (.iface te2 pe2)) :
    Calls Tryd.prog 12 #[.string s] w (PiAns s w) := by
  cases hA : Lib.atoiAll s.data.toList with
  | ok v =>
    obtain ⟨hv0, hv1⟩ := Lib.atoiAll_bounds hA
    have hc := Tryd.strconv_Atoi_ok s (by omega) v hA w
    have hc : Calls Tryd.prog 27 #[.string s] w fun e w' => e = .returned (.tuple #[.int .i64 v, .nilIface]) ∧ Below w.heap.size w w' := hc.mono fun e w' h => by
      obtain ⟨rfl, rfl | ⟨t, rfl⟩⟩ := h
      · exact ⟨rfl, Below.refl _ _⟩
      · exact ⟨rfl, Lib.bytesWorld_below w 5 t⟩
    have HT := Lib.hid ht
    have hcf := fun (wx : World) (b : Below w.heap.size w wx) => i_FormatInt v hv0 hv1 wx (HT.out.below b)
    have HA := Lib.hid hA
    clear hA h1 h2 ht
    by_cases hf : fmS v = s
    · have hst := str_beq' hf
      by_cases hr : -999999999 ≤ v ∧ v ≤ 999999999
      · have ho := Lib.hid (okP_of hf hr.1 hr.2)
        have hin : inR v (-999999999) 999999999 = true := inR_mk hr.1 hr.2
        clear hf hr
        go_enter Tryd.func12, Tryd.ntmps12
        go_wp2_with fail
        refine hc.mono ?_; rintro e w1 ⟨rfl, b1⟩
        have hcf1 := hcf w1 b1
        clear hc
        have HB1 := Lib.hid b1
        clear b1
        go_wp2_with fail
        refine hcf1.mono ?_; rintro e w2 ⟨rfl, b2⟩
        have HB2 := Lib.hid (HB1.out.trans (b2.mono HB1.out.size))
        clear b2 hcf1
        go_wp2_with fail
        refine (i_within _ _ _ _).mono ?_; rintro e w' ⟨rfl, rfl⟩
        go_wp2
        go_ret2
        exact PiAns.yes ho.out.1 ho.out.2 HB2.out
      · have ho : Hid (okP s = false) := by
          have : ¬ okP s = true := fun h => by
            have a := okP_spec h
            have e : pv s = v := by have := a.1.symm.trans HA.out; injection this
            omega
          show okP s = false
          simpa using this
        have hin : inR v (-999999999) 999999999 = false := by
          unfold inR; simp; omega
        clear hf hr
        go_enter Tryd.func12, Tryd.ntmps12
        go_wp2_with fail
        refine hc.mono ?_; rintro e w1 ⟨rfl, b1⟩
        have hcf1 := hcf w1 b1
        clear hc
        have HB1 := Lib.hid b1
        clear b1
        go_wp2_with fail
        refine hcf1.mono ?_; rintro e w2 ⟨rfl, b2⟩
        have HB2 := Lib.hid (HB1.out.trans (b2.mono HB1.out.size))
        clear b2 hcf1
        go_wp2_with fail
        refine (i_within _ _ _ _).mono ?_; rintro e w' ⟨rfl, rfl⟩
        go_wp2
        go_ret2
        exact PiAns.no ho.out HB2.out
    · have hst := str_bne' hf
      have ho : Hid (okP s = false) := by
        have : ¬ okP s = true := fun h => by
          have a := okP_spec h
          have e : pv s = v := by have := a.1.symm.trans HA.out; injection this
          rw [e] at a
          exact hf a.2.2.2
        show okP s = false
        simpa using this
      clear hf
      go_enter Tryd.func12, Tryd.ntmps12
      go_wp2_with fail
      refine hc.mono ?_; rintro e w1 ⟨rfl, b1⟩
      have hcf1 := hcf w1 b1
      clear hc
      have HB1 := Lib.hid b1
      clear b1
      go_wp2_with fail
      refine hcf1.mono ?_; rintro e w2 ⟨rfl, b2⟩
      have HB2 := Lib.hid (HB1.out.trans (b2.mono HB1.out.size))
      clear b2 hcf1
      go_wp2
      go_ret2
      exact PiAns.no ho.out HB2.out
  | range =>
    have ho : Hid (okP s = false) := by
      have : ¬ okP s = true := fun h => by have a := (okP_spec h).1; rw [hA] at a; cases a
      show okP s = false
      simpa using this
    have hc := Tryd.strconv_Atoi_range s (by omega) hA _ w h2 (.inr ⟨_, _, rfl⟩)
    clear hA h1 h2 ht
    go_enter Tryd.func12, Tryd.ntmps12
    go_wp2_with fail
    refine hc.mono ?_; rintro e w1 ⟨N, rfl, _, _, b1⟩
    have HB1 := Lib.hid b1
    clear b1 hc
    go_wp2
    go_ret2
    exact PiAns.no ho.out HB1.out
  | _ =>
    have ho : Hid (okP s = false) := by
      have : ¬ okP s = true := fun h => by have a := (okP_spec h).1; rw [hA] at a; cases a
      show okP s = false
      simpa using this
    have hc := Tryd.strconv_Atoi_syntax s (by omega) hA _ w h1 (.inr ⟨_, _, rfl⟩)
    clear hA h1 h2 ht
    go_enter Tryd.func12, Tryd.ntmps12
    go_wp2_with fail
    refine hc.mono ?_; rintro e w1 ⟨N, rfl, _, _, b1⟩
    have HB1 := Lib.hid b1
    clear b1 hc
    go_wp2
    go_ret2
    exact PiAns.no ho.out HB1.out

set_option maxRecDepth 100000 in
set_option maxHeartbeats 400000 in
theorem law_FnExactParseInt (s : ByteArray) (w : World) (hs : s.size ≤ maxLen) (ht : PowTab w) (te1 te2 : TypeId) (pe1 pe2 : Value) (h1 : w.cell? ⟨1, 0, none⟩ = some (.iface te1 pe1)) (h2 : w.cell? ⟨2, 0, none⟩ = some (.iface te2 pe2)) :
    Calls Tryd.prog 5 #[.string s] w fun e w' => e = .returned (.bool true) ∧ Below w.heap.size w w' := by
  unfold maxLen at hs
  have l1 : 1 < w.heap.size := World.block_lt_of_cell? w ⟨1, 0, none⟩ h1
  have l2 : 2 < w.heap.size := World.block_lt_of_cell? w ⟨2, 0, none⟩ h2
  have HE := Lib.hid (And.intro ht (And.intro h1 h2))
  clear ht h1 h2
  by_cases hbig : s.size ≤ 1048576
  · go_enter Tryd.func5, Tryd.ntmps5
    go_wp2_with fail
    refine (s_ParseInt s _ hbig).mono ?_; rintro e w1 ⟨rfl, b1⟩
    have hc := i_ParseInt s w1 hbig (HE.out.1.below b1) te1 te2 pe1 pe2 ((b1.cell (p := ⟨1, 0, none⟩) l1).trans HE.out.2.1) ((b1.cell (p := ⟨2, 0, none⟩) l2).trans HE.out.2.2)
    go_wp2_with fail
    refine hc.mono ?_; rintro e w2 ⟨rfl, b2⟩
    go_wp2
    go_ret
    exact ⟨rfl, below_call b1 b2 b1.size⟩
  · go_enter Tryd.func5, Tryd.ntmps5
    go_wp2
    go_ret
    exact ⟨rfl, Below.refl _ _⟩

end Go.Proofs.YthempdleolefnaaDoor
