/- ParseInt: the walks of the program and of the reference, the law. -/
import Derived.Test.YtdmjikfjmimfmaaDoorPiL
import Derived.Test.YtdmjikfjmimfmaaDoorRange
namespace Go.Proofs.YtdmjikfjmimfmaaDoor
open Go.RowKit
set_option linter.unusedVariables false
set_option linter.unusedSimpArgs false

theorem ps_step_yes (s : ByteArray) (k : Nat) (h : k < s.size) (hd : isDg s[k] = true) : ps (s.data.toList.take (k + 1)) = ((ps (s.data.toList.take k)).1 * 10 + (s[k].toNat - 48), (ps (s.data.toList.take k)).2 + 1) := by
  rw [take_snoc s k h, ps_snoc]; unfold scB; rw [if_pos hd]
theorem ps_step_no (s : ByteArray) (k : Nat) (h : k < s.size) (hd : isDg s[k] = false) : ps (s.data.toList.take (k + 1)) = ps (s.data.toList.take k) := by
  rw [take_snoc s k h, ps_snoc]; unfold scB; rw [if_neg (by simp [hd])]
theorem pvM_yes {s : ByteArray} (h : 0 < s.size) (h2 : s[0].toNat = 45) : pvM s = true := by
  unfold pvM
  have e : s.data.toList.head? = some s[0] := by
    rw [List.head?_eq_getElem?, List.getElem?_eq_getElem (by simpa using h)]; rfl
  rw [e]; simp [h2]
theorem pvM_no {s : ByteArray} (h : 0 < s.size) (h2 : s[0].toNat ≠ 45) : pvM s = false := by
  unfold pvM
  have e : s.data.toList.head? = some s[0] := by
    rw [List.head?_eq_getElem?, List.getElem?_eq_getElem (by simpa using h)]; rfl
  rw [e]; simp [h2]
theorem pvM_nil {s : ByteArray} (h : s.size = 0) : pvM s = false := by
  unfold pvM
  have : s.data.toList = [] := List.length_eq_zero_iff.1 h
  rw [this]; rfl
theorem okP_k {s : ByteArray} (h : ¬ pvK s ≤ 9) : okI s = false := by unfold okI; simp [h]
theorem okP_l {s : ByteArray} (h : ¬ s.size ≤ 10) : okI s = false := by unfold okI; simp [h]
theorem okP_f {s : ByteArray} (h : fmS (pv s) ≠ s) : okI s = false := by unfold okI; simp [h]
theorem okP_y {s : ByteArray} (h1 : pvK s ≤ 9) (h2 : s.size ≤ 10) (h : fmS (pv s) = s) : okI s = true := by unfold okI; simp [h1, h2, h]
theorem str_beq' {a b : ByteArray} (h : a = b) : (a.toList == b.toList) = true := by rw [h]; simp
theorem str_bne' {a b : ByteArray} (h : a ≠ b) : (a.toList == b.toList) = false := by
  simp only [beq_eq_false_iff_ne]
  rw [ByteArray.toList_eq, ByteArray.toList_eq]
  intro e
  apply h
  cases a; cases b
  simp at e
  rw [e]


set_option maxRecDepth 100000 in
set_option maxHeartbeats 2000000 in
theorem i_ParseInt (s : ByteArray) (w : World) (hs : s.size ≤ 1048576) (ht : PowTab w) (te1 te2 : TypeId) (pe1 pe2 : Value) (h1 : w.cell? ⟨1, 0, none⟩ = some (.iface te1 pe1)) (h2 : w.cell? ⟨2, 0, none⟩ = some (.iface te2 pe2)) :
    Calls Tryd.prog 53 #[.string s] w (PiAns s w) := by
  cases hA : Lib.atoiAll s.data.toList with
  | ok v =>
    obtain ⟨hv0, hv1⟩ := Lib.atoiAll_bounds hA
    have hc := Tryd.strconv_Atoi_ok s (by omega) v hA w
    have hc : Calls Tryd.prog 67 #[.string s] w fun e w' => e = .returned (.tuple #[.int .i64 v, .nilIface]) ∧ Below w.heap.size w w' := hc.mono fun e w' h => by
      obtain ⟨rfl, rfl | ⟨t, rfl⟩⟩ := h
      · exact ⟨rfl, Below.refl _ _⟩
      · exact ⟨rfl, Lib.bytesWorld_below w 5 t⟩
    have HT := Lib.hid ht
    have hcf := fun (wx : World) (b : Below w.heap.size w wx) => i_FormatInt v hv0 hv1 wx (HT.out.below b)
    have HA := Lib.hid hA
    clear hA h1 h2 ht
    by_cases hf : fmS v = s
    · have hst := str_beq' hf
      by_cases hr : -999999999 ≤ v ∧ v ≤ 999999999
      · have ho := Lib.hid (okI_of hf hr.1 hr.2)
        have hin : inR v (-999999999) 999999999 = true := inR_mk hr.1 hr.2
        clear hf hr
        go_enter Tryd.func53, Tryd.ntmps53
        go_wp2_with fail
        refine hc.mono ?_; rintro e w1 ⟨rfl, b1⟩
        have hcf1 := hcf w1 b1
        clear hc
        have HB1 := Lib.hid b1
        clear b1
        go_wp2_with fail
        refine hcf1.mono ?_; rintro e w2 ⟨rfl, b2⟩
        have HB2 := Lib.hid (HB1.out.trans (b2.mono HB1.out.size))
        clear b2 hcf1
        go_wp2_with fail
        refine (i_within _ _ _ _).mono ?_; rintro e w' ⟨rfl, rfl⟩
        go_wp2
        go_ret2
        exact PiAns.yes ho.out.1 ho.out.2 HB2.out
      · have ho : Hid (okI s = false) := by
          have : ¬ okI s = true := fun h => by
            have a := okI_spec h
            have e : pv s = v := by have := a.1.symm.trans HA.out; injection this
            omega
          show okI s = false
          simpa using this
        have hin : inR v (-999999999) 999999999 = false := by
          unfold inR; simp; omega
        clear hf hr
        go_enter Tryd.func53, Tryd.ntmps53
        go_wp2_with fail
        refine hc.mono ?_; rintro e w1 ⟨rfl, b1⟩
        have hcf1 := hcf w1 b1
        clear hc
        have HB1 := Lib.hid b1
        clear b1
        go_wp2_with fail
        refine hcf1.mono ?_; rintro e w2 ⟨rfl, b2⟩
        have HB2 := Lib.hid (HB1.out.trans (b2.mono HB1.out.size))
        clear b2 hcf1
        go_wp2_with fail
        refine (i_within _ _ _ _).mono ?_; rintro e w' ⟨rfl, rfl⟩
        go_wp2
        go_ret2
        exact PiAns.no ho.out HB2.out
    · have hst := str_bne' hf
      have ho : Hid (okI s = false) := by
        have : ¬ okI s = true := fun h => by
          have a := okI_spec h
          have e : pv s = v := by have := a.1.symm.trans HA.out; injection this
          rw [e] at a
          exact hf a.2.2.2
        show okI s = false
        simpa using this
      clear hf
      go_enter Tryd.func53, Tryd.ntmps53
      go_wp2_with fail
      refine hc.mono ?_; rintro e w1 ⟨rfl, b1⟩
      have hcf1 := hcf w1 b1
      clear hc
      have HB1 := Lib.hid b1
      clear b1
      go_wp2_with fail
      refine hcf1.mono ?_; rintro e w2 ⟨rfl, b2⟩
      have HB2 := Lib.hid (HB1.out.trans (b2.mono HB1.out.size))
      clear b2 hcf1
      go_wp2
      go_ret2
      exact PiAns.no ho.out HB2.out
  | range =>
    have ho : Hid (okI s = false) := by
      have : ¬ okI s = true := fun h => by have a := (okI_spec h).1; rw [hA] at a; cases a
      show okI s = false
      simpa using this
    have hc := Tryd.strconv_Atoi_range s (by omega) hA _ w h2 (.inr ⟨_, _, rfl⟩)
    clear hA h1 h2 ht
    go_enter Tryd.func53, Tryd.ntmps53
    go_wp2_with fail
    refine hc.mono ?_; rintro e w1 ⟨N, rfl, _, _, b1⟩
    have HB1 := Lib.hid b1
    clear b1 hc
    go_wp2
    go_ret2
    exact PiAns.no ho.out HB1.out
  | _ =>
    have ho : Hid (okI s = false) := by
      have : ¬ okI s = true := fun h => by have a := (okI_spec h).1; rw [hA] at a; cases a
      show okI s = false
      simpa using this
    have hc := Tryd.strconv_Atoi_syntax s (by omega) hA _ w h1 (.inr ⟨_, _, rfl⟩)
    clear hA h1 h2 ht
    go_enter Tryd.func53, Tryd.ntmps53
    go_wp2_with fail
    refine hc.mono ?_; rintro e w1 ⟨N, rfl, _, _, b1⟩
    have HB1 := Lib.hid b1
    clear b1 hc
    go_wp2
    go_ret2
    exact PiAns.no ho.out HB1.out


end Go.Proofs.YtdmjikfjmimfmaaDoor
