/- All paths from a place: the reference's. -/
import Derived.Test.YtndooeffjkofdaaDoorMg3
namespace Go.Proofs.YtndooeffjkofdaaDoor
open Go.RowKit
set_option linter.unusedVariables false
set_option linter.unusedSimpArgs false

set_option maxRecDepth 100000 in
set_option maxHeartbeats 4000000 in
theorem s_l7From {n : Int} {f t : List Int} {N : Nat} (hgo : ordGo f t N = true) (hlen : f.length = t.length) (h6 : f.length ≤ 6) (htN : ∀ i, i < t.length → 0 ≤ t.getD i 0 ∧ t.getD i 0 < N) :
    ∀ (d : Nat) (v : Int) (vf vt : Value) (w : World), rkV f t N v N < d → d ≤ 6 → Ints w vf f → Ints w vt t →
      Calls Tryd.prog 32 #[.agg #[.int .i64 n, vf, vt], .int .i64 v] w (PtsNew (pP f t d v) w) := by
  intro d
  induction d with
  | zero => intro v vf vt w h; omega
  | succ d ih =>
    intro v vf vt w hrk hd6 hf ht
    have HGO := Lib.hid hgo; have HTN := Lib.hid htN; have IH := Lib.hid ih
    have HLEN := Lib.hid hlen; have HRK := Lib.hid hrk
    have hd : d ≤ 6 := by omega
    have HSM := Lib.hid (fun x => pF_small (f := f) (t := t) h6 hd x)
    have HKS := Lib.hid (fun k (hk : k ≤ 6) => pPK_small (f := f) (t := t) (k := k) h6 hd v hk)
    obtain ⟨a1, c1, rfl, hl1, hm1⟩ := hf.shape
    obtain ⟨a2, c2, rfl, hl2, hm2⟩ := ht.shape
    have h2 : Below w.heap.size w (w.alloc (.cells #[.int .i64 n, .slice a1 f.length c1, .slice a2 t.length c2] 26)) := (Below.refl _ w).alloc (Nat.le_refl _) _
    have P0 := Lib.hid (Blk.new w #[.int .i64 n, .slice a1 f.length c1, .slice a2 t.length c2] 26)
    have HF := Lib.hid (hf.below h2); have HT := Lib.hid (ht.below h2)
    have H2 := Lib.hid h2
    clear hf ht h2 hgo hlen htN ih hrk hd6
    go_enter Tryd.func32, Tryd.ntmps32
    obtain ⟨p0, p1, p2⟩ := blk3 P0.out
    have e1 := own_none (w.alloc (.cells #[.int .i64 n, .slice a1 f.length c1, .slice a2 t.length c2] 26)) (w.heap.size + 1) (by simp)
    have e2 := OwnP.one _ (B := w.heap.size + 1) v (Ints.of_own e1).1 (Ints.of_own e1).2 (by simp)
    have e3 : Below (w.heap.size + 1) (w.alloc (.cells #[.int .i64 n, .slice a1 f.length c1, .slice a2 t.length c2] 26)) (((w.alloc (.cells #[.int .i64 n, .slice a1 f.length c1, .slice a2 t.length c2] 26)).alloc (.cells #[] 3)).alloc (.cells #[.int .i64 v, .slice (some ⟨w.heap.size + 1, 0, none⟩) 0 0] 28)) := ((Below.refl _ _).alloc (by simp) _).alloc (by simp) _
    simp only [World.size_alloc] at e1 e2 e3
    have HE := Lib.hid e2; have HEb := Lib.hid e3
    clear e1 e2 e3
    obtain ⟨W, hW⟩ : ∃ W, W = w.alloc (.cells #[.int .i64 n, .slice a1 f.length c1, .slice a2 t.length c2] 26) := ⟨_, rfl⟩
    have hWs : W.heap.size = w.heap.size + 1 := by rw [hW]; simp
    have HWs := Lib.hid hWs
    have HW := Lib.hid hW
    have P0 : Hid (Blk W w.heap.size #[.int .i64 n, .slice a1 f.length c1, .slice a2 t.length c2] 26) := Lib.hid (by rw [hW]; exact P0.out)
    have HF : Hid (Ints W (.slice a1 f.length c1) f) := Lib.hid (by rw [hW]; exact HF.out)
    have HT : Hid (Ints W (.slice a2 t.length c2) t) := Lib.hid (by rw [hW]; exact HT.out)
    have H2 : Hid (Below w.heap.size w W) := Lib.hid (by rw [hW]; exact H2.out)
    clear hW hWs
    go_wp2
    go_loopw [5, 6] (fun s i wr => ∃ k : Nat, k ≤ f.length ∧ i = .int .i64 k ∧ OwnP wr (w.heap.size + 1) s (pPK f t d v k) ∧ Below (w.heap.size + 1) W wr) (fun _ i _ => f.length - (intOf i).toNat)
    case atStart => exact ⟨0, Nat.zero_le _, rfl, by rw [pPK_zero]; exact HE.out, by rw [HW.out]; exact HEb.out⟩
    case round =>
      obtain ⟨k, hk, rfl, hos, hbel⟩ := hrel
      obtain ⟨aS, cS, rfl, _, _⟩ := hos.shape
      have HO := Lib.hid hos; have HBel := Lib.hid hbel
      have hBr : w.heap.size + 1 ≤ wr.heap.size := by have := hbel.size; have := HWs.out; omega
      have HP := Lib.hid (P0.out.belowB hbel (by omega))
      have HFr := Lib.hid (HF.out.belowB hbel (fun q hq => by have := HF.out.lt q hq; have := HWs.out; omega)); have HTr := Lib.hid (HT.out.belowB hbel (fun q hq => by have := HT.out.lt q hq; have := HWs.out; omega))
      clear p0 p1 p2 hos hbel
      obtain ⟨p0, p1, p2⟩ := blk3 HP.out
      by_cases hlt : k < f.length
      · have hlt2 : k < t.length := by have := HLEN.out; omega
        obtain ⟨g, off, rfl, hgs, hc, _⟩ := HFr.out.cell hlt
        obtain ⟨g', off', rfl, hgs', hc', _⟩ := HTr.out.cell hlt2
        obtain ⟨fa, hfa⟩ := elem_name f k
        obtain ⟨ta, hta⟩ := elem_name t k
        rw [hfa] at hc
        rw [hta] at hc'
        have HFA := Lib.hid hfa; have HTA := Lib.hid hta
        have hk0 : (0 : Int) ≤ (k : Int) := by omega
        have hk1 : (k : Int) < (f.length : Int) := by omega
        have hk2 : (k : Int) < (t.length : Int) := by omega
        by_cases hfv : fa = v
        · have hb : (fa != v) = false := by simpa using hfv
          have HYES := Lib.hid (pPK_yes (f := f) (t := t) (d := d) (v := v) (k := k) (by rw [hfa]; exact hfv))
          rw [hta] at HYES
          have hrt : rkV f t N ta N < d := by
            have h := rk_fall HGO.out hlt2 (HTN.out k hlt2).1 (HTN.out k hlt2).2
            rw [hta, hfa, hfv] at h
            have := HRK.out
            omega
          have HRT := Lib.hid hrt
          clear hfv hfa hta hrt
          go_wp2
          go_region_held3 (fun w' => (w'.cell? ⟨w.heap.size, 0, none⟩ = some (.int .i64 n) ∧ w'.cell? ⟨w.heap.size, 1, none⟩ = some (.slice (some ⟨g, off, none⟩) f.length c1) ∧ w'.cell? ⟨w.heap.size, 2, none⟩ = some (.slice (some ⟨g', off', none⟩) t.length c2)) ∧ w'.cell? ⟨g', off' + k, none⟩ = some (.int .i64 ta))
            (first
              | exact ⟨⟨p0, p1, p2⟩, hc'⟩
              | exact ⟨blk3 (HP.out.below (below_of_drew b1)), (b1.cell (p := ⟨g', off' + k, none⟩) hgs').trans hc'⟩)
            (first
              | (go_at_call 32; (with_reducible refine (IH.out ta _ _ _ HRT.out hd HFr.out.drew HTr.out.drew).mono ?_); rintro e w1 ⟨vv, rfl, ho1, b1⟩))
          have hb1 := below_of_drew b1
          have HBw := Lib.hid (HBel.out.trans (hb1.mono hBr))
          have HO1 := Lib.hid (HO.out.below hb1)
          have ho2 : OwnP w1 (w.heap.size + 1) vv (pP f t d ta) := ho1.mono hBr
          have hdis : ∀ q, vv.ownBlock = some q → (Value.slice aS (pPK f t d v k).length cS).ownBlock ≠ some q := fun q hq e => by
            have h1 : wr.heap.size ≤ q := (ho1.ownLt q hq).1
            have h2 := (HO.out.ownLt q e).2
            omega
          obtain ⟨aL, cL, hvv, hx1, hx2⟩ := ho2.shape
          rw [pP_len] at hvv hx1
          subst hvv
          have HL1 := Lib.hid ho2; have HDis := Lib.hid hdis
          have hsm := HSM.out ta
          clear ho1 ho2 hdis b1 hb1 hc hc' p0 p1 p2
          go_wp2
          go_loopw [5, 8] (fun s i wi => ∃ j : Nat, j ≤ (pF f t d ta).length ∧ i = .int .i64 j ∧ OwnP wi (w.heap.size + 1) s (pPK f t d v k ++ MQ v k (pF f t d ta) j) ∧ OwnP wi (w.heap.size + 1) (.slice aL (pF f t d ta).length cL) (pP f t d ta) ∧ (∀ q, (Value.slice aL (pF f t d ta).length cL).ownBlock = some q → s.ownBlock ≠ some q) ∧ Below (w.heap.size + 1) W wi) (fun _ i _ => (pF f t d ta).length - (intOf i).toNat)
          case atStart => exact ⟨0, Nat.zero_le _, rfl, by rw [show MQ v k (pF f t d ta) 0 = [] from rfl, List.append_nil]; exact HO1.out, HL1.out, HDis.out, HBw.out⟩
          case round =>
            obtain ⟨j, hj, rfl, hos, hol, hdis, hbel⟩ := hrel
            have hmq := MQ_len (v := v) (i := k) hj
            obtain ⟨aS', cS', hsE, _, _⟩ := hos.shape
            rw [List.length_append, hmq] at hsE
            subst hsE
            have HOS := Lib.hid hos; have HOL := Lib.hid hol; have HD2 := Lib.hid hdis; have HB2 := Lib.hid hbel
            have hBi : w.heap.size + 1 ≤ wr.heap.size := by have := hbel.size; have := HWs.out; omega
            have hln := HKS.out k (by omega)
            clear hdis hbel hos
            by_cases hjl : j < (pF f t d ta).length
            · obtain ⟨gL, u, rfl, hgB, hgs, hc0, hc1, hu, hfu⟩ := hol.cell (i := j) (by rw [pP_len]; exact hjl)
              unfold pP at hu hc0
              rw [pts_get hjl] at hu hc0
              obtain ⟨ar, har⟩ : ∃ ar, ar = (pF f t d ta).getD j [] := ⟨_, rfl⟩
              have hal := pF_arrAt hjl
              rw [← har] at hu hal
              have HAR := Lib.hid har
              obtain ⟨aU, cU, rfl, _, _⟩ := hu.shape
              have hcA : (wr.alloc (.cells #[.int .i64 k] 3)).cell? ⟨gL, j * 2 + 1, none⟩ = some (.slice aU ar.length cU) := ((((Below.refl _ wr).alloc (Nat.le_refl _) _).cell (p := ⟨gL, j * 2 + 1, none⟩) hgs)).trans hc1
              have HU := Lib.hid hu
              have hj0 : (0 : Int) ≤ (j : Int) := by omega
              have hj1 : (j : Int) < ((pF f t d ta).length : Int) := by omega
              clear hol har hu hfu hc0
              go_wp2_with (at_builtin; refine app_cons wr rfl (.tmp 43) (.tmp 48) rfl _ ar rfl rfl HU.out (by omega) ?_)
              intro v' w' hI' hF' hb'
              obtain ⟨a', c', rfl, _, _⟩ := hI'.shape
              have OS' := Lib.hid (HOS.out.below hb'); have OL' := Lib.hid (HOL.out.below hb')
              have HI' := Lib.hid hI'; have HF' := Lib.hid (hF'.mono hBi)
              have hsz := hb'.size
              have HB3 := Lib.hid (HB2.out.trans (hb'.mono hBi))
              clear hI' hF' hb' hcA hc1
              go_wp2_with (at_builtin; refine app_pt w' rfl (.tmp 40) (.tmp 51) rfl (w.heap.size + 1) _ _ v _ (k :: ar) rfl rfl OS'.out HI'.out HF'.out (by omega) (by simp only [List.length_append]; omega) ?_)
              intro v2 w2 ho2 hg2 hloc2
              obtain ⟨a2', c2', hsE, _, _⟩ := ho2.shape
              rw [List.length_append, List.length_append, hmq] at hsE
              change v2 = .slice a2' ((pPK f t d v k).length + j + 1) c2' at hsE
              subst hsE
              have hbA : Below w'.heap.size w' (w'.alloc (.cells #[.int .i64 v, .slice a' (ar.length + 1) c'] 28)) := (Below.refl _ w').alloc (Nat.le_refl _) _
              have HL2 := Lib.hid ((OL'.out.below hbA).other (OS'.out.below hbA) hg2 HD2.out)
              have HB4 := Lib.hid ((HB3.out.trans (hbA.mono (by omega))).grown hg2 (by simp; omega) (fun q hq => (OS'.out.ownLt q hq).1))
              have HD3 := Lib.hid (fun q hq e => by
                rcases hloc2 with h | h
                · exact HD2.out q hq (h.symm.trans e)
                · have h1 := (OL'.out.ownLt q hq).2
                  have h2 : some (w'.heap.size + 1) = some q := h.symm.trans e
                  simp at h2
                  omega : ∀ q, _ = some q → _ ≠ some q)
              have HO2 := Lib.hid ho2
              clear ho2 hg2 hloc2 hbA
              go_wp2
              go_roundw
              case rel => exact ⟨j + 1, by omega, by go_num, by rw [MQ_succ hjl, ← HAR.out]; exact HO2.out, HL2.out, HD3.out, HB4.out⟩
              case measure => simp [intOf]; omega
            · have hj' : j = (pF f t d ta).length := by omega
              have HFIN := Lib.hid (show OwnP wr (w.heap.size + 1) (.slice aS' ((pPK f t d v k).length + j) cS') (pPK f t d v (k + 1)) by rw [HYES.out, ← hj']; exact HOS.out)
              clear hj' hol
              go_wp2
              go_roundw
              case rel => exact ⟨k + 1, by omega, by go_num, HFIN.out, HB2.out⟩
              case measure => simp [intOf]; omega
        · have hb : (fa != v) = true := by simpa using hfv
          have HNO := Lib.hid (pPK_no (f := f) (t := t) (d := d) (v := v) (k := k) (by rw [hfa]; exact hfv))
          clear hfv hfa hta
          go_wp2
          go_roundw
          case rel => exact ⟨k + 1, by omega, by go_num, by rw [HNO.out]; exact HO.out, HBel.out⟩
          case measure => simp [intOf]; omega
      · have hk' : k = f.length := by omega
        have HQ := Lib.hid (show PtsNew (pP f t (d + 1) v) w (.returned (.slice aS (pPK f t d v k).length cS)) wr from ⟨_, rfl, by rw [← pPK_all, ← hk']; exact HO.out.mono (by omega), H2.out.trans (HBel.out.mono (by omega))⟩)
        clear hk'
        go_wp2
        go_ret
        exact HQ.out
end Go.Proofs.YtndooeffjkofdaaDoor
