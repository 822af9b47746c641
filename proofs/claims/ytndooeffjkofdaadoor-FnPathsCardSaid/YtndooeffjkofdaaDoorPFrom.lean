/- pathsFrom, of the program. -/
import Derived.Test.YtndooeffjkofdaaDoorPtsC
namespace Go.Proofs.YtndooeffjkofdaaDoor
open Go.RowKit
set_option linter.unusedVariables false
set_option linter.unusedSimpArgs false

set_option maxRecDepth 100000 in
set_option maxHeartbeats 8000000 in
theorem i_pathsFrom {n : Int} {f t : List Int} {N B0 : Nat} (hgo : ordGo f t N = true) (hlen : f.length = t.length) (h6 : f.length ≤ 6) (htN : ∀ i, i < t.length → 0 ≤ t.getD i 0 ∧ t.getD i 0 < N) :
    ∀ (d : Nat) (st : Int) (ar : List Int) (vf vt va : Value) (w : World), isP n f t st ar = true → rkV f t N (curP t st ar ar.length) N < d → d ≤ 6 → ar.length + d ≤ 12 → Ints w vf f → Ints w vt t → Ints w va ar → FreshV B0 va → B0 ≤ w.heap.size →
      Calls Tryd.prog 38 #[.agg #[.int .i64 n, vf, vt], .agg #[.int .i64 st, va]] w (PtsFrom B0 (qP st ar (pF f t d (curP t st ar ar.length))) w) := by
  intro d
  induction d with
  | zero => intro st ar vf vt va w _ h; omega
  | succ d ih =>
    intro st ar vf vt va w hP hrk hd6 hal hf ht ha hfa0 hB0
    obtain ⟨e, he⟩ : ∃ e, e = curP t st ar ar.length := ⟨_, rfl⟩
    rw [← he] at hrk ⊢
    have HPE := Lib.hid (And.intro hP he)
    have HGO := Lib.hid hgo; have HTN := Lib.hid htN; have IH := Lib.hid ih
    have HLEN := Lib.hid hlen; have HRK := Lib.hid hrk
    have hd : d ≤ 6 := by omega
    have HSM := Lib.hid (fun x => pF_small (f := f) (t := t) h6 hd x)
    have HKS := Lib.hid (fun k (hk : k ≤ 6) => pK_small (f := f) (t := t) (k := k) h6 hd e hk)
    obtain ⟨a1, c1, rfl, hl1, hm1⟩ := hf.shape
    obtain ⟨a2, c2, rfl, hl2, hm2⟩ := ht.shape
    obtain ⟨a3, c3, rfl, hl3, hm3⟩ := ha.shape
    obtain ⟨W, hW⟩ : ∃ W, W = (w.alloc (.cells #[.int .i64 n, .slice a1 f.length c1, .slice a2 t.length c2] 26)).alloc (.cells #[.int .i64 st, .slice a3 ar.length c3] 28) := ⟨_, rfl⟩
    have hWs : W.heap.size = w.heap.size + 2 := by rw [hW]; simp
    have h2 : Below w.heap.size w W := by rw [hW]; exact ((Below.refl _ w).alloc (Nat.le_refl _) _).alloc (by simp) _
    have P0 : Hid (Blk W w.heap.size #[.int .i64 n, .slice a1 f.length c1, .slice a2 t.length c2] 26) := Lib.hid (by
      rw [hW]; exact (Blk.new w #[.int .i64 n, .slice a1 f.length c1, .slice a2 t.length c2] 26).below ((Below.refl _ _).alloc (Nat.le_refl _) _))
    have Q0 : Hid (Blk W (w.heap.size + 1) #[.int .i64 st, .slice a3 ar.length c3] 28) := Lib.hid (by
      rw [hW]; simpa using Blk.new (w.alloc (.cells #[.int .i64 n, .slice a1 f.length c1, .slice a2 t.length c2] 26)) #[.int .i64 st, .slice a3 ar.length c3] 28)
    have HF := Lib.hid (hf.below h2); have HT := Lib.hid (ht.below h2); have HA := Lib.hid (ha.below h2)
    have HFA := Lib.hid hfa0
    have HE0 := OwnP.one W (B := B0) st HA.out hfa0 (by omega)
    have HEb0 : Below (w.heap.size + 2) W (W.alloc (.cells #[.int .i64 st, .slice a3 ar.length c3] 28)) := (Below.refl _ W).alloc (by omega) _
    rw [hWs] at HE0
    have HE := Lib.hid HE0; have HEb := Lib.hid HEb0
    have H2 := Lib.hid h2; have HWs := Lib.hid hWs
    have p := blk3 P0.out
    have q := blk2 Q0.out
    rw [hW] at p q
    obtain ⟨p0, p1, p2⟩ := p
    obtain ⟨p3, p4⟩ := q
    have HW := Lib.hid hW
    clear hf ht ha h2 hgo hlen htN ih hrk hd6 hP hfa0 HE0 HEb0 he hWs hW
    go_enter Tryd.func38, Tryd.ntmps38
    go_wp2
    go_loopw [5, 13] (fun s i wr => ∃ k : Nat, k ≤ f.length ∧ i = .int .i64 k ∧ OwnP wr B0 s (qP st ar (pK f t d e k)) ∧ (∀ q, s.ownBlock = some q → w.heap.size + 2 ≤ q) ∧ Below (w.heap.size + 2) W wr) (fun _ i _ => f.length - (intOf i).toNat)
    case atStart => exact ⟨0, Nat.zero_le _, rfl, by rw [qP_zero, ← HW.out]; exact HE.out, fun q hq => by simp [Value.ownBlock] at hq; omega, by rw [← HW.out]; exact HEb.out⟩
    case round =>
      obtain ⟨k, hk, rfl, hos, hown, hbel⟩ := hrel
      obtain ⟨aS, cS, hsE, _, _⟩ := hos.shape
      rw [qP_len] at hsE
      subst hsE
      have HO := Lib.hid hos; have HBel := Lib.hid hbel; have HON := Lib.hid hown
      have hBr : w.heap.size + 2 ≤ wr.heap.size := by have := hbel.size; have := HWs.out; omega
      have HP := Lib.hid (P0.out.belowB hbel (by omega)); have HQ := Lib.hid (Q0.out.belowB hbel (by omega))
      have HFr := Lib.hid (HF.out.belowB hbel (fun q hq => by have := HF.out.lt q hq; have := HWs.out; omega)); have HTr := Lib.hid (HT.out.belowB hbel (fun q hq => by have := HT.out.lt q hq; have := HWs.out; omega))
      have HAr := Lib.hid (HA.out.belowB hbel (fun q hq => by have := HA.out.lt q hq; have := HWs.out; omega))
      clear p0 p1 p2 p3 p4 hos hbel hown
      obtain ⟨p0, p1, p2⟩ := blk3 HP.out
      obtain ⟨p3, p4⟩ := blk2 HQ.out
      by_cases hlt : k < f.length
      · have hlt2 : k < t.length := by have := HLEN.out; omega
        obtain ⟨g, off, rfl, hgs, hc, _⟩ := HFr.out.cell hlt
        obtain ⟨fa, hfa⟩ := elem_name f k
        obtain ⟨ta, hta⟩ := elem_name t k
        rw [hfa] at hc
        have hk0 : (0 : Int) ≤ (k : Int) := by omega
        have hk1 : (k : Int) < (f.length : Int) := by omega
        go_wp2_with fail
        refine (i_end _ _ _ _ _ f t ar _ HFr.out HTr.out HAr.out HPE.out.1).mono ?_; rintro ee w1 ⟨rfl, b1⟩
        rw [← HPE.out.2]
        have hb1w : w.heap.size + 2 ≤ w1.heap.size := by have := b1.size; omega
        have HO1 := Lib.hid (HO.out.below b1); have HBel1 := Lib.hid (HBel.out.trans (b1.mono hBr))
        have HP1 := Lib.hid (HP.out.below b1); have HQ1 := Lib.hid (HQ.out.below b1)
        have HF1 := Lib.hid (HFr.out.below b1); have HT1 := Lib.hid (HTr.out.below b1); have HA1 := Lib.hid (HAr.out.below b1)
        clear p0 p1 p2 p3 p4 hc b1
        obtain ⟨p0, p1, p2⟩ := blk3 HP1.out
        obtain ⟨p3, p4⟩ := blk2 HQ1.out
        by_cases hfv : fa = e
        · have hb : (fa == e) = true := by simpa using hfv
          have hfk : f.getD k 0 = e := by rw [hfa]; exact hfv
          have HYES := Lib.hid (qP_yes (f := f) (t := t) (d := d) (e := e) (st := st) (ar := ar) (k := k) hfk)
          have hrt : rkV f t N (t.getD k 0) N < d := by
            have h := rk_fall HGO.out hlt2 (HTN.out k hlt2).1 (HTN.out k hlt2).2
            rw [hfk] at h
            have := HRK.out
            omega
          have hP2 := isP_snoc HPE.out.1 hlt (by rw [hfk]; exact HPE.out.2) (by omega)
          have hcu := curP_snoc t st ar k
          have hrt2 : rkV f t N (curP t st (ar ++ [(k : Int)]) (ar ++ [(k : Int)]).length) N < d := by rw [hcu]; exact hrt
          rw [hta] at HYES
          have HCU := Lib.hid (hcu.trans hta)
          have HRT := Lib.hid (And.intro hP2 hrt2)
          have hal2 : (ar ++ [(k : Int)]).length + d ≤ 12 := by simp; omega
          have HAL := Lib.hid hal2
          have hsm := HSM.out ta
          have hks := HKS.out k (by omega)
          have HS := Lib.hid (fun w' (hB : Below w1.heap.size w1 w') => And.intro (blk3 (HP1.out.below hB)) (blk2 (HQ1.out.below hB)))
          have HS2 := Lib.hid (fun w' (hB : Below (w.heap.size + 2) W w') => And.intro (blk3 (P0.out.belowB hB (by omega))) (blk2 (Q0.out.belowB hB (by omega))))
          have HKp := Lib.hid (fun w' (hB : Below w1.heap.size w1 w') => And.intro (HF1.out.below hB) (And.intro (HT1.out.below hB) (And.intro (HA1.out.below hB) (HO1.out.below hB))))
          have hr0 : Below w1.heap.size w1 w1.drew := (Below.refl _ _).drew
          have hrA : Below w1.heap.size w1 (w1.alloc (.cells #[.int .i64 k] 3)).drew := ((Below.refl _ _).alloc (Nat.le_refl _) _).drew
          have hiA : Ints (w1.alloc (.cells #[.int .i64 k] 3)).drew (.slice (some ⟨w1.heap.size, 0, none⟩) 1 1) [(k : Int)] := (Ints.of_own (own_1 w1 (k : Int))).1.drew
          have HR0 := Lib.hid hr0; have HRA := Lib.hid hrA; have HIA := Lib.hid hiA
          clear hr0 hrA hiA hP2 hcu hrt hrt2 hal2 hfk hfv hfa hta p0 p1 p2 p3 p4
          go_wp2
          go_region_held3 (fun w' => (w'.cell? ⟨w.heap.size, 0, none⟩ = some (.int .i64 n) ∧ w'.cell? ⟨w.heap.size, 1, none⟩ = some (.slice (some ⟨g, off, none⟩) f.length c1) ∧ w'.cell? ⟨w.heap.size, 2, none⟩ = some (.slice a2 t.length c2)) ∧ w'.cell? ⟨w.heap.size + 1, 0, none⟩ = some (.int .i64 st) ∧ w'.cell? ⟨w.heap.size + 1, 1, none⟩ = some (.slice a3 ar.length c3))
            (first
              | with_reducible exact HS.out _ HR0.out
              | with_reducible exact HS.out _ HRA.out
              | with_reducible exact HS.out _ hb2
              | with_reducible exact HS.out _ hb2a
              | with_reducible exact HS.out _ hb3
              | with_reducible exact HS.out _ hb4
              | with_reducible exact HS2.out _ hb5)
            (first
              | (go_at_call 58; (with_reducible refine (Clone_own _ ar _ (HKp.out _ HR0.out).2.2.1 (by omega)).mono ?_); rintro ee w2 ⟨vc, rfl, hoc, b2⟩; have hb2 := HR0.out.trans (b2.mono HR0.out.size); have hb2a := hb2.alloc hb2.size (.cells #[.int .i64 k] 3))
              | (go_at_call 58; (with_reducible refine (Clone_own _ ar _ (HKp.out _ HRA.out).2.2.1 (by omega)).mono ?_); rintro ee w2 ⟨vc, rfl, hoc, b2⟩; have hb2 := HRA.out.trans (b2.mono HRA.out.size); have hi2 := HIA.out.below b2)
              | (refine step_app_any2 (w2.alloc (.cells #[.int .i64 k] 3)) (by rfl) (.tmp 29) (.tmp 31) (by rfl) w1.heap.size vc (.slice (some ⟨w2.heap.size, 0, none⟩) 1 1) ar [(k : Int)] (by rfl) (by rfl) (hoc.below ((Below.refl _ w2).alloc (Nat.le_refl _) _)) (Ints.of_own (own_1 w2 (k : Int))).1 hb2a.size (by simp; omega) ?_; intro v3 w3 ho3 b3; have hb3 := hb2a.trans b3; have hI3 := (Ints.of_own ho3).1; have hF3 := (Ints.of_own ho3).2; obtain ⟨a5, c5, hv3, _, _⟩ := hI3.shape; rw [List.length_append] at hv3; change v3 = .slice a5 (ar.length + 1) c5 at hv3; subst hv3)
              | (refine step_app_any2 w2 (by rfl) (.tmp 29) (.tmp 31) (by rfl) (w1.alloc (.cells #[.int .i64 k] 3)).drew.heap.size vc (.slice (some ⟨w1.heap.size, 0, none⟩) 1 1) ar [(k : Int)] (by rfl) (by rfl) hoc hi2 b2.size (by simp; omega) ?_; intro v3 w3 ho3 b3; have hb3 := hb2.trans (b3.mono HRA.out.size); have hI3 := (Ints.of_own ho3).1; have hF3 := (Ints.of_own ho3).2.mono HRA.out.size; obtain ⟨a5, c5, hv3, _, _⟩ := hI3.shape; rw [List.length_append] at hv3; change v3 = .slice a5 (ar.length + 1) c5 at hv3; subst hv3)
              | (go_at_call 38; (with_reducible refine (IH.out st (ar ++ [(k : Int)]) _ _ _ w3 HRT.out.1 HRT.out.2 hd HAL.out (HKp.out _ hb3).1 (HKp.out _ hb3).2.1 hI3 (hF3.mono (by omega)) (by have := hb3.size; omega)).mono ?_); rintro ee w4 ⟨v4, rfl, ho4, hn4, b4⟩; have hb4 := hb3.trans (b4.mono hb3.size); rw [HCU.out] at ho4; obtain ⟨a6, c6, hv4, _, _⟩ := ho4.shape; rw [qP_len] at hv4; subst hv4)
              | (refine step_app_pts w4 (by rfl) (.tmp 23) (.tmp 34) (by rfl) B0 _ _ (qP st ar (pK f t d e k)) (qP st (ar ++ [(k : Int)]) (pF f t d ta)) (by rfl) (by rfl) (HKp.out _ hb4).2.2.2 ho4 (by rw [qP_len]; exact pF_pos _ _ _ _) (by have := hb4.size; omega) (by rw [qP_len, qP_len]; omega) ?_; intro v5 w5 ho5 hg5 hloc5; rw [← HYES.out] at ho5; have hb5 := (HBel1.out.trans (hb4.mono hb1w)).grown hg5 (by have := hb4.size; omega) (fun q hq => HON.out q hq); obtain ⟨a7, c7, hv5, _, _⟩ := ho5.shape; rw [qP_len] at hv5; subst hv5))
          all_goals
            have HO5 := Lib.hid ho5; have HB5 := Lib.hid hb5
            have HN5 := Lib.hid (fun q hq => by
              rcases hloc5 with h | h
              · exact HON.out q (h.symm.trans hq)
              · have h2 : some w4.heap.size = some q := h.symm.trans hq
                have := hb4.size
                simp at h2
                omega : ∀ q, (Value.slice a7 (pK f t d e (k + 1)).length c7).ownBlock = some q → w.heap.size + 2 ≤ q)
            clear ho5 hb5 hg5 hloc5
            go_wp2
            go_roundw
            case rel => exact ⟨k + 1, by omega, by go_num, HO5.out, HN5.out, HB5.out⟩
            case measure => simp [intOf]; omega
        · have hb : (fa == e) = false := by simpa using hfv
          have HNO := Lib.hid (qP_no (f := f) (t := t) (d := d) (e := e) (st := st) (ar := ar) (k := k) (by rw [hfa]; exact hfv))
          clear hfv hfa hta
          go_wp2
          go_roundw
          case rel => exact ⟨k + 1, by omega, by go_num, by rw [HNO.out]; exact HO1.out, HON.out, HBel1.out⟩
          case measure => simp [intOf]; omega
      · have hk' : k = f.length := by omega
        have HQF := Lib.hid (show PtsFrom B0 (qP st ar (pF f t (d + 1) e)) w (.returned (.slice aS (pK f t d e k).length cS)) wr from ⟨_, rfl, by rw [← qP_all, ← hk']; exact HO.out, fun q hq => by have := HON.out q hq; omega, H2.out.trans (HBel.out.mono (by omega))⟩)
        clear hk'
        go_wp2
        go_ret
        exact HQF.out
end Go.Proofs.YtndooeffjkofdaaDoor
