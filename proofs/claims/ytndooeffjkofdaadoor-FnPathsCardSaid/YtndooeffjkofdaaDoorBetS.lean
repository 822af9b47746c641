/- PathsBetween and CountPaths, of the reference. -/
import Derived.Test.YtndooeffjkofdaaDoorL7
import Derived.Test.YtndooeffjkofdaaDoorMg3
import Derived.Test.YtndooeffjkofdaaDoorIsPath
namespace Go.Proofs.YtndooeffjkofdaaDoor
open Go.RowKit
set_option linter.unusedVariables false
set_option linter.unusedSimpArgs false

def btwOK (n : Int) (f t : List Int) (a b : Int) : Bool := ordOK n f t && inR a 0 (n - 1) && inR b 0 (n - 1)
/-- those of a list that end at b -/
def btwF (n : Int) (f t : List Int) (b : Int) (L : List Pt) : List Pt := L.filter fun p => endP n f t p.1 p.2 == b
def btwS (n : Int) (f t : List Int) (a b : Int) : List Pt := if btwOK n f t a b = true then btwF n f t b (pP f t 6 a) else []
def cntR (n : Int) (f t : List Int) (a b : Int) : Int := if btwOK n f t a b = true then ((btwS n f t a b).length : Int) else -1
theorem btwF_succ {n : Int} {f t : List Int} {b : Int} {L : List Pt} {j : Nat} (h : j < L.length) : btwF n f t b (L.take (j + 1)) = btwF n f t b (L.take j) ++ (if endP n f t (L.getD j (0, [])).1 (L.getD j (0, [])).2 == b then [L.getD j (0, [])] else []) := by
  unfold btwF
  rw [List.take_add_one, List.filter_append, List.getElem?_eq_getElem h]
  simp [List.getD, h, List.filter_cons]
theorem btwF_le {n : Int} {f t : List Int} {b : Int} {L : List Pt} {j : Nat} : (btwF n f t b (L.take j)).length ≤ L.length := by
  unfold btwF
  exact Nat.le_trans (List.length_filter_le _ _) (by rw [List.length_take]; omega)

set_option maxRecDepth 100000 in
set_option maxHeartbeats 2000000 in
theorem s_PathsBetween (n : Int) (vf vt : Value) (f t : List Int) (a b : Int) (w : World) (hf : Ints w vf f) (ht : Ints w vt t) :
    Calls Tryd.prog 21 #[.agg #[.int .i64 n, vf, vt], .int .i64 a, .int .i64 b] w (PtsOK (btwS n f t a b) (btwOK n f t a b) w) := by
  obtain ⟨a1, c1, rfl, hl1, hm1⟩ := hf.shape
  obtain ⟨a2, c2, rfl, hl2, hm2⟩ := ht.shape
  have h2 : Below w.heap.size w (w.alloc (.cells #[.int .i64 n, .slice a1 f.length c1, .slice a2 t.length c2] 26)) := (Below.refl _ w).alloc (Nat.le_refl _) _
  have h2' : Below (w.heap.size + 1) (w.alloc (.cells #[.int .i64 n, .slice a1 f.length c1, .slice a2 t.length c2] 26)) ((w.alloc (.cells #[.int .i64 n, .slice a1 f.length c1, .slice a2 t.length c2] 26)).alloc (.cells #[] 28)) := (Below.refl _ _).alloc (by simp) _
  have P0 := Lib.hid (Blk.new w #[.int .i64 n, .slice a1 f.length c1, .slice a2 t.length c2] 26)
  obtain ⟨W, hW⟩ : ∃ W, W = w.alloc (.cells #[.int .i64 n, .slice a1 f.length c1, .slice a2 t.length c2] 26) := ⟨_, rfl⟩
  have hWs : W.heap.size = w.heap.size + 1 := by rw [hW]; simp
  have HF := Lib.hid (hf.below h2); have HT := Lib.hid (ht.below h2)
  have HE0 : OwnP (W.alloc (.cells #[] 28)) (w.heap.size + 1) (.slice (some ⟨w.heap.size + 1, 0, none⟩) 0 0) [] := by
    rw [← hWs]
    exact ⟨[], World.ownsRow_lit (size := 2) (e := 28) (base := W.heap.size) W #[] 0 (Nat.le_refl _) (by decide) rfl, trivial⟩
  rw [hW] at HE0
  have HE := Lib.hid HE0
  have H2 := Lib.hid h2; have H2' := Lib.hid h2'
  clear hf ht h2 h2' hWs HE0 hW W
  go_enter Tryd.func21, Tryd.ntmps21
  have P1 := P0.out.below ((Below.refl _ (w.alloc (.cells #[.int .i64 n, .slice a1 f.length c1, .slice a2 t.length c2] 26))).alloc (Nat.le_refl _) (.cells #[] 28))
  have HF1 := Lib.hid (HF.out.below ((Below.refl _ (w.alloc (.cells #[.int .i64 n, .slice a1 f.length c1, .slice a2 t.length c2] 26))).alloc (Nat.le_refl _) (.cells #[] 28)))
  have HT1 := Lib.hid (HT.out.below ((Below.refl _ (w.alloc (.cells #[.int .i64 n, .slice a1 f.length c1, .slice a2 t.length c2] 26))).alloc (Nat.le_refl _) (.cells #[] 28)))
  obtain ⟨p0, p1, p2⟩ := blk3 P1
  have HP1 := Lib.hid P1
  clear P1
  go_wp2_with fail
  refine (s_IsAcyclic _ _ _ f t _ HF1.out HT1.out).mono ?_; rintro e w1 ⟨rfl, b1⟩
  have HB1 := Lib.hid (H2'.out.trans (b1.mono (by simp)))
  have HO1 := Lib.hid (HE.out.below b1)
  have hs1 : w.heap.size + 1 + 1 ≤ w1.heap.size := by have := b1.size; simpa using this
  have HP := Lib.hid (HP1.out.below b1)
  have HF2 := Lib.hid (HF1.out.below b1); have HT2 := Lib.hid (HT1.out.below b1)
  have HBw := Lib.hid (H2.out.trans (HB1.out.mono (by omega)))
  clear b1 p0 p1 p2
  cases hq : ordOK n f t
  · have HN := Lib.hid (show btwOK n f t a b = false by simp [btwOK, hq])
    have HN2 := Lib.hid (show btwS n f t a b = [] by unfold btwS; rw [HN.out]; rfl)
    obtain ⟨p0, p1, p2⟩ := blk3 HP.out
    go_wp2
    go_ret2
    exact PtsOK.of_eq ⟨_, rfl, HO1.out.mono (by omega), HBw.out⟩ HN2.out.symm HN.out.symm
  have hq2 := hq
  unfold ordOK at hq2
  simp only [Bool.and_eq_true] at hq2
  obtain ⟨hisq, hgo⟩ := hq2
  obtain ⟨n1, n5⟩ := isQ_n' hisq
  obtain ⟨N, rfl⟩ := Int.eq_ofNat_of_zero_le (show 0 ≤ n by omega)
  have hgo : ordGo f t N = true := hgo
  obtain ⟨_, htN, hlen, h6, _, _⟩ := isQ_all hisq
  have HGO := Lib.hid (And.intro hgo (And.intro hlen htN))
  have HOK := Lib.hid hq
  have HPS := Lib.hid (fun v => pP_small (f := f) (t := t) h6 v)
  have hN5 : N ≤ 5 := by omega
  clear hq hisq hgo htN hlen
  obtain ⟨p0, p1, p2⟩ := blk3 HP.out
  cases ha : inR a 0 ((N : Int) - 1)
  · have HN := Lib.hid (show btwOK N f t a b = false by simp [btwOK, ha])
    have HN2 := Lib.hid (show btwS N f t a b = [] by unfold btwS; rw [HN.out]; rfl)
    go_wp2_with fail
    refine (s_l1In _ _ _ _).mono ?_; rintro e wz ⟨rfl, rfl⟩
    rw [ha]
    go_wp2
    go_ret2
    exact PtsOK.of_eq ⟨_, rfl, HO1.out.mono (by omega), HBw.out⟩ HN2.out.symm HN.out.symm
  cases hb : inR b 0 ((N : Int) - 1)
  · have HN := Lib.hid (show btwOK N f t a b = false by simp [btwOK, hb])
    have HN2 := Lib.hid (show btwS N f t a b = [] by unfold btwS; rw [HN.out]; rfl)
    go_wp2_with fail
    refine (s_l1In _ _ _ _).mono ?_; rintro e wz ⟨rfl, rfl⟩
    rw [ha]
    go_wp2_with fail
    refine (s_l1In _ _ _ _).mono ?_; rintro e wz ⟨rfl, rfl⟩
    rw [hb]
    go_wp2
    go_ret2
    exact PtsOK.of_eq ⟨_, rfl, HO1.out.mono (by omega), HBw.out⟩ HN2.out.symm HN.out.symm
  have HN := Lib.hid (show btwOK N f t a b = true by simp only [btwOK, HOK.out, ha, hb]; rfl)
  have HN2 := Lib.hid (show btwS N f t a b = btwF N f t b (pP f t 6 a) by unfold btwS; rw [HN.out]; rfl)
  have hrk : rkV f t N a N < 6 := by have := rk_le f t N a N; omega
  go_wp2_with fail
  refine (s_l1In _ _ _ _).mono ?_; rintro e wz ⟨rfl, rfl⟩
  rw [ha]
  go_wp2_with fail
  refine (s_l1In _ _ _ _).mono ?_; rintro e wz ⟨rfl, rfl⟩
  rw [hb]
  go_wp2_with fail
  refine (s_l7From HGO.out.1 HGO.out.2.1 h6 HGO.out.2.2 6 a _ _ _ hrk (Nat.le_refl _) HF2.out HT2.out).mono ?_; rintro e w2 ⟨vv, rfl, ho2, b2⟩
  have hdis : ∀ q, vv.ownBlock = some q → (Value.slice (some ⟨w.heap.size + 1, 0, none⟩) 0 0).ownBlock ≠ some q := fun q hq e => by
    have h1 := (ho2.ownLt q hq).1
    simp [Value.ownBlock] at e
    omega
  have hvv := ho2.mono (B' := w.heap.size + 1) (by omega)
  obtain ⟨L, hL⟩ : ∃ L, L = pP f t 6 a := ⟨_, rfl⟩
  have hsm := HPS.out a
  rw [← hL] at hvv hsm
  obtain ⟨aL, cL, rfl, _, _⟩ := hvv.shape
  have HLq := Lib.hid hL
  have HVV := Lib.hid hvv; have HDis := Lib.hid hdis
  have HO2 := Lib.hid (HO1.out.below b2)
  have HBel2 := Lib.hid (HB1.out.trans (b2.mono (by omega)))
  have hs2 : w.heap.size + 1 ≤ w2.heap.size := by have := b2.size; omega
  have HP2 := Lib.hid (HP.out.below b2)
  have HF3 := Lib.hid (HF2.out.below b2); have HT3 := Lib.hid (HT2.out.below b2)
  have HBw2 := Lib.hid (HBw.out.trans (b2.mono (by omega)))
  have hwf := HF.out.lt; have hwt := HT.out.lt
  simp only [World.size_alloc] at hwf hwt
  have HWF := Lib.hid hwf; have HWT := Lib.hid hwt
  clear ho2 b2 hdis hvv hL p0 p1 p2 hwf hwt
  go_wp2
  go_loopw [8, 10] (fun s i wr => ∃ j : Nat, j ≤ L.length ∧ i = .int .i64 j ∧ OwnP wr (w.heap.size + 1) s (btwF N f t b (L.take j)) ∧ OwnP wr (w.heap.size + 1) (.slice aL L.length cL) L ∧ (∀ q, (Value.slice aL L.length cL).ownBlock = some q → s.ownBlock ≠ some q) ∧ Below (w.heap.size + 1) w2 wr) (fun _ i _ => L.length - (intOf i).toNat)
  case atStart => exact ⟨0, Nat.zero_le _, rfl, HO2.out, HVV.out, HDis.out, Below.refl _ _⟩
  case round =>
    obtain ⟨j, hj, rfl, hos, hol, hdis, hbel⟩ := hrel
    obtain ⟨aS, cS, rfl, _, _⟩ := hos.shape
    have hle := btwF_le (n := N) (f := f) (t := t) (b := b) (L := L) (j := j)
    have HOS := Lib.hid hos; have HOL := Lib.hid hol; have HD2 := Lib.hid hdis; have HB2 := Lib.hid hbel
    have hBr : w.heap.size + 1 ≤ wr.heap.size := by have := hbel.size; omega
    have HPr := Lib.hid (HP2.out.belowB hbel (by omega))
    have HFr := Lib.hid (HF3.out.belowB hbel HWF.out); have HTr := Lib.hid (HT3.out.belowB hbel HWT.out)
    obtain ⟨p0, p1, p2⟩ := blk3 HPr.out
    clear hos hbel hdis
    by_cases hlt : j < L.length
    · obtain ⟨g, u, rfl, _, hgs, hc0, hc1, hu, hfu⟩ := hol.cell hlt
      have HST := Lib.hid (btwF_succ (n := N) (f := f) (t := t) (b := b) hlt)
      obtain ⟨st, hst⟩ : ∃ st, st = (L.getD j (0, [])).1 := ⟨_, rfl⟩
      obtain ⟨ar, har⟩ : ∃ ar, ar = (L.getD j (0, [])).2 := ⟨_, rfl⟩
      have hpr : L.getD j (0, []) = (st, ar) := by rw [hst, har]
      rw [hpr] at HST
      rw [← hst] at hc0
      rw [← har] at hu
      obtain ⟨aU, cU, rfl, _, _⟩ := hu.shape
      have HU := Lib.hid hu; have HFU := Lib.hid hfu
      have hk0 : (0 : Int) ≤ (j : Int) := by omega
      have hk1 : (j : Int) < (L.length : Int) := by omega
      clear hst har hpr hu hfu hol
      obtain ⟨en, hen⟩ : ∃ en, en = endP N f t st ar := ⟨_, rfl⟩
      rw [← hen] at HST
      have HEN := Lib.hid hen
      clear hen
      by_cases hyx : en = b
      · have hb : (en == b) = true := by simpa using hyx
        rw [hb, if_pos rfl] at HST
        clear hyx
        go_wp2
        go_region_held3 (fun w' => (w'.cell? ⟨w.heap.size, 0, none⟩ = some (.int .i64 N) ∧ w'.cell? ⟨w.heap.size, 1, none⟩ = some (.slice a1 f.length c1) ∧ w'.cell? ⟨w.heap.size, 2, none⟩ = some (.slice a2 t.length c2)) ∧ w'.cell? ⟨g, j * 2, none⟩ = some (.int .i64 st) ∧ w'.cell? ⟨g, j * 2 + 1, none⟩ = some (.slice aU ar.length cU))
          (first
            | exact ⟨⟨p0, p1, p2⟩, hc0, hc1⟩
            | exact ⟨blk3 (HPr.out.below (below_of_drew b3)), (b3.cell (p := ⟨g, j * 2, none⟩) hgs).trans hc0, (b3.cell (p := ⟨g, j * 2 + 1, none⟩) hgs).trans hc1⟩)
          (first
            | (go_at_call 10; (with_reducible refine (s_EndOf _ _ _ _ _ f t ar _ HFr.out.drew HTr.out.drew HU.out.drew).mono ?_); rintro e w3 ⟨rfl, b3⟩; rw [← HEN.out]))
        have hb3 := below_of_drew b3
        have OS3 := Lib.hid (HOS.out.below hb3); have OL3 := Lib.hid (HOL.out.below hb3)
        have HB3 := Lib.hid (HB2.out.trans (hb3.mono hBr))
        have HU3 := Lib.hid (HU.out.below hb3)
        have hs3 : w.heap.size + 1 ≤ w3.heap.size := by have := hb3.size; omega
        have q0 := (hb3.cell (p := ⟨g, j * 2, none⟩) hgs).trans hc0
        have q1 := (hb3.cell (p := ⟨g, j * 2 + 1, none⟩) hgs).trans hc1
        clear b3 hb3 hc0 hc1 p0 p1 p2
        go_wp2_with (at_builtin; refine app_pt w3 rfl (.tmp 49) (.tmp 54) rfl (w.heap.size + 1) _ _ st _ ar rfl rfl OS3.out HU3.out HFU.out hs3 (by omega) ?_)
        intro v4 w4 ho4 hg4 hloc4
        have hbA : Below w3.heap.size w3 (w3.alloc (.cells #[.int .i64 st, .slice aU ar.length cU] 28)) := (Below.refl _ w3).alloc (Nat.le_refl _) _
        have HL4 := Lib.hid ((OL3.out.below hbA).other (OS3.out.below hbA) hg4 HD2.out)
        have HB4 := Lib.hid ((HB3.out.trans (hbA.mono hs3)).grown hg4 (by simp; omega) (fun q hq => (OS3.out.ownLt q hq).1))
        have HD4 := Lib.hid (fun q hq e => by
          rcases hloc4 with h | h
          · exact HD2.out q hq (h.symm.trans e)
          · have h1 := (OL3.out.ownLt q hq).2
            have h2 : some (w3.heap.size + 1) = some q := h.symm.trans e
            simp at h2
            omega : ∀ q, _ = some q → _ ≠ some q)
        rw [← HST.out] at ho4
        obtain ⟨a4, c4, rfl, _, _⟩ := ho4.shape
        have HO4 := Lib.hid ho4
        clear ho4 hg4 hloc4 hbA q0 q1
        go_wp2
        go_roundw
        case rel => exact ⟨j + 1, by omega, by go_num, HO4.out, HL4.out, HD4.out, HB4.out⟩
        case measure => simp [intOf]; omega
      · have hb : (en == b) = false := by simpa using hyx
        rw [hb, if_neg (by simp), List.append_nil] at HST
        clear hyx
        go_wp2
        go_region_held3 (fun w' => (w'.cell? ⟨w.heap.size, 0, none⟩ = some (.int .i64 N) ∧ w'.cell? ⟨w.heap.size, 1, none⟩ = some (.slice a1 f.length c1) ∧ w'.cell? ⟨w.heap.size, 2, none⟩ = some (.slice a2 t.length c2)) ∧ w'.cell? ⟨g, j * 2, none⟩ = some (.int .i64 st) ∧ w'.cell? ⟨g, j * 2 + 1, none⟩ = some (.slice aU ar.length cU))
          (first
            | exact ⟨⟨p0, p1, p2⟩, hc0, hc1⟩
            | exact ⟨blk3 (HPr.out.below (below_of_drew b3)), (b3.cell (p := ⟨g, j * 2, none⟩) hgs).trans hc0, (b3.cell (p := ⟨g, j * 2 + 1, none⟩) hgs).trans hc1⟩)
          (first
            | (go_at_call 10; (with_reducible refine (s_EndOf _ _ _ _ _ f t ar _ HFr.out.drew HTr.out.drew HU.out.drew).mono ?_); rintro e w3 ⟨rfl, b3⟩; rw [← HEN.out]))
        have hb3 := below_of_drew b3
        have OS3 := Lib.hid (HOS.out.below hb3); have OL3 := Lib.hid (HOL.out.below hb3)
        have HB3 := Lib.hid (HB2.out.trans (hb3.mono hBr))
        have HU3 := Lib.hid (HU.out.below hb3)
        have hs3 : w.heap.size + 1 ≤ w3.heap.size := by have := hb3.size; omega
        clear b3 hb3 hc0 hc1 p0 p1 p2
        go_wp2
        go_roundw
        case rel => exact ⟨j + 1, by omega, by go_num, by rw [HST.out]; exact OS3.out, OL3.out, HD2.out, HB3.out⟩
        case measure => simp [intOf]; omega
    · have hj' : j = L.length := by omega
      have HQ := Lib.hid (show OwnP wr w.heap.size (.slice aS (btwF N f t b (L.take j)).length cS) (btwS N f t a b) by
        rw [HN2.out, ← HLq.out]
        have h := HOS.out
        rw [hj', List.take_length] at h
        rw [hj', List.take_length]
        exact h.mono (by omega))
      have HBB := Lib.hid (HBw2.out.trans (HB2.out.mono (by omega)))
      clear hj' hol
      go_wp2
      go_ret2
      exact PtsOK.of_eq ⟨_, rfl, HQ.out, HBB.out⟩ rfl HN.out.symm

end Go.Proofs.YtndooeffjkofdaaDoor
