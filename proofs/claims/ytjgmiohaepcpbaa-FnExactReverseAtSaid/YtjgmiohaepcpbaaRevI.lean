/- ReverseAt of the program. -/
import Derived.Test.YtjgmiohaepcpbaaRev
namespace Go.Proofs.Ytjgmiohaepcpbaa
open Go.RowKit
set_option linter.unusedVariables false
set_option linter.unusedSimpArgs false

theorem quiv_ok {w0 w : World} {b : Nat} {v1 v2 : Value} {l1 l2 : List Int} {ins bls} (n : Int) (r : Res3 w b 27) (hb : w0.heap.size ≤ b) (m : MB w0 ins bls w) (h1 : Ints w v1 l1) (h2 : Ints w v2 l2)
    (f1 : ∀ q, blk v1 = some q → b < q) (f2 : ∀ q, blk v2 = some q → b < q) (d : ∀ k, blk v1 = some k → ¬ blk v2 = some k) :
    Blk (((w.setCell ⟨b, 0, none⟩ (.int .i64 n)).setCell ⟨b, 1, none⟩ v1).setCell ⟨b, 2, none⟩ v2) b #[.int .i64 n, v1, v2] 27 ∧
    QuivOK n l1 l2 true w0 (.returned (.tuple #[.agg #[.int .i64 n, v1, v2], .bool true])) (((w.setCell ⟨b, 0, none⟩ (.int .i64 n)).setCell ⟨b, 1, none⟩ v1).setCell ⟨b, 2, none⟩ v2) :=
  ⟨r.blk_set _ _ _, v1, v2, rfl, set3_ints h1 (fun q hq e => by have := f1 q hq; omega) _ _ _, set3_ints h2 (fun q hq e => by have := f2 q hq; omega) _ _ _,
    fun q hq => by have := f1 q hq; omega, fun q hq => by have := f2 q hq; omega, d, set3_below m.bel hb _ _ _⟩

/-- the cells that the exchange of one arrow reads -/
theorem rev_hold {w0 W : World} {b r qb nf cf nt ct g off g' off' k : Nat} {x0 x1 x2 y0 y1 y2 : Value} {cr : Array Value} {T T' T'' : TypeId} {lf lt : List Int} {fa ta : Int}
    (h : MB w0 [(.slice (some ⟨g', off', none⟩) nt ct, lt), (.slice (some ⟨g, off, none⟩) nf cf, lf)] [(b, #[x0, x1, x2], T), (r, cr, T'), (qb, #[y0, y1, y2], T'')] W) (hk : k < lf.length) (hk2 : k < lt.length) (hfa : lf.getD k 0 = fa) (hta : lt.getD k 0 = ta) :
    W.drew.cell? ⟨b, 1, none⟩ = some x1 ∧ W.drew.cell? ⟨b, 2, none⟩ = some x2 ∧ W.drew.cell? ⟨qb, 1, none⟩ = some y1 ∧ W.drew.cell? ⟨qb, 2, none⟩ = some y2 ∧ W.drew.cell? ⟨g, off + k, none⟩ = some (.int .i64 fa) ∧ W.drew.cell? ⟨g', off' + k, none⟩ = some (.int .i64 ta) :=
  ⟨h.b0.cell 1, h.b0.cell 2, h.b2.cell 1, h.b2.cell 2, by rw [← hfa]; exact h.i1.cellAt hk, by rw [← hta]; exact h.i0.cellAt hk2⟩

set_option maxRecDepth 100000 in
set_option maxHeartbeats 4000000 in
theorem i_ReverseAt_yes (n : Int) (vf vt : Value) (lf lt : List Int) (x : Int) (w : World) (hf : Ints w vf lf) (ht : Ints w vt lt) (hok : revOK n lf lt x = true) :
    Calls Try.prog 21 #[.agg #[.int .i64 n, vf, vt], .int .i64 x] w (QuivOK n (revK lf lt x lf.length) (revK lt lf x lt.length) true w) := by
  obtain ⟨hlen, h6⟩ := isQ_l6 (revOK_isQ hok)
  have hl1 : lf.length ≤ 1048576 := by omega
  have hl2 : lt.length ≤ 1048576 := by omega
  have HLEN := Lib.hid hlen
  have hltf := Lib.hid hf.lt; have hltt := Lib.hid ht.lt
  obtain ⟨a1, c1, rfl, hx1, hy1⟩ := hf.shape
  obtain ⟨a2, c2, rfl, hx2, hy2⟩ := ht.shape
  have M := Lib.hid (((((MB.start w).addI hf).addI ht).alloc #[.int .i64 n, .slice a1 lf.length c1, .slice a2 lt.length c2] 27).alloc #[.int .i64 0, .slice none 0 0, .slice none 0 0] 27)
  have HCase : Hid (freeQ n lf lt lt x = true ∨ freeQ n lf lt lt x = false ∧ freeQ n lf lt lf x = true) := by
    show _ ∨ _
    unfold revOK at hok
    cases h : freeQ n lf lt lt x
    · right; exact ⟨rfl, by simpa [h] using hok⟩
    · exact .inl rfl
  clear hf ht hlen hok h6
  go_enter Try.func21, Try.ntmps21
  go_upto_region 1 with fail
  go_cut [17] (fun s wx => s = .bool false ∧ MB w [(.slice a2 lt.length c2, lt), (.slice a1 lf.length c1, lf)] [(w.heap.size + 1, #[.int .i64 0, .slice none 0 0, .slice none 0 0], 27), (w.heap.size, #[.int .i64 n, .slice a1 lf.length c1, .slice a2 lt.length c2], 27)] wx)
  case first =>
    go_wp2_with fail
    refine (i_isSource _ _ _ lf lt _ _ M.out.i1 M.out.i0).mono ?_; rintro e w1 ⟨rfl, b1⟩
    have M1 := M.out.call b1
    simp only [World.size_alloc] at M1
    have M1 := Lib.hid M1
    clear b1
    obtain ⟨p0, p1, p2⟩ := blk3 M1.out.b1
    rcases HCase.out with hS | ⟨hS, hS2⟩
    · go_wp2_with fail
      go_meet
      exact ⟨rfl, M1.out⟩
    · go_wp2_with fail
      refine (i_isSink _ _ _ lf lt _ _ M1.out.i1 M1.out.i0).mono ?_; rintro e w2 ⟨rfl, b2⟩
      have M2 := Lib.hid (M1.out.call b2)
      go_wp2_with fail
      go_meet
      exact ⟨rfl, M2.out⟩
  case rest =>
    obtain ⟨rfl, hM⟩ := hcut
    have M1 := Lib.hid hM
    have hsc := hM.b0.lt
    clear hM HCase
    obtain ⟨p0, p1, p2⟩ := blk3 M1.out.b1
    go_wp2_with fail
    refine (i_cloneQ _ _ _ lf lt _ M1.out.i1 M1.out.i0 hl1 hl2).mono ?_; rintro e w2 ⟨uf, ut, rfl, hu1, hu2, f1, f2, d, b2⟩
    have hb1 := Lib.hid (fun q hq => (⟨by have := f1 q hq; omega, hu1.lt q hq⟩ : w.heap.size + 2 ≤ q ∧ q < w2.heap.size))
    have hb2 := Lib.hid (fun q hq => (⟨by have := f2 q hq; omega, hu2.lt q hq⟩ : w.heap.size + 2 ≤ q ∧ q < w2.heap.size))
    have hd := Lib.hid d
    obtain ⟨a4, c4, rfl, hx4, hy4⟩ := hu1.shape
    obtain ⟨a5, c5, rfl, hx5, hy5⟩ := hu2.shape
    have hal : Below w2.heap.size w2 (w2.alloc (.cells #[.int .i64 n, .slice a4 lf.length c4, .slice a5 lt.length c5] 27)) := (Below.refl _ w2).alloc (Nat.le_refl _) _
    have M2 := Lib.hid ((M1.out.call b2).alloc #[.int .i64 n, .slice a4 lf.length c4, .slice a5 lt.length c5] 27)
    have U1 := Lib.hid (hu1.below hal); have U2 := Lib.hid (hu2.below hal)
    have hs2 : w.heap.size + 2 ≤ w2.heap.size := by have := b2.size; omega
    clear hu1 hu2 f1 f2 d b2 hal p0 p1 p2
    obtain ⟨p0, p1, p2⟩ := blk3 M2.out.b2
    go_wp2
    go_loopw [24] (fun i wr => ∃ k : Nat, k ≤ lf.length ∧ i = .int .i64 k ∧ Ints wr (.slice a4 lf.length c4) (revK lf lt x k) ∧ Ints wr (.slice a5 lt.length c5) (revK lt lf x k) ∧ MB w [(.slice a2 lt.length c2, lt), (.slice a1 lf.length c1, lf)] [(w2.heap.size, #[.int .i64 n, .slice a4 lf.length c4, .slice a5 lt.length c5], 27), (w.heap.size + 1, #[.int .i64 0, .slice none 0 0, .slice none 0 0], 27), (w.heap.size, #[.int .i64 n, .slice a1 lf.length c1, .slice a2 lt.length c2], 27)] wr) (fun i _ => lf.length - (intOf i).toNat)
    case atStart => exact ⟨0, Nat.zero_le _, rfl, by rw [revK_zero]; exact U1.out, by rw [revK_zero]; exact U2.out, M2.out⟩
    case round =>
      obtain ⟨k, hk, rfl, hi1, hi2, hm⟩ := hrel
      have HM := Lib.hid hm
      clear p0 p1 p2
      obtain ⟨p0, p1, p2⟩ := blk3 HM.out.b2
      by_cases hlt : k < lf.length
      · have hlt2 : k < lt.length := by have := HLEN.out; omega
        obtain ⟨g, off, rfl, hg, hcf, _⟩ := HM.out.i1.cell hlt
        obtain ⟨g', off', rfl, hg', hct, _⟩ := HM.out.i0.cell hlt2
        obtain ⟨fa, hfa⟩ := elem_name lf k
        obtain ⟨ta, hta⟩ := elem_name lt k
        rw [hfa] at hcf
        rw [hta] at hct
        have hk0 : (0 : Int) ≤ (k : Int) := by omega
        have hk1 : (k : Int) < (lf.length : Int) := by omega
        have hk2 : (k : Int) < (lt.length : Int) := by omega
        by_cases hcond : fa = x ∨ ta = x
        · obtain ⟨g4, o4, rfl, hg4, hc4, hz4⟩ := hi1.cell (show k < (revK lf lt x k).length by rw [revK_len]; exact hlt)
          obtain ⟨g5, o5, rfl, hg5, hc5, hz5⟩ := hi2.cell (show k < (revK lt lf x k).length by rw [revK_len]; exact hlt2)
          obtain ⟨hst4, hbk4⟩ := hi1.set (show k < (revK lf lt x k).length by rw [revK_len]; exact hlt) (lt.getD k 0)
          obtain ⟨hst5, hbk5⟩ := hi2.set (show k < (revK lt lf x k).length by rw [revK_len]; exact hlt2) (lf.getD k 0)
          rw [revK_set hlt (by rw [hfa, hta]; exact hcond)] at hst4
          rw [revK_set hlt2 (by rw [hfa, hta]; exact hcond.symm)] at hst5
          rw [hta] at hst4
          rw [hfa] at hst5
          obtain ⟨e4, e4'⟩ := hb1.out g4 hbk4
          obtain ⟨e5, e5'⟩ := hb2.out g5 hbk5
          have hne : g4 ≠ g5 := fun e => hd.out g4 hbk4 (by rw [e]; exact hbk5)
          -- the two stores
          have ch1 : Chg (fun b => b = g4 ∨ b = g5) wr (wr.setCell ⟨g4, o4 + k, none⟩ (.int .i64 ta)) := (Chg.refl _ wr).setCell (p := ⟨g4, o4 + k, none⟩) (.inl rfl) _
          have ch2 : Chg (fun b => b = g4 ∨ b = g5) wr ((wr.setCell ⟨g4, o4 + k, none⟩ (.int .i64 ta)).setCell ⟨g5, o5 + k, none⟩ (.int .i64 fa)) := ch1.setCell (p := ⟨g5, o5 + k, none⟩) (.inr rfl) _
          have hoI : offI (fun b => b = g4 ∨ b = g5) [(.slice (some ⟨g', off', none⟩) lt.length c2, lt), (.slice (some ⟨g, off, none⟩) lf.length c1, lf)] := ⟨fun q hq h => by have := hltt.out q hq; omega, fun q hq h => by have := hltf.out q hq; omega, trivial⟩
          have hoB : offB (fun b => b = g4 ∨ b = g5) [(w2.heap.size, #[.int .i64 n, .slice (some ⟨g4, o4, none⟩) lf.length c4, .slice (some ⟨g5, o5, none⟩) lt.length c5], 27), (w.heap.size + 1, #[.int .i64 0, .slice none 0 0, .slice none 0 0], 27), (w.heap.size, #[.int .i64 n, .slice (some ⟨g, off, none⟩) lf.length c1, .slice (some ⟨g', off', none⟩) lt.length c2], 27)] := ⟨by simp only; omega, by simp only; omega, by simp only; omega, trivial⟩
          have N1 := Lib.hid (hm.chg ch1 (fun b h => by omega) hoI hoB)
          have N2 := Lib.hid (hm.chg ch2 (fun b h => by omega) hoI hoB)
          have V4 := Lib.hid (hst4.setFar (p := ⟨g5, o5 + k, none⟩) (fun q hq e => by rw [hbk4] at hq; simp at hq e; omega) (.int .i64 fa))
          have v5 := ((hi2.setFar (p := ⟨g4, o4 + k, none⟩) (fun q hq e => by rw [hbk5] at hq; simp at hq e; omega) (.int .i64 ta)).set (show k < (revK lt lf x k).length by rw [revK_len]; exact hlt2) fa).1
          rw [show (revK lt lf x k).set k fa = revK lt lf x (k + 1) from by rw [← hfa]; exact revK_set hlt2 (by rw [hfa, hta]; exact hcond.symm)] at v5
          have V5 := Lib.hid v5
          have K0 := Lib.hid (rev_hold hm hlt hlt2 hfa hta)
          have K1 := Lib.hid (rev_hold N1.out hlt hlt2 hfa hta)
          have K2 := Lib.hid (rev_hold N2.out hlt hlt2 hfa hta)
          obtain ⟨n0, n1, n2⟩ := blk3 HM.out.b0
          have hb : (fa == x) = true ∨ (fa == x) = false ∧ (ta == x) = true := by
            rcases Decidable.em (fa = x) with h | h
            · left; simpa using h
            · right; exact ⟨by simpa using h, by simpa using hcond.resolve_left h⟩
          have hc5' : (wr.setCell ⟨g4, o4 + k, none⟩ (.int .i64 ta)).cell? ⟨g5, o5 + k, none⟩ = wr.cell? ⟨g5, o5 + k, none⟩ := World.cell?_setCell_other _ _ _ _ (fun e => by have := congrArg Addr.block e; simp only at this; omega)
          have hc5'' := hc5'.trans hc5
          have hz5' : ((wr.setCell ⟨g4, o4 + k, none⟩ (.int .i64 ta))).frozen? ⟨g5, o5 + k, none⟩ = false := by simpa using hz5
          have HC := Lib.hid hcond
          clear ch1 ch2 hoI hoB hm hst4 hst5 v5 hi1 hi2 hcond hfa hta hbk4 hbk5 hc5'
          rcases hb with hb | ⟨hb, hb'⟩
          all_goals
            go_wp2
            go_region_held3 (fun w' => w'.cell? ⟨w2.heap.size, 1, none⟩ = some (.slice (some ⟨g4, o4, none⟩) lf.length c4) ∧ w'.cell? ⟨w2.heap.size, 2, none⟩ = some (.slice (some ⟨g5, o5, none⟩) lt.length c5) ∧ w'.cell? ⟨w.heap.size, 1, none⟩ = some (.slice (some ⟨g, off, none⟩) lf.length c1) ∧ w'.cell? ⟨w.heap.size, 2, none⟩ = some (.slice (some ⟨g', off', none⟩) lt.length c2) ∧ w'.cell? ⟨g, off + k, none⟩ = some (.int .i64 fa) ∧ w'.cell? ⟨g', off' + k, none⟩ = some (.int .i64 ta))
              (first | exact K0.out | exact K1.out | exact K2.out)
              (fail)
            go_wp2
            go_roundw
            case rel => exact ⟨k + 1, by omega, by go_num, V4.out, V5.out, N2.out.drew⟩
            case measure => simp [intOf]; omega
        · have hb : (fa == x) = false := by simp; exact fun h => hcond (.inl h)
          have hb' : (ta == x) = false := by simp; exact fun h => hcond (.inr h)
          have e4 := revK_keep (k := k) (a := lf) (b := lt) (v := x) (by rw [hfa, hta]; exact hcond)
          have e5 := revK_keep (k := k) (a := lt) (b := lf) (v := x) (by rw [hfa, hta]; exact fun h => hcond h.symm)
          rw [e4] at hi1
          rw [e5] at hi2
          have V4 := Lib.hid hi1; have V5 := Lib.hid hi2
          clear hi1 hi2 e4 e5 hm hcond hfa hta
          go_wp2
          go_roundw
          case rel => exact ⟨k + 1, by omega, by go_num, V4.out, V5.out, HM.out⟩
          case measure => simp [intOf]; omega
      · have hk' : k = lf.length := by omega
        have hkt : k = lt.length := by have := HLEN.out; omega
        have e1 : revK lf lt x k = revK lf lt x lf.length := by rw [← hk']
        have e2 : revK lt lf x k = revK lt lf x lt.length := by rw [← hkt]
        rw [e1] at hi1
        rw [e2] at hi2
        obtain ⟨n0, n1, n2⟩ := blk3 HM.out.b0
        obtain ⟨q0, q1, q2⟩ := blk3 HM.out.b1
        obtain ⟨f0, f1, f2⟩ := frz3 HM.out.b1
        have HQ := Lib.hid (quiv_ok n ⟨_, _, _, HM.out.b1⟩ (by omega) HM.out hi1 hi2 (fun q hq => by have := (hb1.out q hq).1; omega) (fun q hq => by have := (hb2.out q hq).1; omega) hd.out)
        clear hi1 hi2 hm e1 e2 hk' hkt
        go_wp2
        exact bodyPost_ret (v := .tuple #[.agg #[.int .i64 n, .slice a4 lf.length c4, .slice a5 lt.length c5], .bool true]) (by simp [results, Try.results21, go_sem, HQ.out.1.cell 0, HQ.out.1.cell 1, HQ.out.1.cell 2]) rfl HQ.out.2
set_option maxRecDepth 100000 in
set_option maxHeartbeats 2000000 in
theorem i_ReverseAt_no (n : Int) (vf vt : Value) (lf lt : List Int) (x : Int) (w : World) (hf : Ints w vf lf) (ht : Ints w vt lt) (hok : revOK n lf lt x = false) :
    Calls Try.prog 21 #[.agg #[.int .i64 n, vf, vt], .int .i64 x] w (QuivOK 0 [] [] false w) := by
  obtain ⟨a1, c1, rfl, hx1, hy1⟩ := hf.shape
  obtain ⟨a2, c2, rfl, hx2, hy2⟩ := ht.shape
  have M := Lib.hid (((((MB.start w).addI hf).addI ht).alloc #[.int .i64 n, .slice a1 lf.length c1, .slice a2 lt.length c2] 27).alloc #[.int .i64 0, .slice none 0 0, .slice none 0 0] 27)
  unfold revOK at hok
  simp only [Bool.or_eq_false_iff] at hok
  obtain ⟨hS, hS2⟩ := hok
  clear hf ht
  go_enter Try.func21, Try.ntmps21
  go_wp2_with fail
  refine (i_isSource _ _ _ lf lt _ _ M.out.i1 M.out.i0).mono ?_; rintro e w1 ⟨rfl, b1⟩
  have M1 := M.out.call b1
  simp only [World.size_alloc] at M1
  have M1 := Lib.hid M1
  clear b1
  obtain ⟨p0, p1, p2⟩ := blk3 M1.out.b1
  go_wp2_with fail
  refine (i_isSink _ _ _ lf lt _ _ M1.out.i1 M1.out.i0).mono ?_; rintro e w2 ⟨rfl, b2⟩
  have M2 := Lib.hid (M1.out.call b2)
  clear b2
  obtain ⟨q0, q1, q2⟩ := blk3 M2.out.b0
  obtain ⟨f0, f1, f2⟩ := frz3 M2.out.b0
  have HE := Lib.hid (mat_zero M2.out (by omega) (.int .i64 0) (.slice none 0 0) (.slice none 0 0))
  go_wp2
  exact bodyPost_ret (v := .tuple #[.agg #[.int .i64 0, .slice none 0 0, .slice none 0 0], .bool false]) (by simp [results, Try.results21, go_sem, HE.out.2.1, HE.out.2.2.1, HE.out.2.2.2]) rfl ⟨_, _, rfl, Ints.nil _, Ints.nil _, FreshV.nil _, FreshV.nil _, fun k h => by simp [blk] at h, HE.out.1⟩
theorem i_ReverseAt (n : Int) (vf vt : Value) (lf lt : List Int) (x : Int) (w : World) (hf : Ints w vf lf) (ht : Ints w vt lt) :
    Calls Try.prog 21 #[.agg #[.int .i64 n, vf, vt], .int .i64 x] w (QuivOK (revN n lf lt x) (revL n lf lt lf lt x) (revL n lf lt lt lf x) (revOK n lf lt x) w) := by
  cases h : revOK n lf lt x
  · exact (i_ReverseAt_no n vf vt lf lt x w hf ht h).mono fun _ _ e => e.of_eq (by simp [revN, h]) (by simp [revL, h]) (by simp [revL, h]) rfl
  · exact (i_ReverseAt_yes n vf vt lf lt x w hf ht h).mono fun _ _ e => e.of_eq (by simp [revN, h]) (by simp [revL, h]) (by simp [revL, h]) rfl

end Go.Proofs.Ytjgmiohaepcpbaa
