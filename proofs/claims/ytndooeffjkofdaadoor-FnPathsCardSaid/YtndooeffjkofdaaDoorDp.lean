/- FnPaths: l7Path: a path is drawn. -/
import Derived.Test.YtndooeffjkofdaaDoorDb
import Derived.Test.YtndooeffjkofdaaDoorAllS
import Derived.Test.YtndooeffjkofdaaDoorJoin2
namespace Go.Proofs.YtndooeffjkofdaaDoor
open Go.RowKit
set_option linter.unusedVariables false
set_option linter.unusedSimpArgs false

/-- a path was drawn -/
def DrawnP (c : Nat) (w : World) (e : Ending) (w' : World) : Prop :=
  ∃ (st : Int) (va : Value) (la : List Int), e = .returned (.agg #[.int .i64 st, va]) ∧ Ints w' va la ∧ la.length ≤ 1000 ∧ Cur w' c ∧ CChg c w w'
theorem far_path {w : World} {u : Value} {l : List Int} {g : Nat} {cs : Array Value} (h : Ints w u l) (hg : Blk w g cs 28) : ∀ k, blk u = some k → k ≠ g := by
  intro k hk e
  obtain ⟨a, cap, rfl, _, _, rfl | ⟨g2, off, cur2, rfl, hg2, _, _⟩⟩ := h
  · cases a <;> simp [blk] at hk
  · have hgk : g2 = k := by
      cases l with
      | nil => simp [blk] at hk
      | cons y l => simpa [blk] using hk
    rw [hgk, e, show w.heap[g]? = _ from hg] at hg2
    simp at hg2
theorem OwnP.chgC {w w' : World} {B c : Nat} {v : Value} {L : List Pt} (h : OwnP w B v L) (hc : Cur w c) (hg : CChg c w w') (hB : c < B) : OwnP w' B v L := by
  obtain ⟨us, ⟨h1, h2⟩, h3⟩ := h
  refine ⟨us, ⟨h1, ?_⟩, h3.keep fun u l hu hf => hu.chgC hc hg⟩
  rcases h2 with h2 | ⟨g, cap, cur, e, hb, hgg, r⟩
  · exact .inl h2
  · exact .inr ⟨g, cap, cur, e, hb, (hg.block g (Array.getElem?_eq_some_iff.1 hgg).1 (by omega)).trans hgg, r⟩
/-- a local path (block b), the result's block t; the cursor lies below -/
def PG (c B t b : Nat) (st : Int) (va : Value) (la : List Int) (w0 w : World) : Prop :=
  Blk w b #[.int .i64 st, va] 28 ∧ Res2 w t 28 ∧ Ints w va la ∧ Cur w c ∧ TChg c B w0 w ∧ (B ≤ w.heap.size ∧ B ≤ b ∧ B ≤ t ∧ t ≠ b ∧ c < B)
theorem PG.chg {c B t b : Nat} {st : Int} {va : Value} {la : List Int} {w0 w w' : World} (h : PG c B t b st va la w0 w) (hc : Cur w' c) (hg : CChg c w w') : PG c B t b st va la w0 w' := by
  obtain ⟨h1, ⟨x, y, h2⟩, h3, h4, h5, h6, h7, h8, h9, h10⟩ := h
  exact ⟨(hg.block b h1.lt (by omega)).trans h1, ⟨x, y, (hg.block t h2.lt (by omega)).trans h2⟩, h3.chgC h4 hg, hc, h5.trans (TChg.of_c hg), Nat.le_trans h6 hg.size, h7, h8, h9, h10⟩
theorem PG.below {c B t b : Nat} {st : Int} {va : Value} {la : List Int} {w0 w w' : World} (h : PG c B t b st va la w0 w) (hg : Below w.heap.size w w') : PG c B t b st va la w0 w' := by
  obtain ⟨h1, ⟨x, y, h2⟩, h3, h4, h5, h6, h7⟩ := h
  exact ⟨h1.below hg, ⟨x, y, h2.below hg⟩, h3.below hg, h4.below hg, h5.trans (TChg.of_b (hg.mono h6)), Nat.le_trans h6 hg.size, h7⟩
theorem PG.belowB {c B t b D : Nat} {st : Int} {va : Value} {la : List Int} {w0 w w' : World} (h : PG c B t b st va la w0 w) (hg : Below D w w') (hb : b < D) (ht : t < D) (hD : B ≤ D) (hv : Ints w' va la) : PG c B t b st va la w0 w' := by
  obtain ⟨h1, ⟨x, y, h2⟩, h3, h4, h5, h6, h7, h8, h9, h10⟩ := h
  exact ⟨h1.belowB hg hb, ⟨x, y, h2.belowB hg ht⟩, hv, h4.belowB hg (by omega), h5.trans (TChg.of_b (hg.mono hD)), Nat.le_trans h6 hg.size, h7, h8, h9, h10⟩
theorem PG.store0 {c B t b : Nat} {st : Int} {va : Value} {la : List Int} {w0 w : World} (h : PG c B t b st va la w0 w) (s' : Int) : PG c B t b s' va la w0 (w.setCell ⟨b, 0, none⟩ (.int .i64 s')) := by
  obtain ⟨h1, ⟨x, y, h2⟩, h3, h4, h5, h6, h7, h8, h9, h10⟩ := h
  have hs := ((Chg.refl (fun q => q = b) w).setCell (p := ⟨b, 0, none⟩) rfl (.int .i64 s')).size
  exact ⟨h1.set 0 _, ⟨x, y, h2.setOther (p := ⟨b, 0, none⟩) (by simpa using h9) _⟩, h3.keep fun k hk => heap_setCell_other w ⟨b, 0, none⟩ k _ (by simpa using far_path h3 h1 k hk), h4.setFar (p := ⟨b, 0, none⟩) (by show c < b; omega) _, h5.setCell (p := ⟨b, 0, none⟩) h7 _, by omega, h7, h8, h9, h10⟩
theorem PG.store1 {c B t b : Nat} {st : Int} {va v' : Value} {la l' : List Int} {w0 w : World} (h : PG c B t b st va la w0 w) (hv : Ints w v' l') : PG c B t b st v' l' w0 (w.setCell ⟨b, 1, none⟩ v') := by
  obtain ⟨h1, ⟨x, y, h2⟩, h3, h4, h5, h6, h7, h8, h9, h10⟩ := h
  have hs := ((Chg.refl (fun q => q = b) w).setCell (p := ⟨b, 1, none⟩) rfl v').size
  exact ⟨h1.set 1 _, ⟨x, y, h2.setOther (p := ⟨b, 1, none⟩) (by simpa using h9) _⟩, hv.keep fun k hk => heap_setCell_other w ⟨b, 1, none⟩ k _ (by simpa using far_path hv h1 k hk), h4.setFar (p := ⟨b, 1, none⟩) (by show c < b; omega) _, h5.setCell (p := ⟨b, 1, none⟩) h7 _, by omega, h7, h8, h9, h10⟩
theorem PG.finish {c b t : Nat} {st : Int} {va : Value} {la : List Int} {w wr : World} (h : PG c w.heap.size t b st va la w wr) (hl : la.length ≤ 1000) :
    DrawnP c w (.returned (.agg #[.int .i64 st, va])) ((wr.setCell ⟨t, 0, none⟩ (.int .i64 st)).setCell ⟨t, 1, none⟩ va) ∧ Blk ((wr.setCell ⟨t, 0, none⟩ (.int .i64 st)).setCell ⟨t, 1, none⟩ va) t #[.int .i64 st, va] 28 := by
  obtain ⟨h1, ⟨x, y, h2⟩, h3, h4, h5, h6, h7, h8, h9, h10⟩ := h
  refine ⟨⟨st, va, la, rfl, set2_ints h3 (far_path h3 h2) _ _, hl, (h4.setFar (p := ⟨t, 0, none⟩) (by show c < t; omega) _).setFar (p := ⟨t, 1, none⟩) (by show c < t; omega) _,
    TChg.cchg ((h5.setCell (p := ⟨t, 0, none⟩) h8 _).setCell (p := ⟨t, 1, none⟩) h8 _) (Nat.le_refl _)⟩, (h2.set 0 _).set 1 _⟩
set_option maxRecDepth 100000 in
set_option maxHeartbeats 8000000 in
theorem s_l7Path (c : Nat) (n : Int) (vf vt : Value) (f t : List Int) (w : World) (hcur : Cur w c) (hf : Ints w vf f) (ht : Ints w vt t) :
    Calls Tryd.prog 29 #[.pointer (some ⟨c, 0, none⟩), .agg #[.int .i64 n, vf, vt]] w (DrawnP c w) := by
  have hcl := hcur.lt
  obtain ⟨a1, c1, rfl, hl1, hm1⟩ := hf.shape
  obtain ⟨a2, c2, rfl, hl2, hm2⟩ := ht.shape
  obtain ⟨W, hW⟩ : ∃ W, W = (w.alloc (.cells #[.int .i64 n, .slice a1 f.length c1, .slice a2 t.length c2] 26)).alloc (.cells #[.int .i64 0, .slice none 0 0] 28) := ⟨_, rfl⟩
  have hWs : W.heap.size = w.heap.size + 1 + 1 := by rw [hW]; simp
  have hWs2 : (w.alloc (.cells #[.int .i64 n, .slice a1 f.length c1, .slice a2 t.length c2] 26)).heap.size = w.heap.size + 1 := by simp
  have h2 : Below w.heap.size w W := by rw [hW]; exact ((Below.refl _ w).alloc (Nat.le_refl _) _).alloc (by simp) _
  have P0 := Lib.hid (by rw [hW]; exact (Blk.new w #[.int .i64 n, .slice a1 f.length c1, .slice a2 t.length c2] 26).below ((Below.refl _ _).alloc (Nat.le_refl _) _) : Blk W w.heap.size #[.int .i64 n, .slice a1 f.length c1, .slice a2 t.length c2] 26)
  have R0 : Hid (Blk W (w.heap.size + 1) #[.int .i64 0, .slice none 0 0] 28) := Lib.hid (by
    rw [hW]; have := Blk.new (w.alloc (.cells #[.int .i64 n, .slice a1 f.length c1, .slice a2 t.length c2] 26)) #[.int .i64 0, .slice none 0 0] 28
    rwa [hWs2] at this)
  have HF := Lib.hid (hf.below h2); have HT := Lib.hid (ht.below h2)
  have H0 := Lib.hid (And.intro (hcur.below h2) (TChg.of_b (c := c) h2))
  have p := blk3 P0.out
  rw [hW] at p
  obtain ⟨p0, p1, p2⟩ := p
  have HWs := Lib.hid hWs
  have HW := Lib.hid hW
  clear hf ht hcur h2 hWs hWs2 hW
  go_enter Tryd.func29, Tryd.ntmps29
  go_wp2_with fail
  rw [← HW.out]
  refine (s_AllPaths n _ _ f t _ HF.out HT.out).mono ?_; rintro e w1 ⟨v, rfl, hv, b1⟩
  obtain ⟨L, hL⟩ : ∃ L, L = allR2 n f t := ⟨_, rfl⟩
  rw [← hL] at hv
  have HL := Lib.hid hL
  have hsm : L.length ≤ 588245 := by rw [hL]; exact allR2_small
  obtain ⟨av, cv, rfl, hvl, hvm⟩ := hv.shape
  have HV := Lib.hid hv
  have hs1 := b1.size
  have hsz1 : w.heap.size + 2 ≤ w1.heap.size := by have := HWs.out; omega
  have R1 := Lib.hid (R0.out.below b1)
  have H1 := Lib.hid (And.intro (H0.out.1.below b1) (H0.out.2.trans (TChg.of_b (b1.mono (by have := HWs.out; omega)))))
  clear hL hv b1 p0 p1 p2
  go_wp2_with fail
  refine (s_l1Below c _ _ H1.out.1).mono ?_; rintro e w2 ⟨x, hx, rfl, hc2, hg2⟩
  have V2 := Lib.hid (HV.out.chgC H1.out.1 hg2 (by have := HWs.out; omega))
  have hs2 := hg2.size
  have Q2 : Hid (PG c w.heap.size (w.heap.size + 1) w2.heap.size x (.slice none 0 0) [] w (w2.alloc (.cells #[.int .i64 x, .slice none 0 0] 28))) := by
    have ba : Below w2.heap.size w2 (w2.alloc (.cells #[.int .i64 x, .slice none 0 0] 28)) := (Below.refl _ w2).alloc (Nat.le_refl _) _
    exact ⟨Blk.new w2 _ _, ⟨_, _, (show Blk w2 (w.heap.size + 1) #[.int .i64 0, .slice none 0 0] 28 from (hg2.block _ (by omega) (by omega)).trans R1.out).below ba⟩, Ints.nil _, hc2.below ba, (H1.out.2.trans (TChg.of_c hg2)).trans (TChg.of_b (ba.mono (by omega))), by simp; omega, by omega, by omega, by omega, hcl⟩
  have V3 := Lib.hid (V2.out.below ((Below.refl _ w2).alloc (Nat.le_refl _) (.cells #[.int .i64 x, .slice none 0 0] 28)))
  obtain ⟨b, hb⟩ : ∃ b, b = w2.heap.size := ⟨_, rfl⟩
  rw [← hb] at Q2
  clear hc2 hg2 hx
  have HBb := Lib.hid hb
  clear hb
  have HL2 := Lib.hid (show ordOK n f t = true → 0 < L.length ∧ ∀ i, i < L.length → (L.getD i (0, [])).2.length ≤ 6 from fun h => by
    refine ⟨?_, fun i hi => by rw [HL.out] at hi ⊢; exact allR2_arr hi⟩
    rw [HL.out]
    unfold allR2
    rw [if_pos h]
    obtain ⟨_, h1, _, _⟩ := isQ_l62 h
    obtain ⟨k, hk⟩ : ∃ k, n.toNat = k + 1 := ⟨n.toNat - 1, by omega⟩
    rw [hk, allP_succ, List.length_append]
    have := pP_pos f t 6 (k : Int)
    omega)
  obtain ⟨u0, u1⟩ := blk2 Q2.out.1
  cases hok : ordOK n f t
  case' true =>
    obtain ⟨hpos, har⟩ := HL2.out hok
    have HAR := Lib.hid har
    clear hok har
    go_wp2_with fail
    simp only [← HBb.out]
    generalize w2.alloc (.cells #[.int .i64 x, .slice none 0 0] 28) = w3 at Q2 V3 u0 u1 ⊢
    refine (s_l1Below c _ _ Q2.out.2.2.2.1).mono ?_; rintro e w4 ⟨r, hr, rfl, hc4, hg4⟩
    obtain ⟨r0, r1⟩ : 0 ≤ r ∧ r < (L.length : Int) := by rcases hr with h | h <;> omega
    obtain ⟨k, rfl⟩ := Int.eq_ofNat_of_zero_le r0
    have hkl : k < L.length := by omega
    have V4 := Lib.hid (V3.out.chgC Q2.out.2.2.2.1 hg4 (by have := HWs.out; omega))
    have Q4 := Lib.hid (Q2.out.chg hc4 hg4)
    obtain ⟨g, u, rfl, _, hgs, hcc0, hcc1, hu, _⟩ := V4.out.cell hkl
    have hal := HAR.out k hkl
    generalize (L.getD k (0, [])).1 = st at hcc0
    generalize (L.getD k (0, [])).2 = la at hu hal
    obtain ⟨au, cu, rfl, _, _⟩ := hu.shape
    clear hc4 hg4 hr u0 u1
    obtain ⟨u0, u1⟩ := blk2 Q4.out.1
    have f0 := Q4.out.1.frozen 0; have f1 := Q4.out.1.frozen 1
    have Q5 := Lib.hid ((Q4.out.store0 st).store1 (by
      refine hu.keep fun k hk => heap_setCell_other w4 ⟨b, 0, none⟩ k _ (by simpa using far_path hu Q4.out.1 k hk)))
    go_wp2_with fail
    clear hu hcc0 hcc1 u0 u1 f0 f1 HAR V3 V4
    generalize (w4.setCell ⟨b, 0, none⟩ (.int .i64 st)).setCell ⟨b, 1, none⟩ (.slice au la.length cu) = wr at Q5 ⊢
  case' false =>
    go_wp2_with fail
    simp only [← HBb.out]
    generalize w2.alloc (.cells #[.int .i64 x, .slice none 0 0] 28) = wr at Q2 V3 u0 u1 ⊢
    have Q5 := Q2
    obtain ⟨la, hla⟩ : ∃ la : List Int, la = [] := ⟨_, rfl⟩
    obtain ⟨st, hst⟩ : ∃ st : Int, st = x := ⟨_, rfl⟩
    obtain ⟨au, hau⟩ : ∃ au : Option Addr, au = none := ⟨_, rfl⟩
    obtain ⟨cu, hcu⟩ : ∃ cu : Nat, cu = 0 := ⟨_, rfl⟩
    have hal : la.length ≤ 6 := by rw [hla]; simp
    have Q5 : Hid (PG c w.heap.size (w.heap.size + 1) b st (.slice au la.length cu) la w wr) := by rw [hla, hst, hau, hcu]; exact Q2
    clear u0 u1 hok hla hst hau hcu Q2 V3
  all_goals
    refine (s_l1Below c _ _ Q5.out.2.2.2.1).mono ?_; rintro e w6 ⟨m, hm, rfl, hc6, hg6⟩
    have Q6 := Lib.hid (Q5.out.chg hc6 hg6)
    have hB6 : w.heap.size ≤ w6.heap.size := Q6.out.2.2.2.2.2.1
    have hne1 : ¬ w.heap.size + 1 = b := Q6.out.2.2.2.2.2.2.2.2.1
    have hne2 : ¬ b = w.heap.size + 1 := fun e => hne1 e.symm
    clear hc6 hg6 hm Q5
    obtain ⟨u0, u1⟩ := blk2 Q6.out.1
    by_cases e0 : m = 0
    · subst e0
      have ba : Below w6.heap.size w6 (w6.alloc (.cells #[] 3)) := (Below.refl _ w6).alloc (Nat.le_refl _) _
      have Q7 := Lib.hid (Q6.out.below ba)
      have HBA := Lib.hid ba
      clear ba
      obtain ⟨u2, u3⟩ := blk2 Q7.out.1
      go_wp2_with (at_builtin; refine app_any2 (w6.alloc (.cells #[] 3)) rfl (.tmp 28) (.tmp 30) rfl w6.heap.size _ _ [] la rfl rfl (Own.made w6 3 .i64 (Nat.le_refl _)) Q7.out.2.2.1 (by simp) (by simp; omega) ?_)
      intro v8 w8 ho8 hg8 hloc8
      have b8 : Below w6.heap.size w6 w8 := Below.grown HBA.out hg8 (by simp) (fun k hk => by simp [Value.ownBlock] at hk; omega)
      have Q8 := Lib.hid (Q6.out.below b8)
      obtain ⟨a8, c8, rfl, _, _⟩ := (Ints.of_own ho8).1.shape
      have O8 := Lib.hid ho8
      have hs8 := b8.size
      clear hg8 hloc8 ho8 b8 u0 u1 u2 u3 Q7 HBA
      obtain ⟨u0, u1⟩ := blk2 Q8.out.1
      go_wp2_with fail
      refine (s_l1Below c _ _ Q8.out.2.2.2.1).mono ?_; rintro e w9 ⟨r, hr, rfl, hc9, hg9⟩
      have hr2 : 0 ≤ r ∧ r < 8 := by rcases hr with h | h <;> omega
      have Q9 := Lib.hid (Q8.out.chg hc9 hg9)
      have O9 := Lib.hid (O8.out.chg hg9 (by omega))
      have hs9 := hg9.size
      clear hc9 hg9 hr u0 u1
      have b10 : Below w9.heap.size w9 (w9.alloc (.cells #[.int .i64 (r - 1)] 3)) := (Below.refl _ w9).alloc (Nat.le_refl _) _
      have HB10 := Lib.hid (b10.mono (show w6.heap.size ≤ w9.heap.size by omega))
      have Q10 := Lib.hid (Q9.out.below b10)
      obtain ⟨u0, u1⟩ := blk2 Q9.out.1
      obtain ⟨u2, u3⟩ := blk2 Q10.out.1
      clear b10
      go_wp2_with (at_builtin; refine app_any2 (w9.alloc (.cells #[.int .i64 (r - 1)] 3)) rfl (.tmp 31) (.tmp 35) rfl w6.heap.size _ _ la [r - 1] rfl rfl (O9.out.alloc _) (Ints.of_own (own_1 w9 (r - 1))).1 (by simp; omega) (by simp; omega) ?_)
      intro v11 w11 ho11 hg11 hloc11
      have bb : Below w6.heap.size (w9.alloc (.cells #[.int .i64 (r - 1)] 3)) w11 := Below.grown (Below.refl _ _) hg11 (by simp; omega) (fun k hk => (World.ownsRow.lt O9.out k hk).1)
      have hi11 := (Ints.of_own ho11).1
      have hlt6 := Q6.out.2.2.1.lt
      have Q11 := Lib.hid (Q10.out.belowB bb Q6.out.1.lt (by obtain ⟨_, _, h2⟩ := Q6.out.2.1; exact h2.lt) hB6 (Q10.out.2.2.1.belowB bb hlt6))
      obtain ⟨a11, c11, rfl, _, _⟩ := hi11.shape
      rw [List.length_append] at hi11 ⊢
      have Q12 : Hid (PG c w.heap.size (w.heap.size + 1) b st (.slice a11 (la.length + 1) c11) (la ++ [r - 1]) w (w11.setCell ⟨b, 1, none⟩ (.slice a11 (la.length + 1) c11))) := Lib.hid (Q11.out.store1 hi11)
      clear u0 u1 u2 u3 bb hg11 hloc11 ho11
      obtain ⟨u0, u1⟩ := blk2 Q11.out.1
      have f1 := Q11.out.1.frozen 1
      obtain ⟨y0, y1, q0, q1, t0, t1⟩ := Q11.out.2.1.open_
      have HX := Lib.hid (Q12.out.finish (by simp; omega))
      clear hi11
      go_wp2
      refine bodyPost_ret (v := .agg #[.int .i64 st, .slice a11 (la.length + 1) c11]) (by simp [results, Tryd.results29, go_sem, HX.out.2.cell 0, HX.out.2.cell 1]) rfl ?_
      exact HX.out.1
    by_cases e1 : m = 1
    · subst e1
      go_wp2_with fail
      refine (s_l1Below c _ _ Q6.out.2.2.2.1).mono ?_; rintro e w9 ⟨r, hr, rfl, hc9, hg9⟩
      have hr2 : 0 ≤ r ∧ r < 6 := by rcases hr with h | h <;> omega
      have Q9 := Lib.hid (Q6.out.chg hc9 hg9)
      clear hc9 hg9 hr u0 u1
      obtain ⟨u0, u1⟩ := blk2 Q9.out.1
      have f0 := Q9.out.1.frozen 0
      have Q10 := Lib.hid (Q9.out.store0 (r - 1))
      obtain ⟨y0, y1, q0, q1, t0, t1⟩ := Q9.out.2.1.open_
      have HX := Lib.hid (Q10.out.finish (by omega))
      go_wp2
      refine bodyPost_ret (v := .agg #[.int .i64 (r - 1), .slice au la.length cu]) (by simp [results, Tryd.results29, go_sem, HX.out.2.cell 0, HX.out.2.cell 1]) rfl ?_
      exact HX.out.1
    have ex0 : (m == 0) = false := by simpa using e0
    have ex1 : (m == 1) = false := by simpa using e1
    obtain ⟨y0, y1, q0, q1, t0, t1⟩ := Q6.out.2.1.open_
    have HX := Lib.hid (Q6.out.finish (by omega))
    go_wp2
    refine bodyPost_ret (v := .agg #[.int .i64 st, .slice au la.length cu]) (by simp [results, Tryd.results29, go_sem, HX.out.2.cell 0, HX.out.2.cell 1]) rfl ?_
    exact HX.out.1
end Go.Proofs.YtndooeffjkofdaaDoor
