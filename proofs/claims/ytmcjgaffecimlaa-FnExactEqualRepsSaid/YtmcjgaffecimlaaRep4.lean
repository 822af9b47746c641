/- Representations: the laws' copy. -/
import Derived.Test.YtmcjgaffecimlaaRep3
namespace Go.Proofs.Ytmcjgaffecimlaa
open Go.RowKit
set_option linter.unusedVariables false
set_option linter.unusedSimpArgs false

def RepNew (P n : Int) (lf lt ld : List Int) (L : List Mt) (w : World) (e : Ending) (w' : World) : Prop :=
  ∃ vf vt vd vm, e = .returned (.agg #[.int .i64 P, .int .i64 n, vf, vt, vd, vm]) ∧ Ints w' vf lf ∧ Ints w' vt lt ∧ Ints w' vd ld ∧ MatS w' vm L ∧ Below w.heap.size w w'
theorem Ints.setLow {w : World} {B : Nat} {v : Value} {l : List Int} (h : Ints w v l) (hf : FreshV B v) {b : Nat} (hb : b < B) (j : Nat) (x : Value) : Ints (w.setCell ⟨b, j, none⟩ x) v l :=
  h.keep fun q hq => heap_setCell_other w ⟨b, j, none⟩ q x (by have := hf q hq; show q ≠ b; omega)
set_option maxRecDepth 100000 in
set_option maxHeartbeats 4000000 in
theorem l_toRep (P n : Int) (vf vt vd vm : Value) (lf lt ld : List Int) (L : List Mt) (w : World) (hf : Raw w vf lf) (ht : Raw w vt lt) (hd : Raw w vd ld) (hm : RawM w vm L) (hs : totR lf lt ld L ≤ 1048576) :
    Calls Try.prog 23 #[.agg #[.int .i64 P, .int .i64 n, vf, vt, vd, vm]] w (RepNew P n lf lt ld L w) := by
  unfold totR at hs
  obtain ⟨a1, c1, rfl, _, _⟩ := hf.shape
  obtain ⟨a2, c2, rfl, _, _⟩ := ht.shape
  obtain ⟨a3, c3, rfl, _, _⟩ := hd.shape
  obtain ⟨a4, c4, rfl, _, _⟩ := hm.shape
  have hbA : Below w.heap.size w (w.alloc (.cells #[.int .i64 P, .int .i64 n, .slice a1 lf.length c1, .slice a2 lt.length c2, .slice a3 ld.length c3, .slice a4 L.length c4] 47)) := (Below.refl _ w).alloc (Nat.le_refl _) _
  have hPA := Blk.new w #[.int .i64 P, .int .i64 n, .slice a1 lf.length c1, .slice a2 lt.length c2, .slice a3 ld.length c3, .slice a4 L.length c4] 47
  obtain ⟨WA, hWA⟩ : ∃ WA, WA = w.alloc (.cells #[.int .i64 P, .int .i64 n, .slice a1 lf.length c1, .slice a2 lt.length c2, .slice a3 ld.length c3, .slice a4 L.length c4] 47) := ⟨_, rfl⟩
  have hszA : WA.heap.size = w.heap.size + 1 := by rw [hWA]; simp
  rw [← hWA] at hbA hPA
  have hbB : Below WA.heap.size WA (WA.alloc (.cells #[.int .i64 0, .int .i64 0, .slice none 0 0, .slice none 0 0, .slice none 0 0, .slice none 0 0] 53)) := (Below.refl _ _).alloc (Nat.le_refl _) _
  have hRB := Blk.new WA #[.int .i64 0, .int .i64 0, .slice none 0 0, .slice none 0 0, .slice none 0 0, .slice none 0 0] 53
  have hPB := hPA.below hbB
  obtain ⟨WB, hWB⟩ : ∃ WB, WB = WA.alloc (.cells #[.int .i64 0, .int .i64 0, .slice none 0 0, .slice none 0 0, .slice none 0 0, .slice none 0 0] 53) := ⟨_, rfl⟩
  have hszB : WB.heap.size = w.heap.size + 2 := by rw [hWB]; simp; omega
  rw [← hWB] at hbB hRB hPB
  have hbC : Below WB.heap.size WB (WB.alloc (.cells #[.int .i64 P, .int .i64 0, .slice none 0 0, .slice none 0 0, .slice none 0 0, .slice none 0 0] 53)) := (Below.refl _ _).alloc (Nat.le_refl _) _
  have hQC := Blk.new WB #[.int .i64 P, .int .i64 0, .slice none 0 0, .slice none 0 0, .slice none 0 0, .slice none 0 0] 53
  have hPC := hPB.below hbC
  have hRC := hRB.below hbC
  obtain ⟨WC, hWC⟩ : ∃ WC, WC = WB.alloc (.cells #[.int .i64 P, .int .i64 0, .slice none 0 0, .slice none 0 0, .slice none 0 0, .slice none 0 0] 53) := ⟨_, rfl⟩
  have hszC : WC.heap.size = w.heap.size + 3 := by rw [hWC]; simp; omega
  rw [← hWC] at hbC hQC hPC hRC
  rw [hszA] at hRC
  rw [hszB] at hQC
  have hbAC := hbA.trans ((hbB.trans (hbC.mono hbB.size)).mono hbA.size)
  have HBC := Lib.hid hbAC
  have HF := Lib.hid (And.intro (hf.below hbAC) (And.intro (ht.below hbAC) (And.intro (hd.below hbAC) (hm.below hbAC))))
  obtain ⟨b, hb⟩ : ∃ b, b = w.heap.size + 1 + 1 := ⟨_, rfl⟩
  have hQC : Blk WC b #[.int .i64 P, .int .i64 0, .slice none 0 0, .slice none 0 0, .slice none 0 0, .slice none 0 0] 53 := by rw [hb]; exact hQC
  have hb3 : w.heap.size + 2 ≤ b := by omega
  have hb4 : b < WC.heap.size := by omega
  have hbl : w.heap.size + 1 < b := by omega
  have HPC := Lib.hid hPC; have HRC := Lib.hid hRC; have HQC := Lib.hid hQC
  have HWC := Lib.hid (hWC.trans (by rw [hWB, hWA]))
  have HBb := Lib.hid hb
  have HS := Lib.hid hs
  have hl1 : lf.length ≤ 1048576 := by omega
  have hl2 : lt.length ≤ 1048576 := by omega
  have hl3 : ld.length ≤ 1048576 := by omega
  have hl4 : szT (mtR L) ≤ 1048576 := by omega
  have HD0 := Lib.hid (And.intro hd hm)
  clear hf ht hd hm hbA hPA hWA hszA hbB hRB hPB hWB hszB hbC hQC hPC hRC hWC hszC hbAC hb hs
  go_enter Try.func23, Try.ntmps23
  go_wp2_with fail
  rw [← HBb.out, ← HWC.out]
  refine (l_toQuiver n _ _ lf lt WC HF.out.1 HF.out.2.1 hl1 hl2).mono ?_; rintro e w1 ⟨vf1, vt1, rfl, h1, h2, f1, f2, _, b1⟩
  obtain ⟨e1, g1, rfl, _, _⟩ := h1.shape
  obtain ⟨e2, g2, rfl, _, _⟩ := h2.shape
  have hQ1 := HQC.out.below b1
  have hbox : ∀ j y, (#[Value.int .i64 P, .int .i64 n, .slice a1 lf.length c1, .slice a2 lt.length c2, .slice a3 ld.length c3, .slice a4 L.length c4] : Array Value)[j]? = some y →
      (((w1.setCell ⟨b, 1, none⟩ (.int .i64 n)).setCell ⟨b, 2, none⟩ (.slice e1 lf.length g1)).setCell ⟨b, 3, none⟩ (.slice e2 lt.length g2)).cell? ⟨w.heap.size, j, none⟩ = some y := fun j y hy => by
    have := ((((HPC.out.below b1).setOther (p := ⟨b, 1, none⟩) (show w.heap.size ≠ b by omega) (.int .i64 n)).setOther (p := ⟨b, 2, none⟩) (show w.heap.size ≠ b by omega) (.slice e1 lf.length g1)).setOther (p := ⟨b, 3, none⟩) (show w.heap.size ≠ b by omega) (.slice e2 lt.length g2)).cell j
    rw [this]; exact hy
  have k4 := hbox 4 _ rfl
  have q0 := hQ1.cell 0; have q1 := hQ1.cell 1; have q2 := hQ1.cell 2; have q3 := hQ1.cell 3
  simp only [List.getElem?_toArray, List.getElem?_cons_succ, List.getElem?_cons_zero] at q0 q1 q2 q3
  have z1 := hQ1.frozen 1; have z2 := hQ1.frozen 2; have z3 := hQ1.frozen 3
  go_wp2_with fail
  obtain ⟨W1, hW1⟩ : ∃ W1, W1 = ((w1.setCell ⟨b, 1, none⟩ (.int .i64 n)).setCell ⟨b, 2, none⟩ (.slice e1 lf.length g1)).setCell ⟨b, 3, none⟩ (.slice e2 lt.length g2) := ⟨_, rfl⟩
  rw [← hW1]
  have HQ1 : Hid (Blk W1 b #[.int .i64 P, .int .i64 n, .slice e1 lf.length g1, .slice e2 lt.length g2, .slice none 0 0, .slice none 0 0] 53) := by
    rw [hW1]; exact ((hQ1.set 1 (.int .i64 n)).set 2 (.slice e1 lf.length g1)).set 3 (.slice e2 lt.length g2)
  have HP1 : Hid (Blk W1 w.heap.size #[.int .i64 P, .int .i64 n, .slice a1 lf.length c1, .slice a2 lt.length c2, .slice a3 ld.length c3, .slice a4 L.length c4] 47) := by
    rw [hW1]; exact (((HPC.out.below b1).setOther (p := ⟨b, 1, none⟩) (show w.heap.size ≠ b by omega) _).setOther (p := ⟨b, 2, none⟩) (show w.heap.size ≠ b by omega) _).setOther (p := ⟨b, 3, none⟩) (show w.heap.size ≠ b by omega) _
  have HR1 : Hid (Blk W1 (w.heap.size + 1) #[.int .i64 0, .int .i64 0, .slice none 0 0, .slice none 0 0, .slice none 0 0, .slice none 0 0] 53) := by
    rw [hW1]; exact (((HRC.out.below b1).setOther (p := ⟨b, 1, none⟩) (show w.heap.size + 1 ≠ b by omega) _).setOther (p := ⟨b, 2, none⟩) (show w.heap.size + 1 ≠ b by omega) _).setOther (p := ⟨b, 3, none⟩) (show w.heap.size + 1 ≠ b by omega) _
  have HB1 : Hid (Below w.heap.size w W1) := by
    rw [hW1]; exact (((below_call HBC.out b1 HBC.out.size).setCell (p := ⟨b, 1, none⟩) (show w.heap.size ≤ b by omega) _).setCell (p := ⟨b, 2, none⟩) (show w.heap.size ≤ b by omega) _).setCell (p := ⟨b, 3, none⟩) (show w.heap.size ≤ b by omega) _
  have HI1 : Hid (Ints W1 (.slice e1 lf.length g1) lf ∧ Ints W1 (.slice e2 lt.length g2) lt) := by
    rw [hW1]; exact ⟨((h1.setLow f1 hb4 1 _).setLow f1 hb4 2 _).setLow f1 hb4 3 _, ((h2.setLow f2 hb4 1 _).setLow f2 hb4 2 _).setLow f2 hb4 3 _⟩
  have HFR := Lib.hid (And.intro f1 f2)
  have hszW : WC.heap.size ≤ W1.heap.size := by
    rw [hW1]
    exact Nat.le_trans b1.size ((((Chg.refl (fun q => q = b) w1).setCell (p := ⟨b, 1, none⟩) rfl (.int .i64 n)).setCell (p := ⟨b, 2, none⟩) rfl (.slice e1 lf.length g1)).setCell (p := ⟨b, 3, none⟩) rfl (.slice e2 lt.length g2)).size
  clear h1 h2 f1 f2 b1 hQ1 hbox k4 q0 q1 q2 q3 z1 z2 z3 hW1
  refine (l_toIntS _ ld W1 (HD0.out.1.below HB1.out) hl3).mono ?_; rintro e w2 ⟨vd1, rfl, h3, f3, b2⟩
  obtain ⟨e3, g3, rfl, _, _⟩ := h3.shape
  have hQ2 := HQ1.out.below b2
  have k5 := ((HP1.out.below b2).setOther (p := ⟨b, 4, none⟩) (show w.heap.size ≠ b by omega) (.slice e3 ld.length g3)).cell 5
  have q4 := hQ2.cell 4
  simp only [List.getElem?_toArray, List.getElem?_cons_succ, List.getElem?_cons_zero] at q4 k5
  have z4 := hQ2.frozen 4
  go_wp2_with fail
  obtain ⟨W2, hW2⟩ : ∃ W2, W2 = w2.setCell ⟨b, 4, none⟩ (.slice e3 ld.length g3) := ⟨_, rfl⟩
  rw [← hW2]
  have HQ2 : Hid (Blk W2 b #[.int .i64 P, .int .i64 n, .slice e1 lf.length g1, .slice e2 lt.length g2, .slice e3 ld.length g3, .slice none 0 0] 53) := by
    rw [hW2]; exact hQ2.set 4 (.slice e3 ld.length g3)
  have HR2 : Hid (Blk W2 (w.heap.size + 1) #[.int .i64 0, .int .i64 0, .slice none 0 0, .slice none 0 0, .slice none 0 0, .slice none 0 0] 53) := by
    rw [hW2]; exact (HR1.out.below b2).setOther (p := ⟨b, 4, none⟩) (show w.heap.size + 1 ≠ b by omega) _
  have HB2 : Hid (Below w.heap.size w W2) := by
    rw [hW2]; exact (below_call HB1.out b2 HB1.out.size).setCell (p := ⟨b, 4, none⟩) (show w.heap.size ≤ b by omega) _
  have hbW1 : b < W1.heap.size := by omega
  have HI2 : Hid (Ints W2 (.slice e1 lf.length g1) lf ∧ Ints W2 (.slice e2 lt.length g2) lt ∧ Ints W2 (.slice e3 ld.length g3) ld) := by
    rw [hW2]; exact ⟨(HI1.out.1.below b2).setLow HFR.out.1 hb4 4 _, (HI1.out.2.below b2).setLow HFR.out.2 hb4 4 _, h3.setLow f3 hbW1 4 _⟩
  have HF3 := Lib.hid f3
  have hszX : W1.heap.size ≤ W2.heap.size := by
    rw [hW2]
    exact Nat.le_trans b2.size ((Chg.refl (fun q => q = b) w2).setCell (p := ⟨b, 4, none⟩) rfl (.slice e3 ld.length g3)).size
  clear h3 f3 b2 hQ2 k5 q4 z4 hW2
  refine (l_toMatrixS _ L W2 (HD0.out.2.below HB2.out) hl4).mono ?_; rintro e w3 ⟨vm1, rfl, h4, b3⟩
  obtain ⟨e4, g4, rfl, _, _⟩ := h4.mats.shape
  have hQ3 := HQ2.out.below b3
  have q5 := hQ3.cell 5
  simp only [List.getElem?_toArray, List.getElem?_cons_succ, List.getElem?_cons_zero] at q5
  have z5 := hQ3.frozen 5
  obtain ⟨W3, hW3⟩ : ∃ W3, W3 = w3.setCell ⟨b, 5, none⟩ (.slice e4 L.length g4) := ⟨_, rfl⟩
  have HQ3 : Hid (Blk W3 b #[.int .i64 P, .int .i64 n, .slice e1 lf.length g1, .slice e2 lt.length g2, .slice e3 ld.length g3, .slice e4 L.length g4] 53) := by
    rw [hW3]; exact hQ3.set 5 (.slice e4 L.length g4)
  have HR3 : Hid (Blk W3 (w.heap.size + 1) #[.int .i64 0, .int .i64 0, .slice none 0 0, .slice none 0 0, .slice none 0 0, .slice none 0 0] 53) := by
    rw [hW3]; exact (HR2.out.below b3).setOther (p := ⟨b, 5, none⟩) (show w.heap.size + 1 ≠ b by omega) _
  have HB3 : Hid (Below w.heap.size w W3) := by
    rw [hW3]; exact (below_call HB2.out b3 HB2.out.size).setCell (p := ⟨b, 5, none⟩) (show w.heap.size ≤ b by omega) _
  have hbW2 : b < W2.heap.size := by omega
  have HI3 : Hid (Ints W3 (.slice e1 lf.length g1) lf ∧ Ints W3 (.slice e2 lt.length g2) lt ∧ Ints W3 (.slice e3 ld.length g3) ld) := by
    rw [hW3]; exact ⟨(HI2.out.1.below b3).setLow HFR.out.1 hb4 5 _, (HI2.out.2.1.below b3).setLow HFR.out.2 hb4 5 _, (HI2.out.2.2.below b3).setLow HF3.out hbW1 5 _⟩
  have HM3 : Hid (MatF W2.heap.size W3 (.slice e4 L.length g4) L) := by
    rw [hW3]; exact h4.set hbW2 5 _
  have HW3 := Lib.hid hW3
  clear h4 b3 hQ3 hW3
  go_upto_region 6 with fail
  rw [← HW3.out]
  clear q5 z5
  obtain ⟨p0, p1, p2, p3, p4, p5⟩ := blk6 HQ3.out
  obtain ⟨r0, r1, r2, r3, r4, r5⟩ := blk6 HR3.out
  have y0 := HR3.out.frozen 0; have y1 := HR3.out.frozen 1; have y2 := HR3.out.frozen 2; have y3 := HR3.out.frozen 3; have y4 := HR3.out.frozen 4; have y5 := HR3.out.frozen 5
  have hbR1 : w.heap.size + 1 < WC.heap.size := by omega
  have HX : Hid (Blk ((((((W3.setCell ⟨w.heap.size + 1, 0, none⟩ (.int .i64 P)).setCell ⟨w.heap.size + 1, 1, none⟩ (.int .i64 n)).setCell ⟨w.heap.size + 1, 2, none⟩ (.slice e1 lf.length g1)).setCell ⟨w.heap.size + 1, 3, none⟩ (.slice e2 lt.length g2)).setCell ⟨w.heap.size + 1, 4, none⟩ (.slice e3 ld.length g3)).setCell ⟨w.heap.size + 1, 5, none⟩ (.slice e4 L.length g4)) (w.heap.size + 1) #[.int .i64 P, .int .i64 n, .slice e1 lf.length g1, .slice e2 lt.length g2, .slice e3 ld.length g3, .slice e4 L.length g4] 53) := ((((((HR3.out.set 0 (.int .i64 P)).set 1 (.int .i64 n)).set 2 (.slice e1 lf.length g1)).set 3 (.slice e2 lt.length g2)).set 4 (.slice e3 ld.length g3)).set 5 (.slice e4 L.length g4))
  have HY : Hid (Below w.heap.size w ((((((W3.setCell ⟨w.heap.size + 1, 0, none⟩ (.int .i64 P)).setCell ⟨w.heap.size + 1, 1, none⟩ (.int .i64 n)).setCell ⟨w.heap.size + 1, 2, none⟩ (.slice e1 lf.length g1)).setCell ⟨w.heap.size + 1, 3, none⟩ (.slice e2 lt.length g2)).setCell ⟨w.heap.size + 1, 4, none⟩ (.slice e3 ld.length g3)).setCell ⟨w.heap.size + 1, 5, none⟩ (.slice e4 L.length g4))) := ((((((HB3.out.setCell (p := ⟨w.heap.size + 1, 0, none⟩) (show w.heap.size ≤ w.heap.size + 1 by omega) (.int .i64 P)).setCell (p := ⟨w.heap.size + 1, 1, none⟩) (show w.heap.size ≤ w.heap.size + 1 by omega) (.int .i64 n)).setCell (p := ⟨w.heap.size + 1, 2, none⟩) (show w.heap.size ≤ w.heap.size + 1 by omega) (.slice e1 lf.length g1)).setCell (p := ⟨w.heap.size + 1, 3, none⟩) (show w.heap.size ≤ w.heap.size + 1 by omega) (.slice e2 lt.length g2)).setCell (p := ⟨w.heap.size + 1, 4, none⟩) (show w.heap.size ≤ w.heap.size + 1 by omega) (.slice e3 ld.length g3)).setCell (p := ⟨w.heap.size + 1, 5, none⟩) (show w.heap.size ≤ w.heap.size + 1 by omega) (.slice e4 L.length g4))
  have HZ : Hid (Ints ((((((W3.setCell ⟨w.heap.size + 1, 0, none⟩ (.int .i64 P)).setCell ⟨w.heap.size + 1, 1, none⟩ (.int .i64 n)).setCell ⟨w.heap.size + 1, 2, none⟩ (.slice e1 lf.length g1)).setCell ⟨w.heap.size + 1, 3, none⟩ (.slice e2 lt.length g2)).setCell ⟨w.heap.size + 1, 4, none⟩ (.slice e3 ld.length g3)).setCell ⟨w.heap.size + 1, 5, none⟩ (.slice e4 L.length g4)) (.slice e1 lf.length g1) lf ∧ Ints ((((((W3.setCell ⟨w.heap.size + 1, 0, none⟩ (.int .i64 P)).setCell ⟨w.heap.size + 1, 1, none⟩ (.int .i64 n)).setCell ⟨w.heap.size + 1, 2, none⟩ (.slice e1 lf.length g1)).setCell ⟨w.heap.size + 1, 3, none⟩ (.slice e2 lt.length g2)).setCell ⟨w.heap.size + 1, 4, none⟩ (.slice e3 ld.length g3)).setCell ⟨w.heap.size + 1, 5, none⟩ (.slice e4 L.length g4)) (.slice e2 lt.length g2) lt ∧ Ints ((((((W3.setCell ⟨w.heap.size + 1, 0, none⟩ (.int .i64 P)).setCell ⟨w.heap.size + 1, 1, none⟩ (.int .i64 n)).setCell ⟨w.heap.size + 1, 2, none⟩ (.slice e1 lf.length g1)).setCell ⟨w.heap.size + 1, 3, none⟩ (.slice e2 lt.length g2)).setCell ⟨w.heap.size + 1, 4, none⟩ (.slice e3 ld.length g3)).setCell ⟨w.heap.size + 1, 5, none⟩ (.slice e4 L.length g4)) (.slice e3 ld.length g3) ld ∧ MatS ((((((W3.setCell ⟨w.heap.size + 1, 0, none⟩ (.int .i64 P)).setCell ⟨w.heap.size + 1, 1, none⟩ (.int .i64 n)).setCell ⟨w.heap.size + 1, 2, none⟩ (.slice e1 lf.length g1)).setCell ⟨w.heap.size + 1, 3, none⟩ (.slice e2 lt.length g2)).setCell ⟨w.heap.size + 1, 4, none⟩ (.slice e3 ld.length g3)).setCell ⟨w.heap.size + 1, 5, none⟩ (.slice e4 L.length g4)) (.slice e4 L.length g4) L) := by
    refine ⟨?_, ?_, ?_, ?_⟩
    · have hbR := hbR1
      exact ((((((HI3.out.1.setLow HFR.out.1 hbR 0 (.int .i64 P)).setLow HFR.out.1 hbR 1 (.int .i64 n)).setLow HFR.out.1 hbR 2 (.slice e1 lf.length g1)).setLow HFR.out.1 hbR 3 (.slice e2 lt.length g2)).setLow HFR.out.1 hbR 4 (.slice e3 ld.length g3)).setLow HFR.out.1 hbR 5 (.slice e4 L.length g4))
    · have hbR := hbR1
      exact ((((((HI3.out.2.1.setLow HFR.out.2 hbR 0 (.int .i64 P)).setLow HFR.out.2 hbR 1 (.int .i64 n)).setLow HFR.out.2 hbR 2 (.slice e1 lf.length g1)).setLow HFR.out.2 hbR 3 (.slice e2 lt.length g2)).setLow HFR.out.2 hbR 4 (.slice e3 ld.length g3)).setLow HFR.out.2 hbR 5 (.slice e4 L.length g4))
    · have hbR : w.heap.size + 1 < W1.heap.size := by omega
      exact ((((((HI3.out.2.2.setLow HF3.out hbR 0 (.int .i64 P)).setLow HF3.out hbR 1 (.int .i64 n)).setLow HF3.out hbR 2 (.slice e1 lf.length g1)).setLow HF3.out hbR 3 (.slice e2 lt.length g2)).setLow HF3.out hbR 4 (.slice e3 ld.length g3)).setLow HF3.out hbR 5 (.slice e4 L.length g4))
    · have hbR : w.heap.size + 1 < W2.heap.size := by omega
      exact MatF.mats ((((((HM3.out.set hbR 0 (.int .i64 P)).set hbR 1 (.int .i64 n)).set hbR 2 (.slice e1 lf.length g1)).set hbR 3 (.slice e2 lt.length g2)).set hbR 4 (.slice e3 ld.length g3)).set hbR 5 (.slice e4 L.length g4))
  go_wp2
  refine bodyPost_ret (v := .agg #[.int .i64 P, .int .i64 n, .slice e1 lf.length g1, .slice e2 lt.length g2, .slice e3 ld.length g3, .slice e4 L.length g4]) (by simp [results, Try.results23, go_sem, HX.out.cell 0, HX.out.cell 1, HX.out.cell 2, HX.out.cell 3, HX.out.cell 4, HX.out.cell 5]) rfl ?_
  exact ⟨_, _, _, _, rfl, HZ.out.1, HZ.out.2.1, HZ.out.2.2.1, HZ.out.2.2.2, HY.out⟩
end Go.Proofs.Ytmcjgaffecimlaa
