/- Quivers: their values in memory; the laws' own helpers on them. -/
import Derived.Test.YthlmggogeeedjaaVecOps
import Derived.Test.YthlmggogeeedjaaSep
namespace Go.Proofs.Ythlmggogeeedjaa
open Go.RowKit
set_option linter.unusedVariables false
set_option linter.unusedSimpArgs false

/-- a new quiver -/
def QuivNew (n : Int) (lf lt : List Int) (w : World) (e : Ending) (w' : World) : Prop :=
  ∃ vf vt, e = .returned (.agg #[.int .i64 n, vf, vt]) ∧ Ints w' vf lf ∧ Ints w' vt lt ∧ FreshV w.heap.size vf ∧ FreshV w.heap.size vt ∧ (∀ k, blk vf = some k → ¬ blk vt = some k) ∧ Below w.heap.size w w'
/-- a new quiver and a word -/
def QuivOK (n : Int) (lf lt : List Int) (ok : Bool) (w : World) (e : Ending) (w' : World) : Prop :=
  ∃ vf vt, e = .returned (.tuple #[.agg #[.int .i64 n, vf, vt], .bool ok]) ∧ Ints w' vf lf ∧ Ints w' vt lt ∧ FreshV w.heap.size vf ∧ FreshV w.heap.size vt ∧ (∀ k, blk vf = some k → ¬ blk vt = some k) ∧ Below w.heap.size w w'

/-- two quivers are the same -/
def eqQ (n : Int) (f t : List Int) (n' : Int) (f' t' : List Int) : Bool := decide (n = n' ∧ f = f' ∧ t = t')
theorem eqQ_refl (n : Int) (f t : List Int) : eqQ n f t n f t = true := by simp [eqQ]

set_option maxRecDepth 100000 in
set_option maxHeartbeats 1000000 in
theorem l_eqQuiver (n n' : Int) (vf vt vf' vt' : Value) (lf lt lf' lt' : List Int) (w : World) (hf : Ints w vf lf) (ht : Ints w vt lt) (hf' : Ints w vf' lf') (ht' : Ints w vt' lt') :
    Calls Try.prog 9 #[.agg #[.int .i64 n, vf, vt], .agg #[.int .i64 n', vf', vt']] w (BoolAnsB (eqQ n lf lt n' lf' lt') w) := by
  obtain ⟨a1, c1, rfl, _, _⟩ := hf.shape
  obtain ⟨a2, c2, rfl, _, _⟩ := ht.shape
  obtain ⟨a3, c3, rfl, _, _⟩ := hf'.shape
  obtain ⟨a4, c4, rfl, _, _⟩ := ht'.shape
  have h2 : Below w.heap.size w ((w.alloc (.cells #[.int .i64 n, .slice a1 lf.length c1, .slice a2 lt.length c2] 29)).alloc (.cells #[.int .i64 n', .slice a3 lf'.length c3, .slice a4 lt'.length c4] 29)) :=
    ((Below.refl _ w).alloc (Nat.le_refl _) _).alloc (by simp) _
  have HF := Lib.hid (hf.below h2); have HT := Lib.hid (ht.below h2); have HF' := Lib.hid (hf'.below h2); have HT' := Lib.hid (ht'.below h2)
  have P1 := Lib.hid ((Blk.new w #[.int .i64 n, .slice a1 lf.length c1, .slice a2 lt.length c2] 29).below ((Below.refl _ _).alloc (Nat.le_refl _) (.cells #[.int .i64 n', .slice a3 lf'.length c3, .slice a4 lt'.length c4] 29)))
  have P2 := Lib.hid (Blk.new (w.alloc (.cells #[.int .i64 n, .slice a1 lf.length c1, .slice a2 lt.length c2] 29)) #[.int .i64 n', .slice a3 lf'.length c3, .slice a4 lt'.length c4] 29)
  have H2 := Lib.hid h2
  clear hf ht hf' ht' h2
  by_cases e1 : n = n'
  · subst e1
    go_enter Try.func9, Try.ntmps9
    go_wp2_with fail
    refine (l_eqIntS _ _ lf lf' _ HF.out HF'.out).mono ?_; rintro e w1 ⟨rfl, b1⟩
    have hb3 := Lib.hid (below_call H2.out b1 H2.out.size)
    have q1 := P1.out.below b1
    have q2 := P2.out.below b1
    have HTa := Lib.hid (HT.out.below b1); have HTb := Lib.hid (HT'.out.below b1)
    obtain ⟨k1, k2, k3⟩ := blk3 q1
    obtain ⟨k4, k5, k6⟩ := blk3 q2
    simp only [World.size_alloc] at k4 k5 k6
    by_cases hq : lf = lf'
    · have hqd : decide (lf = lf') = true := by simpa using hq
      have HE := Lib.hid (show eqQ n lf lt n lf' lt' = decide (lt = lt') by simp [eqQ, hq])
      clear hq
      go_wp2_with fail
      refine (l_eqIntS _ _ lt lt' _ HTa.out HTb.out).mono ?_; rintro e w2 ⟨rfl, b2⟩
      have hb4 := Lib.hid (below_call hb3.out b2 hb3.out.size)
      by_cases hq2 : lt = lt'
      · have hqd2 : decide (lt = lt') = true := by simpa using hq2
        have HQ := Lib.hid hq2; clear hq2
        go_wp2
        go_ret
        exact ⟨ret_bool (by rw [HE.out]; simpa using HQ.out), hb4.out⟩
      · have hqd2 : decide (lt = lt') = false := by simpa using hq2
        have HQ := Lib.hid hq2; clear hq2
        go_wp2
        go_ret
        exact ⟨ret_bool (by rw [HE.out]; simpa using HQ.out), hb4.out⟩
    · have hqd : decide (lf = lf') = false := by simpa using hq
      have HE := Lib.hid (show eqQ n lf lt n lf' lt' = false by simp [eqQ, hq])
      clear hq
      go_wp2
      go_ret
      exact ⟨ret_bool HE.out.symm, hb3.out⟩
  · have HE := Lib.hid (show eqQ n lf lt n' lf' lt' = false by simp [eqQ, e1])
    have hb2 : (n != n') = true := by simpa using e1
    clear e1
    go_enter Try.func9, Try.ntmps9
    go_wp2
    go_ret
    exact ⟨ret_bool HE.out.symm, H2.out⟩

def szQ (left : Int) (f t : List Int) : Int := if szI left f < 0 then -1 else szI (szI left f) t
set_option maxRecDepth 100000 in
set_option maxHeartbeats 1000000 in
theorem l_szQuiver (n : Int) (vf vt : Value) (lf lt : List Int) (left : Int) (w : World) (hf : Raw w vf lf) (ht : Raw w vt lt) (h0 : 0 ≤ left) (h1 : left ≤ 1048576) :
    Calls Try.prog 4 #[.agg #[.int .i64 n, vf, vt], .int .i64 left] w (IntAnsC (szQ left lf lt) w) := by
  obtain ⟨a1, c1, rfl, _, _⟩ := hf.shape
  obtain ⟨a2, c2, rfl, _, _⟩ := ht.shape
  have h2 : Below w.heap.size w (w.alloc (.cells #[.int .i64 n, .slice a1 lf.length c1, .slice a2 lt.length c2] 24)) := (Below.refl _ w).alloc (Nat.le_refl _) _
  have HF := Lib.hid (hf.below h2); have HT := Lib.hid (ht.below h2)
  have H2 := Lib.hid h2
  clear hf ht h2
  by_cases hlt : left < lf.length
  · have HE := Lib.hid (show szI left lf = -1 from if_pos hlt)
    have HR := Lib.hid (show szQ left lf lt = -1 by unfold szQ; rw [if_pos (by rw [HE.out]; omega)])
    go_enter Try.func4, Try.ntmps4
    go_wp2_with fail
    refine (l_szIntS _ lf _ _ HF.out h0 h1).mono ?_; rintro e wz ⟨rfl, rfl⟩
    rw [HE.out]
    go_wp2
    go_ret
    exact ⟨ret_int HR.out.symm, H2.out⟩
  · have HE := Lib.hid (show szI left lf = left - lf.length from if_neg hlt)
    have h3 : 0 ≤ left - lf.length := by omega
    have HR := Lib.hid (show szQ left lf lt = szI (left - lf.length) lt by unfold szQ; rw [if_neg (by rw [HE.out]; omega), HE.out])
    by_cases hlt2 : left - lf.length < lt.length
    · have HE2 := Lib.hid (show szI (left - lf.length) lt = -1 from if_pos hlt2)
      go_enter Try.func4, Try.ntmps4
      go_wp2_with fail
      refine (l_szIntS _ lf _ _ HF.out h0 h1).mono ?_; rintro e wz ⟨rfl, rfl⟩
      rw [HE.out]
      go_wp2_with fail
      refine (l_szIntS _ lt _ _ HT.out (by omega) (by omega)).mono ?_; rintro e wz ⟨rfl, rfl⟩
      rw [HE2.out]
      go_wp2
      go_ret
      exact ⟨ret_int (by rw [HR.out, HE2.out]), H2.out⟩
    · have HE2 := Lib.hid (show szI (left - lf.length) lt = left - lf.length - lt.length from if_neg hlt2)
      go_enter Try.func4, Try.ntmps4
      go_wp2_with fail
      refine (l_szIntS _ lf _ _ HF.out h0 h1).mono ?_; rintro e wz ⟨rfl, rfl⟩
      rw [HE.out]
      go_wp2_with fail
      refine (l_szIntS _ lt _ _ HT.out (by omega) (by omega)).mono ?_; rintro e wz ⟨rfl, rfl⟩
      rw [HE2.out]
      go_wp2
      go_ret
      exact ⟨ret_int (by rw [HR.out, HE2.out]), H2.out⟩

def MarkAnsQ (vf vt : Value) (lf lt : List Int) (k : Int) (w : World) (e : Ending) (w' : World) : Prop :=
  e = .returned (.int .i64 (k + lf.length + lt.length)) ∧ Ints w' vf (marks k lf.length) ∧ Ints w' vt (marks (k + lf.length) lt.length) ∧ Chg (fun b => blk vf = some b ∨ blk vt = some b) w w'
set_option maxRecDepth 100000 in
set_option maxHeartbeats 1000000 in
theorem l_markQuiver (n : Int) (vf vt : Value) (lf lt : List Int) (k : Int) (w : World) (hf : Ints w vf lf) (ht : Ints w vt lt) (hs : ∀ q, blk vf = some q → ¬ blk vt = some q) (hk0 : 0 ≤ k) (hk1 : k + lf.length + lt.length ≤ 4611686018427387904) :
    Calls Try.prog 10 #[.agg #[.int .i64 n, vf, vt], .int .i64 k] w (MarkAnsQ vf vt lf lt k w) := by
  have HS := Lib.hid hs; clear hs
  have HLF := Lib.hid hf.lt; have HLT := Lib.hid ht.lt
  obtain ⟨a1, c1, rfl, _, _⟩ := hf.shape
  obtain ⟨a2, c2, rfl, _, _⟩ := ht.shape
  have h2 : Below w.heap.size w (w.alloc (.cells #[.int .i64 n, .slice a1 lf.length c1, .slice a2 lt.length c2] 29)) := (Below.refl _ w).alloc (Nat.le_refl _) _
  have HF := Lib.hid (hf.below h2); have HT := Lib.hid (ht.below h2)
  have P1 := Lib.hid (Blk.new w #[.int .i64 n, .slice a1 lf.length c1, .slice a2 lt.length c2] 29)
  have H2 := Lib.hid h2
  clear hf ht h2
  go_enter Try.func10, Try.ntmps10
  go_wp2_with fail
  refine (l_markIntS _ lf _ _ HF.out (by omega) (by omega)).mono ?_; rintro e w1 ⟨rfl, h1, c1⟩
  have q1 := P1.out.chg c1 (fun h => absurd (HLF.out _ h) (by omega))
  have hT1 := HT.out.chg c1 (fun q hq h => HS.out q h hq)
  obtain ⟨k1, k2, k3⟩ := blk3 q1
  go_wp2_with fail
  refine (l_markIntS _ lt _ _ hT1 (by omega) (by omega)).mono ?_; rintro e w2 ⟨rfl, h3, c2⟩
  have h1' := h1.chg c2 (fun q hq h => HS.out q hq h)
  go_wp2
  go_ret
  exact ⟨rfl, h1', h3, ((Chg.of_below H2.out).trans (c1.mono fun q _ h => Or.inl h)).trans (c2.mono fun q _ h => Or.inr h)⟩


set_option maxRecDepth 100000 in
set_option maxHeartbeats 1000000 in
theorem l_toQuiver (n : Int) (vf vt : Value) (lf lt : List Int) (w : World) (hf : Raw w vf lf) (ht : Raw w vt lt) (hlf : lf.length ≤ 1048576) (hlt : lt.length ≤ 1048576) :
    Calls Try.prog 6 #[.agg #[.int .i64 n, vf, vt]] w (QuivNew n lf lt w) := by
  obtain ⟨a1, c1, rfl, _, _⟩ := hf.shape
  obtain ⟨a2, c2, rfl, _, _⟩ := ht.shape
  have h1 : Below w.heap.size w (w.alloc (.cells #[.int .i64 n, .slice a1 lf.length c1, .slice a2 lt.length c2] 24)) := (Below.refl _ w).alloc (Nat.le_refl _) _
  obtain ⟨A, hA⟩ : ∃ A, A = w.alloc (.cells #[.int .i64 n, .slice a1 lf.length c1, .slice a2 lt.length c2] 24) := ⟨_, rfl⟩
  rw [← hA] at h1
  have hAs : A.heap.size = w.heap.size + 1 := by rw [hA]; simp
  have h2 : Below A.heap.size A (A.alloc (.cells #[.int .i64 0, .slice none 0 0, .slice none 0 0] 29)) := (Below.refl _ A).alloc (Nat.le_refl _) _
  obtain ⟨Z, hZ⟩ : ∃ Z, Z = A.alloc (.cells #[.int .i64 0, .slice none 0 0, .slice none 0 0] 29) := ⟨_, rfl⟩
  have hZs : Z.heap.size = w.heap.size + 1 + 1 := by rw [hZ]; simp [hAs]
  have h3 : Below Z.heap.size Z (Z.alloc (.cells #[.int .i64 n, .slice none 0 0, .slice none 0 0] 29)) := (Below.refl _ Z).alloc (Nat.le_refl _) _
  have h13 : Below w.heap.size w (Z.alloc (.cells #[.int .i64 n, .slice none 0 0, .slice none 0 0] 29)) := by
    refine h1.trans ((h2.mono (by omega)).trans ?_)
    rw [← hZ]; exact h3.mono (by omega)
  have hRf := hf.below h13
  have hRt := ht.below h13
  have HRf := Lib.hid hRf; have HRt := Lib.hid hRt
  have HLoc := Lib.hid (Blk.new Z #[.int .i64 n, .slice none 0 0, .slice none 0 0] 29)
  have HBox : Hid (Blk (Z.alloc (.cells #[.int .i64 n, .slice none 0 0, .slice none 0 0] 29)) w.heap.size #[.int .i64 n, .slice a1 lf.length c1, .slice a2 lt.length c2] 24) := by
    have p0 := Blk.new w #[.int .i64 n, .slice a1 lf.length c1, .slice a2 lt.length c2] 24
    rw [← hA] at p0
    have p1 := p0.below h2
    rw [← hZ] at p1
    exact p1.below h3
  have H1 := Lib.hid h1
  have Ht := Lib.hid ht
  clear hf ht h13 hRf hRt h1 h2 h3 hAs hZs
  subst hZ; subst hA
  go_enter Try.func6, Try.ntmps6
  go_wp2_with fail
  refine (l_toIntS _ lf _ HRf.out hlf).mono ?_; rintro e w1 ⟨v1, rfl, hv1, hf1, b1⟩
  have p := HLoc.out.below b1
  have pb := HBox.out.below b1
  obtain ⟨k0, k1, k2⟩ := blk3 p
  obtain ⟨j0, j1, j2⟩ := blk3 pb
  have q0 := p.frozen 1
  simp only [World.size_alloc] at k0 k1 k2 q0 hf1 p
  obtain ⟨av1, cv1, rfl, _, _⟩ := hv1.shape
  have hne1 : ∀ k, blk (.slice av1 lf.length cv1) = some k → k ≠ w.heap.size + 1 + 1 := fun k hk => by have := hf1 k hk; omega
  have p2 := p.set 1 (.slice av1 lf.length cv1)
  have pb2 := pb.setOther (p := ⟨w.heap.size + 1 + 1, 1, none⟩) (by simp; omega) (.slice av1 lf.length cv1)
  have hv1' : Ints (w1.setCell ⟨w.heap.size + 1 + 1, 1, none⟩ (.slice av1 lf.length cv1)) (.slice av1 lf.length cv1) lf := hv1.keep fun k hk => heap_setCell_other _ _ _ _ (hne1 k hk)
  have hbA : Below (w.heap.size + 1 + 1) ((w.alloc (.cells #[.int .i64 n, .slice a1 lf.length c1, .slice a2 lt.length c2] 24)).alloc (.cells #[.int .i64 0, .slice none 0 0, .slice none 0 0] 29)) (w1.setCell ⟨w.heap.size + 1 + 1, 1, none⟩ (.slice av1 lf.length cv1)) :=
    (((Below.refl _ _).alloc (by simp) _).trans (b1.mono (by simp))).setCell (p := ⟨w.heap.size + 1 + 1, 1, none⟩) (Nat.le_refl _) _
  have hRt1 : Raw (w1.setCell ⟨w.heap.size + 1 + 1, 1, none⟩ (.slice av1 lf.length cv1)) (.slice a2 lt.length c2) lt := by
    have hw : Below w.heap.size w (w1.setCell ⟨w.heap.size + 1 + 1, 1, none⟩ (.slice av1 lf.length cv1)) :=
      H1.out.trans (((Below.refl _ _).alloc (by simp) _).trans (hbA.mono (by omega)))
    exact Ht.out.below hw
  have i0 : (w1.setCell ⟨w.heap.size + 1 + 1, 1, none⟩ (.slice av1 lf.length cv1)).cell? ⟨w.heap.size, 2, none⟩ = some (.slice a2 lt.length c2) := pb2.cell 2
  have hN1 := p2.lt
  clear k0
  go_wp2_with fail
  refine (l_toIntS _ lt _ hRt1 hlt).mono ?_; rintro e w2 ⟨v2, rfl, hv2, hf2, b2⟩
  have p2' : Blk (w1.setCell ⟨w.heap.size + 1 + 1, 1, none⟩ (.slice av1 lf.length cv1)) (w.heap.size + 1 + 1) #[.int .i64 n, .slice av1 lf.length cv1, .slice none 0 0] 29 := p2
  have q := p2'.below b2
  obtain ⟨m0, m1, m2⟩ := blk3 q
  have r0 := q.frozen 2
  obtain ⟨av2, cv2, rfl, _, _⟩ := hv2.shape
  have hne2 : ∀ k, blk (.slice av2 lt.length cv2) = some k → k ≠ w.heap.size + 1 + 1 := fun k hk => by have := hf2 k hk; omega
  have p3 : Blk (w2.setCell ⟨w.heap.size + 1 + 1, 2, none⟩ (.slice av2 lt.length cv2)) (w.heap.size + 1 + 1) #[.int .i64 n, .slice av1 lf.length cv1, .slice av2 lt.length cv2] 29 := q.set 2 _
  have hv2' : Ints (w2.setCell ⟨w.heap.size + 1 + 1, 2, none⟩ (.slice av2 lt.length cv2)) (.slice av2 lt.length cv2) lt := hv2.keep fun k hk => heap_setCell_other _ _ _ _ (hne2 k hk)
  have hv1b : Ints (w2.setCell ⟨w.heap.size + 1 + 1, 2, none⟩ (.slice av2 lt.length cv2)) (.slice av1 lf.length cv1) lf := (hv1'.below b2).keep fun k hk => heap_setCell_other _ _ _ _ (hne1 k hk)
  have hdis : ∀ k, blk (.slice av1 lf.length cv1) = some k → ¬ blk (.slice av2 lt.length cv2) = some k := fun k hk h => by
    have a := hf2 k h; have b := hv1'.lt k hk; omega
  have hbr : Below (w.heap.size + 1 + 1) ((w.alloc (.cells #[.int .i64 n, .slice a1 lf.length c1, .slice a2 lt.length c2] 24)).alloc (.cells #[.int .i64 0, .slice none 0 0, .slice none 0 0] 29)) (w2.setCell ⟨w.heap.size + 1 + 1, 2, none⟩ (.slice av2 lt.length cv2)) :=
    (hbA.trans (b2.mono (Nat.le_of_lt hN1))).setCell (p := ⟨w.heap.size + 1 + 1, 2, none⟩) (Nat.le_refl _) _
  have hF1 : FreshV (w.heap.size + 1 + 1) (.slice av1 lf.length cv1) := hf1.mono (by omega)
  have hF2 : FreshV (w.heap.size + 1 + 1) (.slice av2 lt.length cv2) := hf2.mono (Nat.le_of_lt hN1)
  have hT := res3_tail (w := w.alloc (.cells #[.int .i64 n, .slice a1 lf.length c1, .slice a2 lt.length c2] 24)) (.int .i64 n) (.slice av1 lf.length cv1) (.slice av2 lt.length cv2) (by simpa using hbr)
  obtain ⟨d0, d1, d2, g0, g1, g2⟩ := res3_pre (w := w.alloc (.cells #[.int .i64 n, .slice a1 lf.length c1, .slice a2 lt.length c2] 24)) (w1 := w2.setCell ⟨w.heap.size + 1 + 1, 2, none⟩ (.slice av2 lt.length cv2)) (by simpa using hbr)
  have hw1 := set3_ints hv1b (b := w.heap.size + 1) (fun k hk => by have := hF1 k hk; omega) (.int .i64 n) (.slice av1 lf.length cv1) (.slice av2 lt.length cv2)
  have hw2 := set3_ints hv2' (b := w.heap.size + 1) (fun k hk => by have := hF2 k hk; omega) (.int .i64 n) (.slice av1 lf.length cv1) (.slice av2 lt.length cv2)
  simp only [World.size_alloc] at hT d0 d1 d2 g0 g1 g2
  unfold set3 at hT hw1 hw2
  have HT := Lib.hid hT
  have HW := Lib.hid (And.intro hw1 hw2)
  have HX := Lib.hid (show FreshV w.heap.size (.slice av1 lf.length cv1) ∧ FreshV w.heap.size (.slice av2 lt.length cv2) ∧ ∀ k, blk (.slice av1 lf.length cv1) = some k → ¬ blk (.slice av2 lt.length cv2) = some k from ⟨hF1.mono (by omega), hF2.mono (by omega), hdis⟩)
  obtain ⟨u0, u1, u2⟩ := blk3 p3
  clear hT hw1 hw2 hbr hbA hv1' hv1b hv2' hv2 hv1 hRt1 p2 p2' pb2 p p3 q b1 b2 hdis hF1 hF2 hf1 hf2 hne1 hne2 hN1
  go_wp2
  refine bodyPost_ret (v := .agg #[.int .i64 n, .slice av1 lf.length cv1, .slice av2 lt.length cv2]) (by simp [results, Try.results6, go_sem, HT.out.2.1, HT.out.2.2.1, HT.out.2.2.2]) rfl ?_
  exact ⟨_, _, rfl, HW.out.1, HW.out.2, HX.out.1, HX.out.2.1, HX.out.2.2, H1.out.trans (HT.out.1.mono (by simp))⟩

end Go.Proofs.Ythlmggogeeedjaa
