/- EqualQuivers and EqualPaths, of the program and of the reference; the laws' own helpers on paths. -/
import Derived.Test.YtmcjgaffecimlaaQuiv
import Derived.Test.YtmcjgaffecimlaaEqual
namespace Go.Proofs.Ytmcjgaffecimlaa
open Go.RowKit
set_option linter.unusedVariables false
set_option linter.unusedSimpArgs false

set_option maxRecDepth 100000 in
set_option maxHeartbeats 1000000 in
theorem i_EqualQuivers (n n' : Int) (vf vt vf' vt' : Value) (lf lt lf' lt' : List Int) (w : World) (hf : Ints w vf lf) (ht : Ints w vt lt) (hf' : Ints w vf' lf') (ht' : Ints w vt' lt') :
    Calls Try.prog 54 #[.agg #[.int .i64 n, vf, vt], .agg #[.int .i64 n', vf', vt']] w (BoolAnsB (eqQ n lf lt n' lf' lt') w) := by
  obtain ⟨a1, c1, rfl, _, _⟩ := hf.shape
  obtain ⟨a2, c2, rfl, _, _⟩ := ht.shape
  obtain ⟨a3, c3, rfl, _, _⟩ := hf'.shape
  obtain ⟨a4, c4, rfl, _, _⟩ := ht'.shape
  have h2 : Below w.heap.size w ((w.alloc (.cells #[.int .i64 n, .slice a1 lf.length c1, .slice a2 lt.length c2] 50)).alloc (.cells #[.int .i64 n', .slice a3 lf'.length c3, .slice a4 lt'.length c4] 50)) :=
    ((Below.refl _ w).alloc (Nat.le_refl _) _).alloc (by simp) _
  have HF := Lib.hid (hf.below h2); have HT := Lib.hid (ht.below h2); have HF' := Lib.hid (hf'.below h2); have HT' := Lib.hid (ht'.below h2)
  have P1 := Lib.hid ((Blk.new w #[.int .i64 n, .slice a1 lf.length c1, .slice a2 lt.length c2] 50).below ((Below.refl _ _).alloc (Nat.le_refl _) (.cells #[.int .i64 n', .slice a3 lf'.length c3, .slice a4 lt'.length c4] 50)))
  have P2 := Lib.hid (Blk.new (w.alloc (.cells #[.int .i64 n, .slice a1 lf.length c1, .slice a2 lt.length c2] 50)) #[.int .i64 n', .slice a3 lf'.length c3, .slice a4 lt'.length c4] 50)
  have H2 := Lib.hid h2
  clear hf ht hf' ht' h2
  by_cases e1 : n = n'
  · subst e1
    go_enter Try.func54, Try.ntmps54
    go_wp2_with fail
    refine (Equal_ints _ _ lf lf' _ HF.out HF'.out).mono ?_; rintro e w1 ⟨rfl, b1⟩
    have hb3 := Lib.hid (below_call H2.out b1 H2.out.size)
    have q1 := P1.out.below b1
    have q2 := P2.out.below b1
    have HTa := Lib.hid (HT.out.below b1); have HTb := Lib.hid (HT'.out.below b1)
    obtain ⟨k1, k2, k3⟩ := blk3 q1
    obtain ⟨k4, k5, k6⟩ := blk3 q2
    simp only [World.size_alloc] at k4 k5 k6
    by_cases hq : lf = lf'
    · have hqd : decide (lf = lf') = true := by simpa using hq
      have HE := Lib.hid (show eqQ n lf lt n lf' lt' = decide (lt = lt') by simp [eqQ, hq])
      clear hq
      go_wp2_with fail
      refine (Equal_ints _ _ lt lt' _ HTa.out HTb.out).mono ?_; rintro e w2 ⟨rfl, b2⟩
      have hb4 := Lib.hid (below_call hb3.out b2 hb3.out.size)
      by_cases hq2 : lt = lt'
      · have hqd2 : decide (lt = lt') = true := by simpa using hq2
        have HQ := Lib.hid hq2; clear hq2
        go_wp2
        go_ret
        exact ⟨ret_bool (by rw [HE.out]; simpa using HQ.out), hb4.out⟩
      · have hqd2 : decide (lt = lt') = false := by simpa using hq2
        have HQ := Lib.hid hq2; clear hq2
        go_wp2
        go_ret
        exact ⟨ret_bool (by rw [HE.out]; simpa using HQ.out), hb4.out⟩
    · have hqd : decide (lf = lf') = false := by simpa using hq
      have HE := Lib.hid (show eqQ n lf lt n lf' lt' = false by simp [eqQ, hq])
      clear hq
      go_wp2
      go_ret
      exact ⟨ret_bool HE.out.symm, hb3.out⟩
  · have HE := Lib.hid (show eqQ n lf lt n' lf' lt' = false by simp [eqQ, e1])
    have hb2 : (n != n') = true := by simpa using e1
    clear e1
    go_enter Try.func54, Try.ntmps54
    go_wp2
    go_ret
    exact ⟨ret_bool HE.out.symm, H2.out⟩

set_option maxRecDepth 100000 in
set_option maxHeartbeats 1000000 in
theorem s_EqualQuivers (n n' : Int) (vf vt vf' vt' : Value) (lf lt lf' lt' : List Int) (w : World) (hf : Ints w vf lf) (ht : Ints w vt lt) (hf' : Ints w vf' lf') (ht' : Ints w vt' lt') :
    Calls Try.prog 49 #[.agg #[.int .i64 n, vf, vt], .agg #[.int .i64 n', vf', vt']] w (BoolAnsB (eqQ n lf lt n' lf' lt') w) := by
  obtain ⟨a1, c1, rfl, _, _⟩ := hf.shape
  obtain ⟨a2, c2, rfl, _, _⟩ := ht.shape
  obtain ⟨a3, c3, rfl, _, _⟩ := hf'.shape
  obtain ⟨a4, c4, rfl, _, _⟩ := ht'.shape
  have h2 : Below w.heap.size w ((w.alloc (.cells #[.int .i64 n, .slice a1 lf.length c1, .slice a2 lt.length c2] 50)).alloc (.cells #[.int .i64 n', .slice a3 lf'.length c3, .slice a4 lt'.length c4] 50)) :=
    ((Below.refl _ w).alloc (Nat.le_refl _) _).alloc (by simp) _
  have HF := Lib.hid (hf.below h2); have HT := Lib.hid (ht.below h2); have HF' := Lib.hid (hf'.below h2); have HT' := Lib.hid (ht'.below h2)
  have P1 := Lib.hid ((Blk.new w #[.int .i64 n, .slice a1 lf.length c1, .slice a2 lt.length c2] 50).below ((Below.refl _ _).alloc (Nat.le_refl _) (.cells #[.int .i64 n', .slice a3 lf'.length c3, .slice a4 lt'.length c4] 50)))
  have P2 := Lib.hid (Blk.new (w.alloc (.cells #[.int .i64 n, .slice a1 lf.length c1, .slice a2 lt.length c2] 50)) #[.int .i64 n', .slice a3 lf'.length c3, .slice a4 lt'.length c4] 50)
  have H2 := Lib.hid h2
  clear hf ht hf' ht' h2
  by_cases e1 : n = n'
  · subst e1
    go_enter Try.func49, Try.ntmps49
    go_wp2_with fail
    refine (s_l6Same _ _ lf lf' _ HF.out HF'.out).mono ?_; rintro e w1 ⟨rfl, b1⟩
    have hb3 := Lib.hid (below_call H2.out b1 H2.out.size)
    have q1 := P1.out.below b1
    have q2 := P2.out.below b1
    have HTa := Lib.hid (HT.out.below b1); have HTb := Lib.hid (HT'.out.below b1)
    obtain ⟨k1, k2, k3⟩ := blk3 q1
    obtain ⟨k4, k5, k6⟩ := blk3 q2
    simp only [World.size_alloc] at k4 k5 k6
    by_cases hq : lf = lf'
    · have hqd : decide (lf = lf') = true := by simpa using hq
      have HE := Lib.hid (show eqQ n lf lt n lf' lt' = decide (lt = lt') by simp [eqQ, hq])
      clear hq
      go_wp2_with fail
      refine (s_l6Same _ _ lt lt' _ HTa.out HTb.out).mono ?_; rintro e w2 ⟨rfl, b2⟩
      have hb4 := Lib.hid (below_call hb3.out b2 hb3.out.size)
      by_cases hq2 : lt = lt'
      · have hqd2 : decide (lt = lt') = true := by simpa using hq2
        have HQ := Lib.hid hq2; clear hq2
        go_wp2
        go_ret
        exact ⟨ret_bool (by rw [HE.out]; simpa using HQ.out), hb4.out⟩
      · have hqd2 : decide (lt = lt') = false := by simpa using hq2
        have HQ := Lib.hid hq2; clear hq2
        go_wp2
        go_ret
        exact ⟨ret_bool (by rw [HE.out]; simpa using HQ.out), hb4.out⟩
    · have hqd : decide (lf = lf') = false := by simpa using hq
      have HE := Lib.hid (show eqQ n lf lt n lf' lt' = false by simp [eqQ, hq])
      clear hq
      go_wp2
      go_ret
      exact ⟨ret_bool HE.out.symm, hb3.out⟩
  · have HE := Lib.hid (show eqQ n lf lt n' lf' lt' = false by simp [eqQ, e1])
    have hb2 : (n != n') = true := by simpa using e1
    clear e1
    go_enter Try.func49, Try.ntmps49
    go_wp2
    go_ret
    exact ⟨ret_bool HE.out.symm, H2.out⟩

/-- a new path -/
def PathNew (n : Int) (l : List Int) (w : World) (e : Ending) (w' : World) : Prop :=
  ∃ v, e = .returned (.agg #[.int .i64 n, v]) ∧ Ints w' v l ∧ FreshV w.heap.size v ∧ Below w.heap.size w w'
/-- a new path and a word -/
def PathOK (n : Int) (l : List Int) (ok : Bool) (w : World) (e : Ending) (w' : World) : Prop :=
  ∃ v, e = .returned (.tuple #[.agg #[.int .i64 n, v], .bool ok]) ∧ Ints w' v l ∧ FreshV w.heap.size v ∧ Below w.heap.size w w'
/-- two paths are the same -/
def eqP (n : Int) (l : List Int) (n' : Int) (l' : List Int) : Bool := decide (n = n' ∧ l = l')
theorem eqP_refl (n : Int) (l : List Int) : eqP n l n l = true := by simp [eqP]






end Go.Proofs.Ytmcjgaffecimlaa
