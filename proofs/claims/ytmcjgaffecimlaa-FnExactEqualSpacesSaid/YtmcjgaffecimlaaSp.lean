/- EqualSpaces, of the program and of the reference; the laws' own helpers on spaces. -/
import Derived.Test.YtmcjgaffecimlaaSS2
namespace Go.Proofs.Ytmcjgaffecimlaa
open Go.RowKit
set_option linter.unusedVariables false
set_option linter.unusedSimpArgs false

def SpaceNew (n : Int) (l : List (List Int)) (w : World) (e : Ending) (w' : World) : Prop :=
  ∃ v, e = .returned (.agg #[.int .i64 n, v]) ∧ IntsS w' v l ∧ FreshV w.heap.size v ∧ Below w.heap.size w w'
def eqSp (n : Int) (l : List (List Int)) (n' : Int) (l' : List (List Int)) : Bool := decide (n = n' ∧ l = l')
theorem eqSp_refl (n : Int) (l : List (List Int)) : eqSp n l n l = true := by simp [eqSp]

set_option maxRecDepth 100000 in
set_option maxHeartbeats 1000000 in
theorem l_eqSpace (n n' : Int) (va vb : Value) (la lb : List (List Int)) (w : World) (ha : IntsS w va la) (hb : IntsS w vb lb) :
    Calls Try.prog 20 #[.agg #[.int .i64 n, va], .agg #[.int .i64 n', vb]] w (BoolAnsB (eqSp n la n' lb) w) := by
  obtain ⟨a, cap, rfl, hlc, hcm⟩ := ha.shape
  obtain ⟨b, capb, rfl, hlcb, hcmb⟩ := hb.shape
  have h2 : Below w.heap.size w ((w.alloc (.cells #[.int .i64 n, .slice a la.length cap] 40)).alloc (.cells #[.int .i64 n', .slice b lb.length capb] 40)) :=
    ((Below.refl _ w).alloc (Nat.le_refl _) _).alloc (by simp) _
  have HA := Lib.hid (ha.below h2)
  have HB := Lib.hid (hb.below h2)
  have H2 := Lib.hid h2
  clear ha hb h2
  by_cases e1 : n = n'
  · have HE := Lib.hid (show eqSp n la n' lb = decide (la = lb) by simp [eqSp, e1])
    subst e1
    go_enter Try.func20, Try.ntmps20
    go_wp2_with fail
    refine (l_eqIntSS _ _ la lb _ HA.out HB.out).mono ?_; rintro e w1 ⟨rfl, b1⟩
    have hb3 := Lib.hid (below_call H2.out b1 H2.out.size)
    by_cases hq : la = lb
    · have hqd : decide (la = lb) = true := by simpa using hq
      have HQ := Lib.hid hq; clear hq
      go_wp2
      go_ret
      exact ⟨ret_bool (by rw [HE.out]; simpa using HQ.out), hb3.out⟩
    · have hqd : decide (la = lb) = false := by simpa using hq
      have HQ := Lib.hid hq; clear hq
      go_wp2
      go_ret
      exact ⟨ret_bool (by rw [HE.out]; simpa using HQ.out), hb3.out⟩
  · have HE := Lib.hid (show eqSp n la n' lb = false by simp [eqSp, e1])
    have hb2 : (n == n') = false := by simpa using e1
    clear e1
    go_enter Try.func20, Try.ntmps20
    go_wp2
    go_ret
    exact ⟨ret_bool HE.out.symm, H2.out⟩

set_option maxRecDepth 100000 in
set_option maxHeartbeats 1000000 in
theorem i_EqualSpaces (n n' : Int) (va vb : Value) (la lb : List (List Int)) (w : World) (ha : IntsS w va la) (hb : IntsS w vb lb) :
    Calls Try.prog 19 #[.agg #[.int .i64 n, va], .agg #[.int .i64 n', vb]] w (BoolAnsB (eqSp n la n' lb) w) := by
  obtain ⟨a, cap, rfl, hlc, hcm⟩ := ha.shape
  obtain ⟨b, capb, rfl, hlcb, hcmb⟩ := hb.shape
  have h2 : Below w.heap.size w ((w.alloc (.cells #[.int .i64 n, .slice a la.length cap] 40)).alloc (.cells #[.int .i64 n', .slice b lb.length capb] 40)) :=
    ((Below.refl _ w).alloc (Nat.le_refl _) _).alloc (by simp) _
  have HA := Lib.hid (ha.below h2)
  have HB := Lib.hid (hb.below h2)
  have H2 := Lib.hid h2
  clear ha hb h2
  by_cases e1 : n = n'
  · have HE := Lib.hid (show eqSp n la n' lb = decide (la = lb) by simp [eqSp, e1])
    subst e1
    go_enter Try.func19, Try.ntmps19
    go_wp2_with fail
    refine (EqualFunc_rows _ _ la lb _ HA.out HB.out).mono ?_; rintro e w1 ⟨rfl, b1⟩
    have hb3 := Lib.hid (below_call H2.out b1 H2.out.size)
    by_cases hq : la = lb
    · have hqd : decide (la = lb) = true := by simpa using hq
      have HQ := Lib.hid hq; clear hq
      go_wp2
      go_ret
      exact ⟨ret_bool (by rw [HE.out]; simpa using HQ.out), hb3.out⟩
    · have hqd : decide (la = lb) = false := by simpa using hq
      have HQ := Lib.hid hq; clear hq
      go_wp2
      go_ret
      exact ⟨ret_bool (by rw [HE.out]; simpa using HQ.out), hb3.out⟩
  · have HE := Lib.hid (show eqSp n la n' lb = false by simp [eqSp, e1])
    have hb2 : (n == n') = false := by simpa using e1
    clear e1
    go_enter Try.func19, Try.ntmps19
    go_wp2
    go_ret
    exact ⟨ret_bool HE.out.symm, H2.out⟩

set_option maxRecDepth 100000 in
set_option maxHeartbeats 1000000 in
theorem s_EqualSpaces (n n' : Int) (va vb : Value) (la lb : List (List Int)) (w : World) (ha : IntsS w va la) (hb : IntsS w vb lb) :
    Calls Try.prog 17 #[.agg #[.int .i64 n, va], .agg #[.int .i64 n', vb]] w (BoolAnsB (eqSp n la n' lb) w) := by
  obtain ⟨a, cap, rfl, hlc, hcm⟩ := ha.shape
  obtain ⟨b, capb, rfl, hlcb, hcmb⟩ := hb.shape
  have h2 : Below w.heap.size w ((w.alloc (.cells #[.int .i64 n, .slice a la.length cap] 40)).alloc (.cells #[.int .i64 n', .slice b lb.length capb] 40)) :=
    ((Below.refl _ w).alloc (Nat.le_refl _) _).alloc (by simp) _
  have HA := Lib.hid (ha.below h2)
  have HB := Lib.hid (hb.below h2)
  have H2 := Lib.hid h2
  clear ha hb h2
  by_cases e1 : n = n'
  · have HE := Lib.hid (show eqSp n la n' lb = decide (la = lb) by simp [eqSp, e1])
    subst e1
    go_enter Try.func17, Try.ntmps17
    go_wp2_with fail
    refine (s_l5Same _ _ la lb _ HA.out HB.out).mono ?_; rintro e w1 ⟨rfl, b1⟩
    have hb3 := Lib.hid (below_call H2.out b1 H2.out.size)
    by_cases hq : la = lb
    · have hqd : decide (la = lb) = true := by simpa using hq
      have HQ := Lib.hid hq; clear hq
      go_wp2
      go_ret
      exact ⟨ret_bool (by rw [HE.out]; simpa using HQ.out), hb3.out⟩
    · have hqd : decide (la = lb) = false := by simpa using hq
      have HQ := Lib.hid hq; clear hq
      go_wp2
      go_ret
      exact ⟨ret_bool (by rw [HE.out]; simpa using HQ.out), hb3.out⟩
  · have HE := Lib.hid (show eqSp n la n' lb = false by simp [eqSp, e1])
    have hb2 : (n == n') = false := by simpa using e1
    clear e1
    go_enter Try.func17, Try.ntmps17
    go_wp2
    go_ret
    exact ⟨ret_bool HE.out.symm, H2.out⟩

set_option maxRecDepth 100000 in
set_option maxHeartbeats 1000000 in
theorem l_szSpace (r : Int) (v : Value) (l : List (List Int)) (left : Int) (w : World) (hv : RawS w v l) (h0 : 0 ≤ left) (h1 : left ≤ 1048576) :
    Calls Try.prog 16 #[.agg #[.int .i64 r, v], .int .i64 left] w (IntAnsC (szII left l) w) := by
  obtain ⟨a, cap, rfl, hlc, hcm⟩ := hv.shape
  have h2 : Below w.heap.size w (w.alloc (.cells #[.int .i64 r, .slice a l.length cap] 37)) := (Below.refl _ w).alloc (Nat.le_refl _) _
  have HV := Lib.hid (hv.below h2)
  have H2 := Lib.hid h2
  clear hv h2
  by_cases hlt : left < szT l
  · have HE := Lib.hid (show szII left l = -1 from if_pos hlt)
    go_enter Try.func16, Try.ntmps16
    go_wp2_with fail
    refine (l_szIntSS _ l _ _ HV.out h0 h1).mono ?_; rintro e wz ⟨rfl, rfl⟩
    rw [HE.out]
    go_wp2
    go_ret
    exact ⟨ret_int HE.out.symm, H2.out⟩
  · have HE := Lib.hid (show szII left l = left - szT l from if_neg hlt)
    go_enter Try.func16, Try.ntmps16
    go_wp2_with fail
    refine (l_szIntSS _ l _ _ HV.out h0 h1).mono ?_; rintro e wz ⟨rfl, rfl⟩
    rw [HE.out]
    go_wp2
    go_ret
    exact ⟨ret_int HE.out.symm, H2.out⟩

set_option maxRecDepth 100000 in
set_option maxHeartbeats 1000000 in
theorem l_toSpace (r : Int) (v : Value) (l : List (List Int)) (w : World) (hv : RawS w v l) (hl : szT l ≤ 1048576) :
    Calls Try.prog 18 #[.agg #[.int .i64 r, v]] w (SpaceNew r l w) := by
  obtain ⟨a, cap, rfl, hlc, hcm⟩ := hv.shape
  have h1 : Below w.heap.size w (w.alloc (.cells #[.int .i64 r, .slice a l.length cap] 37)) := (Below.refl _ w).alloc (Nat.le_refl _) _
  obtain ⟨A, hA⟩ : ∃ A, A = w.alloc (.cells #[.int .i64 r, .slice a l.length cap] 37) := ⟨_, rfl⟩
  rw [← hA] at h1
  have hAs : A.heap.size = w.heap.size + 1 := by rw [hA]; simp
  have h2 : Below A.heap.size A (A.alloc (.cells #[.int .i64 0, .slice none 0 0] 40)) := (Below.refl _ A).alloc (Nat.le_refl _) _
  obtain ⟨Z, hZ⟩ : ∃ Z, Z = A.alloc (.cells #[.int .i64 0, .slice none 0 0] 40) := ⟨_, rfl⟩
  have hZs : Z.heap.size = w.heap.size + 1 + 1 := by rw [hZ]; simp [hAs]
  have h3 : Below Z.heap.size Z (Z.alloc (.cells #[.int .i64 r, .slice none 0 0] 40)) := (Below.refl _ Z).alloc (Nat.le_refl _) _
  have h13 : Below w.heap.size w (Z.alloc (.cells #[.int .i64 r, .slice none 0 0] 40)) := by
    refine h1.trans ((h2.mono (by omega)).trans ?_)
    rw [← hZ]; exact h3.mono (by omega)
  have HR := Lib.hid (hv.below h13)
  have hloc := Blk.new Z #[.int .i64 r, .slice none 0 0] 40
  have HLoc := Lib.hid hloc
  have H1 := Lib.hid h1
  clear hv h13 hloc h1 h2 h3 hAs hZs
  subst hZ; subst hA
  go_enter Try.func18, Try.ntmps18
  go_wp2_with fail
  refine (l_toIntSS _ l _ HR.out hl).mono ?_; rintro e w1 ⟨v, rfl, hv, hf, b1⟩
  have p := HLoc.out.below b1
  have q0 := p.frozen 1
  simp only [World.size_alloc] at q0 hf p
  obtain ⟨k0, k1⟩ := blk2 p
  obtain ⟨av, capv, rfl, _, _⟩ := hv.shape
  have p3 : Blk (w1.setCell ⟨w.heap.size + 1 + 1, 1, none⟩ (.slice av l.length capv)) (w.heap.size + 1 + 1) #[.int .i64 r, .slice av l.length capv] 40 := p.set 1 _
  have hne : ∀ k, blk (.slice av l.length capv) = some k → k ≠ w.heap.size + 1 + 1 := fun k hk => by have := hf k hk; omega
  have hF : FreshV (w.heap.size + 1 + 1) (.slice av l.length capv) := hf.mono (by omega)
  have hbr : Below (w.heap.size + 1 + 1) ((w.alloc (.cells #[.int .i64 r, .slice a l.length cap] 37)).alloc (.cells #[.int .i64 0, .slice none 0 0] 40)) (w1.setCell ⟨w.heap.size + 1 + 1, 1, none⟩ (.slice av l.length capv)) :=
    (((Below.refl _ _).alloc (by simp) _).trans (b1.mono (by simp))).setCell (p := ⟨w.heap.size + 1 + 1, 1, none⟩) (Nat.le_refl _) _
  have hv1 : IntsS (w1.setCell ⟨w.heap.size + 1 + 1, 1, none⟩ (.slice av l.length capv)) (.slice av l.length capv) l := hv.setTag p (by decide) (by decide)
  have hT := res2_tail (w := w.alloc (.cells #[.int .i64 r, .slice a l.length cap] 37)) (.int .i64 r) (.slice av l.length capv) (by simpa using hbr)
  obtain ⟨d0, d1, g0, g1⟩ := res2_pre (w := w.alloc (.cells #[.int .i64 r, .slice a l.length cap] 37)) (w1 := w1.setCell ⟨w.heap.size + 1 + 1, 1, none⟩ (.slice av l.length capv)) (by simpa using hbr)
  have hout := (Blk.new (w.alloc (.cells #[.int .i64 r, .slice a l.length cap] 37)) #[.int .i64 0, .slice none 0 0] 40).belowB hbr (by simp)
  simp only [World.size_alloc] at hout
  have hw1 := (hv1.setTag (i := 0) (x := .int .i64 r) hout (by decide) (by decide)).setTag (i := 1) (x := .slice av l.length capv) (hout.set 0 (.int .i64 r)) (by decide) (by decide)
  simp only [World.size_alloc] at hT d0 d1 g0 g1
  unfold set2 at hT
  have HT := Lib.hid hT
  have HW := Lib.hid hw1
  have HX := Lib.hid hF
  obtain ⟨u0, u1⟩ := blk2 p3
  clear hT hw1 hv1 hbr hv p p3 b1 hF hne hf k0 hout
  go_wp2
  refine bodyPost_ret (v := .agg #[.int .i64 r, .slice av l.length capv]) (by simp [results, Try.results18, go_sem, HT.out.2.1, HT.out.2.2]) rfl ?_
  exact ⟨_, rfl, HW.out, HX.out.mono (by omega), H1.out.trans (HT.out.1.mono (by simp))⟩

end Go.Proofs.Ytmcjgaffecimlaa
