/- EqualQuivers and EqualPaths, of the program and of the reference; the laws' own helpers on paths. -/
import Derived.Test.YtdmjikfjmimfmaaDoorQuiv
import Derived.Test.YtdmjikfjmimfmaaDoorEqual
namespace Go.Proofs.YtdmjikfjmimfmaaDoor
open Go.RowKit
set_option linter.unusedVariables false
set_option linter.unusedSimpArgs false



/-- a new path -/
def PathNew (n : Int) (l : List Int) (w : World) (e : Ending) (w' : World) : Prop :=
  ∃ v, e = .returned (.agg #[.int .i64 n, v]) ∧ Ints w' v l ∧ FreshV w.heap.size v ∧ Below w.heap.size w w'
/-- a new path and a word -/
def PathOK (n : Int) (l : List Int) (ok : Bool) (w : World) (e : Ending) (w' : World) : Prop :=
  ∃ v, e = .returned (.tuple #[.agg #[.int .i64 n, v], .bool ok]) ∧ Ints w' v l ∧ FreshV w.heap.size v ∧ Below w.heap.size w w'
/-- two paths are the same -/
def eqP (n : Int) (l : List Int) (n' : Int) (l' : List Int) : Bool := decide (n = n' ∧ l = l')
theorem eqP_refl (n : Int) (l : List Int) : eqP n l n l = true := by simp [eqP]

set_option maxRecDepth 100000 in
set_option maxHeartbeats 1000000 in
theorem l_eqPath (n n' : Int) (va vb : Value) (la lb : List Int) (w : World) (ha : Ints w va la) (hb : Ints w vb lb) :
    Calls Tryd.prog 16 #[.agg #[.int .i64 n, va], .agg #[.int .i64 n', vb]] w (BoolAnsB (eqP n la n' lb) w) := by
  obtain ⟨a, cap, rfl, hlc, hcm⟩ := ha.shape
  obtain ⟨b, capb, rfl, hlcb, hcmb⟩ := hb.shape
  have h2 : Below w.heap.size w ((w.alloc (.cells #[.int .i64 n, .slice a la.length cap] 32)).alloc (.cells #[.int .i64 n', .slice b lb.length capb] 32)) :=
    ((Below.refl _ w).alloc (Nat.le_refl _) _).alloc (by simp) _
  have HA := Lib.hid (ha.below h2)
  have HB := Lib.hid (hb.below h2)
  have H2 := Lib.hid h2
  clear ha hb h2
  by_cases e1 : n = n'
  · have HE := Lib.hid (show eqP n la n' lb = decide (la = lb) by simp [eqP, e1])
    subst e1
    go_enter Tryd.func16, Tryd.ntmps16
    go_wp2_with fail
    refine (l_eqIntS _ _ la lb _ HA.out HB.out).mono ?_; rintro e w1 ⟨rfl, b1⟩
    have hb3 := Lib.hid (below_call H2.out b1 H2.out.size)
    by_cases hq : la = lb
    · have hqd : decide (la = lb) = true := by simpa using hq
      have HQ := Lib.hid hq; clear hq
      go_wp2
      go_ret
      exact ⟨ret_bool (by rw [HE.out]; simpa using HQ.out), hb3.out⟩
    · have hqd : decide (la = lb) = false := by simpa using hq
      have HQ := Lib.hid hq; clear hq
      go_wp2
      go_ret
      exact ⟨ret_bool (by rw [HE.out]; simpa using HQ.out), hb3.out⟩
  · have HE := Lib.hid (show eqP n la n' lb = false by simp [eqP, e1])
    have hb2 : (n == n') = false := by simpa using e1
    clear e1
    go_enter Tryd.func16, Tryd.ntmps16
    go_wp2
    go_ret
    exact ⟨ret_bool HE.out.symm, H2.out⟩



set_option maxRecDepth 100000 in
set_option maxHeartbeats 1000000 in
theorem l_szPath (r : Int) (v : Value) (l : List Int) (left : Int) (w : World) (hv : Raw w v l) (h0 : 0 ≤ left) (h1 : left ≤ 1048576) :
    Calls Tryd.prog 10 #[.agg #[.int .i64 r, v], .int .i64 left] w (IntAnsC (szI left l) w) := by
  obtain ⟨a, cap, rfl, hlc, hcm⟩ := hv.shape
  have h2 : Below w.heap.size w (w.alloc (.cells #[.int .i64 r, .slice a l.length cap] 26)) := (Below.refl _ w).alloc (Nat.le_refl _) _
  have HV := Lib.hid (hv.below h2)
  have H2 := Lib.hid h2
  clear hv h2
  by_cases hlt : left < l.length
  · have HE := Lib.hid (show szI left l = -1 from if_pos hlt)
    go_enter Tryd.func10, Tryd.ntmps10
    go_wp2_with fail
    refine (l_szIntS _ l _ _ HV.out h0 h1).mono ?_; rintro e wz ⟨rfl, rfl⟩
    rw [HE.out]
    go_wp2
    go_ret
    exact ⟨ret_int HE.out.symm, H2.out⟩
  · have HE := Lib.hid (show szI left l = left - l.length from if_neg hlt)
    go_enter Tryd.func10, Tryd.ntmps10
    go_wp2_with fail
    refine (l_szIntS _ l _ _ HV.out h0 h1).mono ?_; rintro e wz ⟨rfl, rfl⟩
    rw [HE.out]
    go_wp2
    go_ret
    exact ⟨ret_int HE.out.symm, H2.out⟩

set_option maxRecDepth 100000 in
set_option maxHeartbeats 1000000 in
theorem l_toPath (r : Int) (v : Value) (l : List Int) (w : World) (hv : Raw w v l) (hl : l.length ≤ 1048576) :
    Calls Tryd.prog 13 #[.agg #[.int .i64 r, v]] w (PathNew r l w) := by
  obtain ⟨a, cap, rfl, hlc, hcm⟩ := hv.shape
  have h1 : Below w.heap.size w (w.alloc (.cells #[.int .i64 r, .slice a l.length cap] 26)) := (Below.refl _ w).alloc (Nat.le_refl _) _
  obtain ⟨A, hA⟩ : ∃ A, A = w.alloc (.cells #[.int .i64 r, .slice a l.length cap] 26) := ⟨_, rfl⟩
  rw [← hA] at h1
  have hAs : A.heap.size = w.heap.size + 1 := by rw [hA]; simp
  have h2 : Below A.heap.size A (A.alloc (.cells #[.int .i64 0, .slice none 0 0] 32)) := (Below.refl _ A).alloc (Nat.le_refl _) _
  obtain ⟨Z, hZ⟩ : ∃ Z, Z = A.alloc (.cells #[.int .i64 0, .slice none 0 0] 32) := ⟨_, rfl⟩
  have hZs : Z.heap.size = w.heap.size + 1 + 1 := by rw [hZ]; simp [hAs]
  have h3 : Below Z.heap.size Z (Z.alloc (.cells #[.int .i64 r, .slice none 0 0] 32)) := (Below.refl _ Z).alloc (Nat.le_refl _) _
  have h13 : Below w.heap.size w (Z.alloc (.cells #[.int .i64 r, .slice none 0 0] 32)) := by
    refine h1.trans ((h2.mono (by omega)).trans ?_)
    rw [← hZ]; exact h3.mono (by omega)
  have HR := Lib.hid (hv.below h13)
  have hloc := Blk.new Z #[.int .i64 r, .slice none 0 0] 32
  have HLoc := Lib.hid hloc
  have H1 := Lib.hid h1
  clear hv h13 hloc h1 h2 h3 hAs hZs
  subst hZ; subst hA
  go_enter Tryd.func13, Tryd.ntmps13
  go_wp2_with fail
  refine (l_toIntS _ l _ HR.out hl).mono ?_; rintro e w1 ⟨v, rfl, hv, hf, b1⟩
  have p := HLoc.out.below b1
  have q0 := p.frozen 1
  simp only [World.size_alloc] at q0 hf p
  obtain ⟨k0, k1⟩ := blk2 p
  obtain ⟨av, capv, rfl, _, _⟩ := hv.shape
  have p3 : Blk (w1.setCell ⟨w.heap.size + 1 + 1, 1, none⟩ (.slice av l.length capv)) (w.heap.size + 1 + 1) #[.int .i64 r, .slice av l.length capv] 32 := p.set 1 _
  have hne : ∀ k, blk (.slice av l.length capv) = some k → k ≠ w.heap.size + 1 + 1 := fun k hk => by have := hf k hk; omega
  have hF : FreshV (w.heap.size + 1 + 1) (.slice av l.length capv) := hf.mono (by omega)
  have hbr : Below (w.heap.size + 1 + 1) ((w.alloc (.cells #[.int .i64 r, .slice a l.length cap] 26)).alloc (.cells #[.int .i64 0, .slice none 0 0] 32)) (w1.setCell ⟨w.heap.size + 1 + 1, 1, none⟩ (.slice av l.length capv)) :=
    (((Below.refl _ _).alloc (by simp) _).trans (b1.mono (by simp))).setCell (p := ⟨w.heap.size + 1 + 1, 1, none⟩) (Nat.le_refl _) _
  have hv1 : Ints (w1.setCell ⟨w.heap.size + 1 + 1, 1, none⟩ (.slice av l.length capv)) (.slice av l.length capv) l := hv.keep fun k hk => heap_setCell_other _ _ _ _ (hne k hk)
  have hT := res2_tail (w := w.alloc (.cells #[.int .i64 r, .slice a l.length cap] 26)) (.int .i64 r) (.slice av l.length capv) (by simpa using hbr)
  obtain ⟨d0, d1, g0, g1⟩ := res2_pre (w := w.alloc (.cells #[.int .i64 r, .slice a l.length cap] 26)) (w1 := w1.setCell ⟨w.heap.size + 1 + 1, 1, none⟩ (.slice av l.length capv)) (by simpa using hbr)
  have hw1 := set2_ints hv1 (b := w.heap.size + 1) (fun k hk => by have := hF k hk; omega) (.int .i64 r) (.slice av l.length capv)
  simp only [World.size_alloc] at hT d0 d1 g0 g1
  unfold set2 at hT hw1
  have HT := Lib.hid hT
  have HW := Lib.hid hw1
  have HX := Lib.hid hF
  obtain ⟨u0, u1⟩ := blk2 p3
  clear hT hw1 hv1 hbr hv p p3 b1 hF hne hf k0
  go_wp2
  refine bodyPost_ret (v := .agg #[.int .i64 r, .slice av l.length capv]) (by simp [results, Tryd.results13, go_sem, HT.out.2.1, HT.out.2.2]) rfl ?_
  exact ⟨_, rfl, HW.out, HX.out.mono (by omega), H1.out.trans (HT.out.1.mono (by simp))⟩

end Go.Proofs.YtdmjikfjmimfmaaDoor
