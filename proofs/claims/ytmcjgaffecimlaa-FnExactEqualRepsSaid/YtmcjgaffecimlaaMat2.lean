/- IsMatrix and EqualMatrices, of the program and of the reference; toMatrix and szMatrix of the laws. -/
import Derived.Test.YtmcjgaffecimlaaMatAux
import Derived.Test.YtmcjgaffecimlaaSep
namespace Go.Proofs.Ytmcjgaffecimlaa
open Go.RowKit
set_option linter.unusedVariables false
set_option linter.unusedSimpArgs false

def isM (p r c : Int) (l : List Int) : Bool := inR r 0 8 && inR c 0 8 && decide ((l.length : Int) = r * c) && isV p l
theorem isM_true {p r c : Int} {l : List Int} (h : isM p r c l = true) : 0 ≤ r ∧ r ≤ 8 ∧ 0 ≤ c ∧ c ≤ 8 ∧ (l.length : Int) = r * c ∧ isV p l = true := by
  unfold isM at h
  simp only [Bool.and_eq_true, decide_eq_true_eq] at h
  obtain ⟨⟨⟨h1, h2⟩, h3⟩, h4⟩ := h
  obtain ⟨a, b⟩ := inR_true h1
  obtain ⟨c', d⟩ := inR_true h2
  exact ⟨a, b, c', d, h3, h4⟩
theorem mul_bd8 {r c : Int} (h0 : 0 ≤ r) (h1 : r ≤ 8) (h2 : 0 ≤ c) (h3 : c ≤ 8) : 0 ≤ r * c ∧ r * c ≤ 64 := by
  have := Int.mul_le_mul h1 h3 h2 (by omega)
  exact ⟨Int.mul_nonneg h0 h2, by omega⟩

set_option maxRecDepth 100000 in
set_option maxHeartbeats 1000000 in
theorem s_IsMatrix (p r c : Int) (v : Value) (l : List Int) (w : World) (hv : Ints w v l) :
    Calls Try.prog 27 #[.int .i64 p, .agg #[.int .i64 r, .int .i64 c, v]] w (BoolAnsB (isM p r c l) w) := by
  obtain ⟨a, cap, rfl, hlc, hcm⟩ := hv.shape
  have h2 : Below w.heap.size w (w.alloc (.cells #[.int .i64 r, .int .i64 c, .slice a l.length cap] 26)) := (Below.refl _ w).alloc (Nat.le_refl _) _
  have HV := Lib.hid (hv.below h2)
  have H2 := Lib.hid h2
  clear hv h2
  cases h1 : inR r 0 8
  · have HE := Lib.hid (show isM p r c l = false by simp [isM, h1])
    go_enter Try.func27, Try.ntmps27
    go_wp2_with fail
    refine (s_l1In _ _ _ _).mono ?_; rintro e wz ⟨rfl, rfl⟩
    go_wp2
    go_ret
    exact ⟨ret_bool HE.out.symm, H2.out⟩
  cases h3 : inR c 0 8
  · have HE := Lib.hid (show isM p r c l = false by simp [isM, h3])
    go_enter Try.func27, Try.ntmps27
    go_wp2_with fail
    refine (s_l1In _ _ _ _).mono ?_; rintro e wz ⟨rfl, rfl⟩
    go_wp2_with fail
    refine (s_l1In _ _ _ _).mono ?_; rintro e wz ⟨rfl, rfl⟩
    go_wp2
    go_ret
    exact ⟨ret_bool HE.out.symm, H2.out⟩
  obtain ⟨r0, r8⟩ := inR_true h1
  obtain ⟨c0, c8⟩ := inR_true h3
  obtain ⟨m0, m8⟩ := mul_bd8 r0 r8 c0 c8
  by_cases h4 : (l.length : Int) = r * c
  · have HE := Lib.hid (show isM p r c l = isV p l by simp [isM, h1, h3, h4])
    have h4b : ((l.length : Int) == r * c) = true := by simpa using h4
    clear h4
    go_enter Try.func27, Try.ntmps27
    go_wp2_with fail
    refine (s_l1In _ _ _ _).mono ?_; rintro e wz ⟨rfl, rfl⟩
    go_wp2_with fail
    refine (s_l1In _ _ _ _).mono ?_; rintro e wz ⟨rfl, rfl⟩
    go_wp2_with fail
    refine (s_IsVector _ _ l _ HV.out).mono ?_; rintro e wz ⟨rfl, rfl⟩
    go_wp2
    go_ret
    exact ⟨ret_bool HE.out.symm, H2.out⟩
  · have HE := Lib.hid (show isM p r c l = false by simp [isM, h4])
    have h4b : ((l.length : Int) == r * c) = false := by simpa using h4
    clear h4
    go_enter Try.func27, Try.ntmps27
    go_wp2_with fail
    refine (s_l1In _ _ _ _).mono ?_; rintro e wz ⟨rfl, rfl⟩
    go_wp2_with fail
    refine (s_l1In _ _ _ _).mono ?_; rintro e wz ⟨rfl, rfl⟩
    go_wp2
    go_ret
    exact ⟨ret_bool HE.out.symm, H2.out⟩

set_option maxRecDepth 100000 in
set_option maxHeartbeats 1000000 in
theorem i_IsMatrix (p r c : Int) (v : Value) (l : List Int) (w : World) (hv : Ints w v l) :
    Calls Try.prog 30 #[.int .i64 p, .agg #[.int .i64 r, .int .i64 c, v]] w (BoolAnsB (isM p r c l) w) := by
  obtain ⟨a, cap, rfl, hlc, hcm⟩ := hv.shape
  have h2 : Below w.heap.size w (w.alloc (.cells #[.int .i64 r, .int .i64 c, .slice a l.length cap] 26)) := (Below.refl _ w).alloc (Nat.le_refl _) _
  have HV := Lib.hid (hv.below h2)
  have H2 := Lib.hid h2
  clear hv h2
  cases h1 : inR r 0 8
  · have HE := Lib.hid (show isM p r c l = false by simp [isM, h1])
    go_enter Try.func30, Try.ntmps30
    go_wp2_with fail
    refine (i_within _ _ _ _).mono ?_; rintro e wz ⟨rfl, rfl⟩
    go_wp2
    go_ret
    exact ⟨ret_bool HE.out.symm, H2.out⟩
  cases h3 : inR c 0 8
  · have HE := Lib.hid (show isM p r c l = false by simp [isM, h3])
    go_enter Try.func30, Try.ntmps30
    go_wp2_with fail
    refine (i_within _ _ _ _).mono ?_; rintro e wz ⟨rfl, rfl⟩
    go_wp2_with fail
    refine (i_within _ _ _ _).mono ?_; rintro e wz ⟨rfl, rfl⟩
    go_wp2
    go_ret
    exact ⟨ret_bool HE.out.symm, H2.out⟩
  obtain ⟨r0, r8⟩ := inR_true h1
  obtain ⟨c0, c8⟩ := inR_true h3
  obtain ⟨m0, m8⟩ := mul_bd8 r0 r8 c0 c8
  by_cases h4 : (l.length : Int) = r * c
  · have HE := Lib.hid (show isM p r c l = isV p l by simp [isM, h1, h3, h4])
    have h4b : ((l.length : Int) == r * c) = true := by simpa using h4
    clear h4
    go_enter Try.func30, Try.ntmps30
    go_wp2_with fail
    refine (i_within _ _ _ _).mono ?_; rintro e wz ⟨rfl, rfl⟩
    go_wp2_with fail
    refine (i_within _ _ _ _).mono ?_; rintro e wz ⟨rfl, rfl⟩
    go_wp2_with fail
    refine (i_IsVector _ _ l _ HV.out).mono ?_; rintro e w1 ⟨rfl, b1⟩
    go_wp2
    go_ret
    exact ⟨ret_bool HE.out.symm, below_call H2.out b1 H2.out.size⟩
  · have HE := Lib.hid (show isM p r c l = false by simp [isM, h4])
    have h4b : ((l.length : Int) == r * c) = false := by simpa using h4
    clear h4
    go_enter Try.func30, Try.ntmps30
    go_wp2_with fail
    refine (i_within _ _ _ _).mono ?_; rintro e wz ⟨rfl, rfl⟩
    go_wp2_with fail
    refine (i_within _ _ _ _).mono ?_; rintro e wz ⟨rfl, rfl⟩
    go_wp2
    go_ret
    exact ⟨ret_bool HE.out.symm, H2.out⟩

set_option maxRecDepth 100000 in
set_option maxHeartbeats 1000000 in
theorem l_toMatrix (r c : Int) (v : Value) (l : List Int) (w : World) (hv : Raw w v l) (hl : l.length ≤ 1048576) :
    Calls Try.prog 9 #[.agg #[.int .i64 r, .int .i64 c, v]] w (MatNew r c l w) := by
  obtain ⟨a, cap, rfl, hlc, hcm⟩ := hv.shape
  have h1 : Below w.heap.size w (w.alloc (.cells #[.int .i64 r, .int .i64 c, .slice a l.length cap] 24)) := (Below.refl _ w).alloc (Nat.le_refl _) _
  obtain ⟨A, hA⟩ : ∃ A, A = w.alloc (.cells #[.int .i64 r, .int .i64 c, .slice a l.length cap] 24) := ⟨_, rfl⟩
  rw [← hA] at h1
  have hAs : A.heap.size = w.heap.size + 1 := by rw [hA]; simp
  have h2 : Below A.heap.size A (A.alloc (.cells #[.int .i64 0, .int .i64 0, .slice none 0 0] 26)) := (Below.refl _ A).alloc (Nat.le_refl _) _
  obtain ⟨Z, hZ⟩ : ∃ Z, Z = A.alloc (.cells #[.int .i64 0, .int .i64 0, .slice none 0 0] 26) := ⟨_, rfl⟩
  have hZs : Z.heap.size = w.heap.size + 1 + 1 := by rw [hZ]; simp [hAs]
  have h3 : Below Z.heap.size Z (Z.alloc (.cells #[.int .i64 r, .int .i64 c, .slice none 0 0] 26)) := (Below.refl _ Z).alloc (Nat.le_refl _) _
  have h13 : Below w.heap.size w (Z.alloc (.cells #[.int .i64 r, .int .i64 c, .slice none 0 0] 26)) := by
    refine h1.trans ((h2.mono (by omega)).trans ?_)
    rw [← hZ]; exact h3.mono (by omega)
  have HR := Lib.hid (hv.below h13)
  have hloc := Blk.new Z #[.int .i64 r, .int .i64 c, .slice none 0 0] 26
  have HLoc := Lib.hid hloc
  have H1 := Lib.hid h1
  clear hv h13 hloc h1 h2 h3 hAs hZs
  subst hZ; subst hA
  go_enter Try.func9, Try.ntmps9
  go_wp2_with fail
  refine (l_toIntS _ l _ HR.out hl).mono ?_; rintro e w1 ⟨v, rfl, hv, hf, b1⟩
  have p := HLoc.out.below b1
  obtain ⟨k0, k1, k2⟩ := blk3 p
  have q0 := p.frozen 2
  obtain ⟨N, hN⟩ : ∃ N, N = w.heap.size + 1 + 1 := ⟨_, rfl⟩
  simp only [World.size_alloc] at k0 k1 k2 q0 hf
  have hbZ : Below N ((w.alloc (.cells #[.int .i64 r, .int .i64 c, .slice a l.length cap] 24)).alloc (.cells #[.int .i64 0, .int .i64 0, .slice none 0 0] 26)) w1 :=
    ((Below.refl _ _).alloc (by simp; omega) _).trans (b1.mono (by simp; omega))
  have hbr := hbZ.setCell (p := ⟨N, 2, none⟩) (Nat.le_refl _) v
  have hv1 : Ints (w1.setCell ⟨N, 2, none⟩ v) v l := hv.keep fun k hk => heap_setCell_other _ _ _ _ (fun e => by have := hf k hk; simp at this e; omega)
  subst hN
  obtain ⟨av, capv, rfl, _, _⟩ := hv.shape
  have hT := mat_tail (w := w.alloc (.cells #[.int .i64 r, .int .i64 c, .slice a l.length cap] 24)) r c (by simpa using hbr) hv1 (hf.mono (by simp))
  obtain ⟨d0, d1, d2, g0, g1, g2⟩ := res_pre (w := w.alloc (.cells #[.int .i64 r, .int .i64 c, .slice a l.length cap] 24)) (w1 := w1.setCell ⟨w.heap.size + 1 + 1, 2, none⟩ (.slice av l.length capv)) (by simpa using hbr)
  simp only [World.size_alloc] at hT d0 d1 d2 g0 g1 g2
  have HT := Lib.hid hT
  have j0 : (w1.setCell ⟨w.heap.size + 1 + 1, 2, none⟩ (.slice av l.length capv)).cell? ⟨w.heap.size + 1 + 1, 0, none⟩ = some (.int .i64 r) := by rw [World.cell?_setCell_other _ _ _ _ (by simp)]; exact k0
  have j1 : (w1.setCell ⟨w.heap.size + 1 + 1, 2, none⟩ (.slice av l.length capv)).cell? ⟨w.heap.size + 1 + 1, 1, none⟩ = some (.int .i64 c) := by rw [World.cell?_setCell_other _ _ _ _ (by simp)]; exact k1
  have j2 : (w1.setCell ⟨w.heap.size + 1 + 1, 2, none⟩ (.slice av l.length capv)).cell? ⟨w.heap.size + 1 + 1, 2, none⟩ = some (.slice av l.length capv) := World.cell?_setCell_same _ _ _ k2
  clear hT hv1 hbr hbZ hv p b1
  go_wp2
  refine bodyPost_ret (v := .agg #[.int .i64 r, .int .i64 c, .slice av l.length capv]) (by simp [results, Try.results9, go_sem, HT.out.2.1, HT.out.2.2.1, HT.out.2.2.2]) rfl ?_
  exact ⟨_, rfl, HT.out.1.1, HT.out.1.2.1.mono (by omega), H1.out.trans (HT.out.1.2.2.mono (by omega))⟩

set_option maxRecDepth 100000 in
set_option maxHeartbeats 1000000 in
theorem l_szMatrix (r c : Int) (v : Value) (l : List Int) (left : Int) (w : World) (hv : Raw w v l) (h0 : 0 ≤ left) (h1 : left ≤ 1048576) :
    Calls Try.prog 7 #[.agg #[.int .i64 r, .int .i64 c, v], .int .i64 left] w (IntAnsC (szI left l) w) := by
  obtain ⟨a, cap, rfl, hlc, hcm⟩ := hv.shape
  have h2 : Below w.heap.size w (w.alloc (.cells #[.int .i64 r, .int .i64 c, .slice a l.length cap] 24)) := (Below.refl _ w).alloc (Nat.le_refl _) _
  have HV := Lib.hid (hv.below h2)
  have H2 := Lib.hid h2
  clear hv h2
  by_cases hlt : left < l.length
  · have HE := Lib.hid (show szI left l = -1 from if_pos hlt)
    go_enter Try.func7, Try.ntmps7
    go_wp2_with fail
    refine (l_szIntS _ l _ _ HV.out h0 h1).mono ?_; rintro e wz ⟨rfl, rfl⟩
    rw [HE.out]
    go_wp2
    go_ret
    exact ⟨ret_int HE.out.symm, H2.out⟩
  · have HE := Lib.hid (show szI left l = left - l.length from if_neg hlt)
    go_enter Try.func7, Try.ntmps7
    go_wp2_with fail
    refine (l_szIntS _ l _ _ HV.out h0 h1).mono ?_; rintro e wz ⟨rfl, rfl⟩
    rw [HE.out]
    go_wp2
    go_ret
    exact ⟨ret_int HE.out.symm, H2.out⟩

end Go.Proofs.Ytmcjgaffecimlaa
