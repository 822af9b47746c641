/- ReverseAt, of the program and of the reference. -/
import Derived.Test.YtjgmiohaepcpbaaCopyQ
import Derived.Test.YtjgmiohaepcpbaaSinks
namespace Go.Proofs.Ytjgmiohaepcpbaa
open Go.RowKit
set_option linter.unusedVariables false
set_option linter.unusedSimpArgs false

/-- a vertex of a valid quiver that is not in a list -/
def freeQ (n : Int) (f t l : List Int) (v : Int) : Bool := isQ n f t && inR v 0 (n - 1) && !memI v l
theorem memI_append (x : Int) (a b : List Int) : memI x (a ++ b) = (memI x a || memI x b) := by simp [memI, List.any_append]
theorem mem_freeP (l : List Int) (v : Int) (k : Nat) : memI v (freeP l k) = (inR v 0 (k - 1) && !memI v l) := by
  induction k with
  | zero =>
    have : inR v 0 ((0 : Nat) - 1) = false := by
      unfold inR; simp; omega
    rw [this]; rfl
  | succ k ih =>
    by_cases hm : memI (k : Int) l = true
    · rw [freeP_in hm, ih]
      by_cases e : v = k
      · subst e; simp [hm]
      · have : inR v 0 ((k : Int) - 1) = inR v 0 (((k + 1 : Nat) : Int) - 1) := by
          unfold inR; congr 1; simp; omega
        rw [this]
    · have hm' : memI (k : Int) l = false := by simpa using hm
      rw [freeP_out hm', memI_append, ih]
      by_cases e : v = k
      · subst e
        have h1 : inR (k : Int) 0 (((k + 1 : Nat) : Int) - 1) = true := inR_mk (by omega) (by omega)
        rw [h1, hm']
        simp [memI]
      · have h1 : inR v 0 ((k : Int) - 1) = inR v 0 (((k + 1 : Nat) : Int) - 1) := by
          unfold inR; congr 1; simp; omega
        have h2 : memI v [(k : Int)] = false := by simp [memI, e]
        rw [h1, h2, Bool.or_false]
theorem mem_ends (n : Int) (f t l : List Int) (v : Int) : memI v (endsQ n f t l) = freeQ n f t l v := by
  unfold endsQ freeQ
  cases h : isQ n f t
  · simp [memI]
  · obtain ⟨n1, n5⟩ := isQ_n' h
    simp only [if_true]
    rw [mem_freeP, Int.toNat_of_nonneg (by omega)]
    simp

/-- what reversing at v leaves of the first list of an arrow's ends, k arrows done -/
def revK (a b : List Int) (v : Int) (k : Nat) : List Int := (List.range a.length).map fun (i : Nat) => if i < k ∧ (a.getD i 0 = v ∨ b.getD i 0 = v) then b.getD i 0 else a.getD i 0
theorem revK_len (a b : List Int) (v : Int) (k : Nat) : (revK a b v k).length = a.length := by simp [revK]
theorem revK_zero (a b : List Int) (v : Int) : revK a b v 0 = a := by
  apply List.ext_getElem (by simp [revK])
  intro i h1 h2
  simp [revK, List.getD, h2]
theorem revK_set {a b : List Int} {v : Int} {k : Nat} (hk : k < a.length) (h : a.getD k 0 = v ∨ b.getD k 0 = v) : (revK a b v k).set k (b.getD k 0) = revK a b v (k + 1) := by
  apply List.ext_getElem (by simp [revK])
  intro i h1 h2
  rw [List.getElem_set]
  simp only [revK, List.getElem_map, List.getElem_range]
  by_cases e : k = i
  · subst e
    rw [if_pos rfl, if_pos ⟨by omega, h⟩]
  · rw [if_neg e]
    by_cases h3 : i < k ∧ (a.getD i 0 = v ∨ b.getD i 0 = v)
    · rw [if_pos h3, if_pos ⟨by omega, h3.2⟩]
    · rw [if_neg h3, if_neg (fun h4 => h3 ⟨by omega, h4.2⟩)]
theorem revK_keep {a b : List Int} {v : Int} {k : Nat} (h : ¬ (a.getD k 0 = v ∨ b.getD k 0 = v)) : revK a b v k = revK a b v (k + 1) := by
  apply List.map_congr_left
  intro i _
  by_cases e : i = k
  · subst e
    rw [if_neg (fun h3 => by omega), if_neg (fun h3 => h h3.2)]
  · by_cases h3 : i < k ∧ (a.getD i 0 = v ∨ b.getD i 0 = v)
    · rw [if_pos h3, if_pos ⟨by omega, h3.2⟩]
    · rw [if_neg h3, if_neg (fun h4 => h3 ⟨by omega, h4.2⟩)]

def revOK (n : Int) (f t : List Int) (v : Int) : Bool := freeQ n f t t v || freeQ n f t f v
def revN (n : Int) (f t : List Int) (v : Int) : Int := if revOK n f t v = true then n else 0
def revL (n : Int) (f t a b : List Int) (v : Int) : List Int := if revOK n f t v = true then revK a b v a.length else []
theorem freeQ_isQ {n : Int} {f t l : List Int} {v : Int} (h : freeQ n f t l v = true) : isQ n f t = true := by
  unfold freeQ at h; simp only [Bool.and_eq_true] at h; exact h.1.1
theorem revOK_isQ {n : Int} {f t : List Int} {v : Int} (h : revOK n f t v = true) : isQ n f t = true := by
  unfold revOK at h
  simp only [Bool.or_eq_true] at h
  rcases h with h | h <;> exact freeQ_isQ h

set_option maxRecDepth 100000 in
set_option maxHeartbeats 1000000 in
theorem i_isSource (n : Int) (vf vt : Value) (lf lt : List Int) (x : Int) (w : World) (hf : Ints w vf lf) (ht : Ints w vt lt) :
    Calls Try.prog 53 #[.agg #[.int .i64 n, vf, vt], .int .i64 x] w (BoolAnsB (freeQ n lf lt lt x) w) := by
  obtain ⟨a1, c1, rfl, _, _⟩ := hf.shape
  obtain ⟨a2, c2, rfl, _, _⟩ := ht.shape
  have M := Lib.hid ((((MB.start w).addI hf).addI ht).alloc #[.int .i64 n, .slice a1 lf.length c1, .slice a2 lt.length c2] 27)
  clear hf ht
  go_enter Try.func53, Try.ntmps53
  go_wp2_with fail
  refine (i_IsQuiver _ _ _ lf lt _ M.out.i1 M.out.i0).mono ?_; rintro e w1 ⟨rfl, b1⟩
  have M1 := Lib.hid (M.out.call b1)
  clear b1
  obtain ⟨p0, p1, p2⟩ := blk3 M1.out.b0
  cases hQ : isQ n lf lt
  · have HE := Lib.hid (show freeQ n lf lt lt x = false by simp [freeQ, hQ])
    go_wp2
    go_ret
    exact ⟨ret_bool HE.out.symm, M1.out.bel⟩
  · obtain ⟨n1, n5⟩ := isQ_n' hQ
    go_wp2_with fail
    refine (i_hasVertex n _ _ x _ n1 n5 lf lt M1.out.i1 M1.out.i0).mono ?_; rintro e w2 ⟨rfl, b2⟩
    have M2 := Lib.hid (M1.out.call b2)
    clear b2 p0 p1 p2
    obtain ⟨p0, p1, p2⟩ := blk3 M2.out.b0
    cases hR : inR x 0 (n - 1)
    · have HE := Lib.hid (show freeQ n lf lt lt x = false by simp [freeQ, hR])
      go_wp2
      go_ret
      exact ⟨ret_bool HE.out.symm, M2.out.bel⟩
    · have HE := Lib.hid (show freeQ n lf lt lt x = !memI x lt by simp [freeQ, hR, hQ])
      go_wp2_with fail
      refine (Contains_ints _ lt _ _ M2.out.i0).mono ?_; rintro e wz ⟨rfl, rfl⟩
      go_wp2
      go_ret
      exact ⟨ret_bool HE.out.symm, M2.out.bel⟩
set_option maxRecDepth 100000 in
set_option maxHeartbeats 1000000 in
theorem i_isSink (n : Int) (vf vt : Value) (lf lt : List Int) (x : Int) (w : World) (hf : Ints w vf lf) (ht : Ints w vt lt) :
    Calls Try.prog 54 #[.agg #[.int .i64 n, vf, vt], .int .i64 x] w (BoolAnsB (freeQ n lf lt lf x) w) := by
  obtain ⟨a1, c1, rfl, _, _⟩ := hf.shape
  obtain ⟨a2, c2, rfl, _, _⟩ := ht.shape
  have M := Lib.hid ((((MB.start w).addI hf).addI ht).alloc #[.int .i64 n, .slice a1 lf.length c1, .slice a2 lt.length c2] 27)
  clear hf ht
  go_enter Try.func54, Try.ntmps54
  go_wp2_with fail
  refine (i_IsQuiver _ _ _ lf lt _ M.out.i1 M.out.i0).mono ?_; rintro e w1 ⟨rfl, b1⟩
  have M1 := Lib.hid (M.out.call b1)
  clear b1
  obtain ⟨p0, p1, p2⟩ := blk3 M1.out.b0
  cases hQ : isQ n lf lt
  · have HE := Lib.hid (show freeQ n lf lt lf x = false by simp [freeQ, hQ])
    go_wp2
    go_ret
    exact ⟨ret_bool HE.out.symm, M1.out.bel⟩
  · obtain ⟨n1, n5⟩ := isQ_n' hQ
    go_wp2_with fail
    refine (i_hasVertex n _ _ x _ n1 n5 lf lt M1.out.i1 M1.out.i0).mono ?_; rintro e w2 ⟨rfl, b2⟩
    have M2 := Lib.hid (M1.out.call b2)
    clear b2 p0 p1 p2
    obtain ⟨p0, p1, p2⟩ := blk3 M2.out.b0
    cases hR : inR x 0 (n - 1)
    · have HE := Lib.hid (show freeQ n lf lt lf x = false by simp [freeQ, hR])
      go_wp2
      go_ret
      exact ⟨ret_bool HE.out.symm, M2.out.bel⟩
    · have HE := Lib.hid (show freeQ n lf lt lf x = !memI x lf by simp [freeQ, hR, hQ])
      go_wp2_with fail
      refine (Contains_ints _ lf _ _ M2.out.i1).mono ?_; rintro e wz ⟨rfl, rfl⟩
      go_wp2
      go_ret
      exact ⟨ret_bool HE.out.symm, M2.out.bel⟩

end Go.Proofs.Ytjgmiohaepcpbaa
