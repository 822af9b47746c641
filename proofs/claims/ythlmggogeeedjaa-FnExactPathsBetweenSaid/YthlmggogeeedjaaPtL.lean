/- All paths of an acyclic quiver: the plain law: an order gives a rank that falls along arrows; the list of paths. -/
import Derived.Test.YthlmggogeeedjaaOrder
namespace Go.Proofs.Ythlmggogeeedjaa
open Go.RowKit
set_option linter.unusedVariables false
set_option linter.unusedSimpArgs false

theorem pickD_spec {f t L : List Int} {N : Nat} : ∀ d, d ≤ N → 0 ≤ pickD f t L N d → candP f t L (pickD f t L N d) = true ∧ pickD f t L N d < N := by
  intro d
  induction d with
  | zero => intro _ h; simp [pickD] at h
  | succ d ih =>
    intro hd h
    unfold pickD at h ⊢
    by_cases hc : candP f t L ((N : Int) - (d + 1)) = true
    · rw [if_pos hc]; exact ⟨hc, by omega⟩
    · rw [if_neg hc] at h ⊢; exact ih (by omega) h
theorem readyP_all {f t L : List Int} {v : Int} : ∀ m, readyP f t L v m = true → ∀ k, k < m → t.getD k 0 = v → memI (f.getD k 0) L = true := by
  intro m
  induction m with
  | zero => intro _ k hk; omega
  | succ m ih =>
    intro h k hk e
    simp only [readyP, Bool.and_eq_true, Bool.or_eq_true, Bool.not_eq_true'] at h
    by_cases hkm : k = m
    · subst hkm
      rcases h.2 with h2 | h2
      · rw [beq_eq_false_iff_ne] at h2; exact absurd e h2
      · exact h2
    · exact ih h.1 k (by omega) e
/-- what the order says of its next vertex -/
theorem ord_next {f t : List Int} {N k : Nat} (h : ordGo f t N = true) (hk : k < N) :
    0 ≤ nextV f t (ordL f t N k) N ∧ nextV f t (ordL f t N k) N < N ∧ memI (nextV f t (ordL f t N k) N) (ordL f t N k) = false ∧ ∀ i, i < t.length → t.getD i 0 = nextV f t (ordL f t N k) N → memI (f.getD i 0) (ordL f t N k) = true := by
  unfold ordGo at h
  rw [List.all_eq_true] at h
  have h0 := h k (List.mem_range.2 hk)
  simp only [decide_eq_true_eq] at h0
  obtain ⟨hc, hN⟩ := pickD_spec N (Nat.le_refl _) h0
  unfold candP at hc
  simp only [Bool.and_eq_true, Bool.not_eq_true'] at hc
  exact ⟨h0, hN, hc.1, readyP_all _ hc.2⟩
theorem memI_snoc (v x : Int) (L : List Int) : memI v (L ++ [x]) = (memI v L || v == x) := by
  unfold memI
  rw [List.any_append]
  simp
/-- how many of the first M vertices stand in L -/
def cntV (L : List Int) : Nat → Nat
  | 0 => 0
  | M + 1 => cntV L M + (if memI (M : Int) L = true then 1 else 0)
theorem cntV_le (L : List Int) : ∀ M, cntV L M ≤ M := by
  intro M; induction M with
  | zero => simp [cntV]
  | succ M ih => unfold cntV; split <;> omega
theorem cntV_all {L : List Int} : ∀ M, cntV L M = M → ∀ v, v < M → memI (v : Int) L = true := by
  intro M; induction M with
  | zero => intro _ v hv; omega
  | succ M ih =>
    intro h v hv
    unfold cntV at h
    have := cntV_le L M
    by_cases hm : memI (M : Int) L = true
    · rw [if_pos hm] at h
      by_cases e : v = M
      · rw [e]; exact hm
      · exact ih (by omega) v (by omega)
    · rw [if_neg hm] at h; omega
theorem cntV_snoc {L : List Int} {x : Nat} (hx : memI (x : Int) L = false) : ∀ M, cntV (L ++ [(x : Int)]) M = cntV L M + (if x < M then 1 else 0) := by
  intro M; induction M with
  | zero => simp [cntV]
  | succ M ih =>
    unfold cntV
    rw [ih, memI_snoc]
    by_cases e : M = x
    · subst e
      simp [hx]
    · have hb : ((M : Int) == (x : Int)) = false := by rw [beq_eq_false_iff_ne]; omega
      rw [hb, Bool.or_false]
      by_cases hlt : x < M
      · rw [if_pos hlt, if_pos (show x < M + 1 by omega)]; omega
      · rw [if_neg hlt, if_neg (show ¬ x < M + 1 by omega)]; omega
theorem ord_cnt {f t : List Int} {N : Nat} (h : ordGo f t N = true) : ∀ k, k ≤ N → cntV (ordL f t N k) N = k := by
  intro k; induction k with
  | zero =>
    intro _
    have : ∀ M, cntV [] M = 0 := fun M => by induction M with
      | zero => rfl
      | succ M ih => unfold cntV; rw [ih]; simp [memI]
    exact this N
  | succ k ih =>
    intro hk
    obtain ⟨h0, hN, hm, _⟩ := ord_next h (show k < N by omega)
    obtain ⟨x, hx⟩ := Int.eq_ofNat_of_zero_le h0
    unfold ordL
    rw [hx] at hm hN ⊢
    rw [cntV_snoc hm, ih (by omega), if_pos (by omega)]
/-- how many of the order's beginnings hold v: a rank -/
def rkV (f t : List Int) (N : Nat) (v : Int) : Nat → Nat
  | 0 => 0
  | k + 1 => rkV f t N v k + (if memI v (ordL f t N (k + 1)) = true then 1 else 0)
theorem mem_mono {f t : List Int} {N : Nat} {v : Int} : ∀ k j, memI v (ordL f t N k) = true → memI v (ordL f t N (k + j)) = true := by
  intro k j; induction j with
  | zero => intro h; exact h
  | succ j ih => intro h; rw [← Nat.add_assoc]; unfold ordL; rw [memI_snoc, ih h]; rfl
theorem rk_le (f t : List Int) (N : Nat) (v : Int) : ∀ k, rkV f t N v k ≤ k := by
  intro k; induction k with
  | zero => simp [rkV]
  | succ k ih => unfold rkV; split <;> omega
theorem rk_fall {f t : List Int} {N i : Nat} (h : ordGo f t N = true) (hi : i < t.length) (ht0 : 0 ≤ t.getD i 0) (htN : t.getD i 0 < N) : rkV f t N (t.getD i 0) N < rkV f t N (f.getD i 0) N := by
  have key : ∀ k, k ≤ N → rkV f t N (t.getD i 0) k ≤ rkV f t N (f.getD i 0) k ∧ (memI (t.getD i 0) (ordL f t N k) = true → memI (f.getD i 0) (ordL f t N k) = true ∧ rkV f t N (t.getD i 0) k < rkV f t N (f.getD i 0) k) := by
    intro k; induction k with
    | zero => intro _; exact ⟨Nat.le_refl _, fun hm => by simp [ordL, memI] at hm⟩
    | succ k ih =>
      intro hk
      obtain ⟨h1, h2⟩ := ih (by omega)
      obtain ⟨h0, hN, hm, hr⟩ := ord_next h (show k < N by omega)
      unfold rkV
      have hstep : ∀ v, memI v (ordL f t N (k + 1)) = (memI v (ordL f t N k) || v == nextV f t (ordL f t N k) N) := fun v => by
        show memI v (ordL f t N k ++ [nextV f t (ordL f t N k) N]) = _
        rw [memI_snoc]
      by_cases ht : memI (t.getD i 0) (ordL f t N (k + 1)) = true
      · rw [if_pos ht]
        rw [hstep] at ht
        rw [Bool.or_eq_true] at ht
        by_cases hold : memI (t.getD i 0) (ordL f t N k) = true
        · obtain ⟨h3, h4⟩ := h2 hold
          have h5 : memI (f.getD i 0) (ordL f t N (k + 1)) = true := mem_mono k 1 h3
          rw [if_pos h5]
          exact ⟨by omega, fun _ => ⟨h5, by omega⟩⟩
        · have he : t.getD i 0 = nextV f t (ordL f t N k) N := by
            rcases ht with ht | ht
            · exact absurd ht hold
            · simpa using ht
          have h3 := hr i hi he
          have h5 : memI (f.getD i 0) (ordL f t N (k + 1)) = true := mem_mono k 1 h3
          rw [if_pos h5]
          -- the target's rank was 0, the source's at least 1
          have hz : rkV f t N (t.getD i 0) k = 0 := by
            have : ∀ j, j ≤ k → rkV f t N (t.getD i 0) j = 0 := by
              intro j; induction j with
              | zero => intro _; rfl
              | succ j ihj =>
                intro hj
                unfold rkV
                rw [ihj (by omega)]
                have hnm : ¬ memI (t.getD i 0) (ordL f t N (j + 1)) = true := fun hh => hold (by
                  have := mem_mono (j + 1) (k - (j + 1)) hh
                  rwa [show j + 1 + (k - (j + 1)) = k by omega] at this)
                rw [if_neg hnm]
            exact this k (Nat.le_refl _)
          have h1k : 1 ≤ rkV f t N (f.getD i 0) k := by
            cases k with
            | zero => simp [ordL, memI] at h3
            | succ j => unfold rkV; rw [if_pos h3]; omega
          exact ⟨by omega, fun _ => ⟨h5, by omega⟩⟩
      · rw [if_neg ht]
        refine ⟨?_, fun hh => absurd hh ht⟩
        split <;> omega
  obtain ⟨h1, h2⟩ := key N (Nat.le_refl _)
  obtain ⟨x, hx⟩ := Int.eq_ofNat_of_zero_le ht0
  have hall := cntV_all N (ord_cnt h N (Nat.le_refl _)) x (by omega)
  rw [← hx] at hall
  exact (h2 hall).2

/-- the paths from v of at most d arrows (all of them, if d is at least v's rank), as lists of arrows -/
def pF (f t : List Int) : Nat → Int → List (List Int)
  | 0, _ => [[]]
  | d + 1, v => [] :: (List.range f.length).flatMap fun i => if f.getD i 0 = v then (pF f t d (t.getD i 0)).map ((i : Int) :: ·) else []
/-- the paths from v whose first arrow is one of the first k -/
def pK (f t : List Int) (d : Nat) (v : Int) (k : Nat) : List (List Int) := [] :: (List.range k).flatMap fun i => if f.getD i 0 = v then (pF f t d (t.getD i 0)).map ((i : Int) :: ·) else []
theorem pK_zero (f t : List Int) (d : Nat) (v : Int) : pK f t d v 0 = [[]] := by simp [pK]
theorem pK_succ (f t : List Int) (d : Nat) (v : Int) (k : Nat) : pK f t d v (k + 1) = pK f t d v k ++ (if f.getD k 0 = v then (pF f t d (t.getD k 0)).map ((k : Int) :: ·) else []) := by
  simp [pK, List.range_succ]
theorem pK_all (f t : List Int) (d : Nat) (v : Int) : pK f t d v f.length = pF f t (d + 1) v := rfl
end Go.Proofs.Ythlmggogeeedjaa
