/- SpacesOf of the program, plain words: pivots, cells, matrices, bases. No program is read here. -/
import Derived.Test.YtjcgommdeplbbaaSpE
import Derived.Test.YtjcgommdeplbbaaSinks
namespace Go.Proofs.Ytjcgommdeplbbaa
set_option linter.unusedVariables false
set_option linter.unusedSimpArgs false

/-- the columns of the set's bits -/
def pivL (s : Nat) : Nat → List Int
  | 0 => []
  | c + 1 => pivL s c ++ (if (s / 2 ^ c) % 2 = 1 then [(c : Int)] else [])
theorem pivL_len (s : Nat) : ∀ n, (pivL s n).length ≤ n
  | 0 => by simp [pivL]
  | n + 1 => by
    have := pivL_len s n
    simp only [pivL]
    split <;> simp <;> omega
theorem pivL_in {s : Nat} : ∀ {n : Nat} {x : Int}, x ∈ pivL s n → 0 ≤ x ∧ x < n
  | 0, x, h => by simp [pivL] at h
  | n + 1, x, h => by
    simp only [pivL, List.mem_append] at h
    rcases h with h | h
    · have := pivL_in h; omega
    · split at h
      · simp at h; omega
      · simp at h
theorem pivL_get {s n i : Nat} (hi : i < (pivL s n).length) : 0 ≤ (pivL s n).getD i 0 ∧ (pivL s n).getD i 0 < n := by
  have : (pivL s n).getD i 0 ∈ pivL s n := by simp [List.getD, hi]
  exact pivL_in this
/-- the free cells of row i, ahead of column c of the free ones -/
def cellR (fr : List Int) (i : Nat) (pv : Int) : Nat → List (Int × Int)
  | 0 => []
  | t + 1 => cellR fr i pv t ++ (if pv < fr.getD t 0 then [((i : Int), fr.getD t 0)] else [])
def cellL (piv fr : List Int) : Nat → List (Int × Int)
  | 0 => []
  | i + 1 => cellL piv fr i ++ cellR fr i (piv.getD i 0) fr.length
theorem cellR_len (fr : List Int) (i : Nat) (pv : Int) : ∀ t, (cellR fr i pv t).length ≤ t
  | 0 => by simp [cellR]
  | t + 1 => by
    have := cellR_len fr i pv t
    simp only [cellR]
    split <;> simp <;> omega
theorem cellL_len (piv fr : List Int) : ∀ k, (cellL piv fr k).length ≤ k * fr.length
  | 0 => by simp [cellL]
  | k + 1 => by
    have h1 := cellL_len piv fr k
    have h2 := cellR_len fr k (piv.getD k 0) fr.length
    rw [cellL, List.length_append, Nat.succ_mul]
    omega
theorem cellR_in {fr : List Int} {i : Nat} {pv : Int} : ∀ {t : Nat} {x : Int × Int}, t ≤ fr.length → x ∈ cellR fr i pv t → x.1 = i ∧ x.2 ∈ fr ∧ pv < x.2
  | 0, x, _, h => by simp [cellR] at h
  | t + 1, x, ht, h => by
    simp only [cellR, List.mem_append] at h
    rcases h with h | h
    · exact cellR_in (by omega) h
    · split at h
      · rename_i hlt
        simp at h
        subst h
        refine ⟨rfl, ?_, hlt⟩
        show fr.getD t 0 ∈ fr
        simp [List.getD, show t < fr.length by omega]
      · simp at h
theorem cellL_in {piv fr : List Int} : ∀ {k : Nat} {x : Int × Int}, x ∈ cellL piv fr k → 0 ≤ x.1 ∧ x.1 < k ∧ x.2 ∈ fr ∧ piv.getD x.1.toNat 0 < x.2
  | 0, x, h => by simp [cellL] at h
  | k + 1, x, h => by
    rw [cellL, List.mem_append] at h
    rcases h with h | h
    · obtain ⟨h1, h2, h3, h4⟩ := cellL_in h; exact ⟨h1, by omega, h3, h4⟩
    · obtain ⟨h1, h2, h3⟩ := cellR_in (Nat.le_refl _) h
      exact ⟨by omega, by omega, h2, by rw [h1]; simpa using h3⟩
theorem freeP_mem {l : List Int} : ∀ {n : Nat} {x : Int}, x ∈ freeP l n → 0 ≤ x ∧ x < n ∧ memI x l = false
  | 0, x, h => by simp [freeP] at h
  | n + 1, x, h => by
    simp only [freeP] at h
    split at h
    · obtain ⟨h1, h2, h3⟩ := freeP_mem h; exact ⟨h1, by omega, h3⟩
    · rename_i hm
      rw [List.mem_append] at h
      rcases h with h | h
      · obtain ⟨h1, h2, h3⟩ := freeP_mem h; exact ⟨h1, by omega, h3⟩
      · simp at h; subst h; exact ⟨by omega, by omega, by simpa using hm⟩
/-- the ones are laid -/
def fillP (n : Nat) (piv : List Int) (l : List Int) : Nat → List Int
  | 0 => l
  | i + 1 => (fillP n piv l i).set (i * n + (piv.getD i 0).toNat) 1
/-- the free cells are laid -/
def fillC (n : Nat) (cs : List (Int × Int)) (vals : List Int) (l : List Int) : Nat → List Int
  | 0 => l
  | j + 1 => (fillC n cs vals l j).set ((cs.getD j (0, 0)).1.toNat * n + (cs.getD j (0, 0)).2.toNat) (vals.getD j 0)
theorem fillP_len (n : Nat) (piv l : List Int) : ∀ i, (fillP n piv l i).length = l.length
  | 0 => rfl
  | i + 1 => by rw [fillP, List.length_set, fillP_len n piv l i]
theorem fillC_len (n : Nat) (cs : List (Int × Int)) (vals l : List Int) : ∀ i, (fillC n cs vals l i).length = l.length
  | 0 => rfl
  | i + 1 => by rw [fillC, List.length_set, fillC_len n cs vals l i]
def frX (n s : Nat) : List Int := freeP (pivL s n) n
def csX (n k s : Nat) : List (Int × Int) := cellL (pivL s n) (frX n s) k
def matX (n k s : Nat) (vals : List Int) : List Int := fillC n (csX n k s) vals (fillP n (pivL s n) (List.replicate (k * n) 0) k) (csX n k s).length
def basX (n k s : Nat) (vals : List Int) : List (List Int) := rowsK n (matX n k s vals) k
/-- the bases of one set of pivots, the first c of them -/
def rawC (p : Int) (n k s c : Nat) : List (List (List Int)) := (List.range c).map fun (x : Nat) => basX n k s (vecL p (csX n k s).length (x : Int))
def rawS (p : Int) (n k s : Nat) : List (List (List Int)) := if (pivL s n).length = k then rawC p n k s (p ^ (csX n k s).length).toNat else []
/-- the bases of the first sets -/
def rawL (p : Int) (n k : Nat) : Nat → List (List (List Int))
  | 0 => []
  | s + 1 => rawL p n k s ++ rawS p n k s
theorem rawC_succ (p : Int) (n k s c : Nat) : rawC p n k s (c + 1) = rawC p n k s c ++ [basX n k s (vecL p (csX n k s).length (c : Int))] := by simp [rawC, List.range_succ]
theorem free_len : ∀ (n : Fin 5) (s : Fin 16), (freeP (pivL s.val n.val) n.val).length + (pivL s.val n.val).length = n.val := by decide
theorem cs_len {n k s : Nat} (hn : n ≤ 4) (hs : s < 16) (hl : (pivL s n).length = k) : (csX n k s).length ≤ 4 := by
  have h1 := free_len ⟨n, by omega⟩ ⟨s, hs⟩
  have h2 := cellL_len (pivL s n) (frX n s) k
  dsimp only at h1
  rw [show frX n s = freeP (pivL s n) n from rfl] at h2
  have h3 : (freeP (pivL s n) n).length = n - k := by omega
  rw [h3] at h2
  have h4 : k ≤ n := by omega
  have h5 : k * (n - k) ≤ 4 := by
    have a : n = 0 ∨ n = 1 ∨ n = 2 ∨ n = 3 ∨ n = 4 := by omega
    have b : k = 0 ∨ k = 1 ∨ k = 2 ∨ k = 3 ∨ k = 4 := by omega
    rcases a with rfl | rfl | rfl | rfl | rfl <;> rcases b with rfl | rfl | rfl | rfl | rfl <;> omega
  exact Nat.le_trans h2 h5
theorem rawS_len {p : Int} {n k s : Nat} (hp : isF p = true) (hn : n ≤ 4) (hs : s < 16) : (rawS p n k s).length ≤ 390625 := by
  unfold rawS
  split
  · rename_i h
    have h1 := pow_bd hp (show (csX n k s).length ≤ 8 by have := cs_len hn hs h; omega)
    simp [rawC]
    omega
  · simp
theorem rawL_len {p : Int} {n k : Nat} (hp : isF p = true) (hn : n ≤ 4) : ∀ s, s < 16 → (rawL p n k s).length ≤ s * 390625
  | 0, _ => by simp [rawL]
  | s + 1, h => by
    have h1 := rawL_len (k := k) hp hn s (by omega)
    have h2 := rawS_len (k := k) hp hn (show s < 16 by omega)
    rw [rawL, List.length_append, Nat.succ_mul]
    omega
theorem piv_ex : ∀ (n k : Fin 5), k.val ≤ n.val → ∃ s : Fin 16, s.val < 2 ^ n.val ∧ (pivL s.val n.val).length = k.val := by decide
theorem rawL_mono (p : Int) (n k s : Nat) : ∀ d, (rawL p n k s).length ≤ (rawL p n k (s + d)).length
  | 0 => Nat.le_refl _
  | d + 1 => by
    have := rawL_mono p n k s d
    rw [show s + (d + 1) = (s + d) + 1 by omega, rawL, List.length_append]
    omega
theorem rawL_pos {p : Int} {n k M : Nat} (hp : isF p = true) (hn : n ≤ 4) (hk : k ≤ n) (hM : M = 2 ^ n) : 0 < (rawL p n k M).length := by
  obtain ⟨s, h1, h2⟩ := piv_ex ⟨n, by omega⟩ ⟨k, by omega⟩ hk
  dsimp only at h1 h2
  have h3 := rawL_mono p n k (s.val + 1) (M - (s.val + 1))
  rw [show s.val + 1 + (M - (s.val + 1)) = M by omega] at h3
  have h4 : 0 < (rawS p n k s.val).length := by
    unfold rawS
    rw [if_pos h2]
    have h5 := pow_bd hp (show (csX n k s.val).length ≤ 8 by have := cs_len (k := k) hn s.isLt h2; omega)
    simp [rawC]
    omega
  rw [rawL, List.length_append] at h3
  omega
end Go.Proofs.Ytjcgommdeplbbaa
