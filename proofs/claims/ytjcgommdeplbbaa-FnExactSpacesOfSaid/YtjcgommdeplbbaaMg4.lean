/- All reduced bases, in order: the reference's list is sorted; its members. No program is read here. The program's bases are the reference's, in another order. No program is read here. The program's bases are the reference's, in another order: the two lists hold the same. No program is read here. -/
import Derived.Test.YtjcgommdeplbbaaSpiL
import Derived.Test.YtjcgommdeplbbaaCmpL
import Derived.Test.YtjcgommdeplbbaaMg7
import Derived.Test.YtjcgommdeplbbaaSpCL
namespace Go.Proofs.Ytjcgommdeplbbaa
set_option linter.unusedVariables false
set_option linter.unusedSimpArgs false

theorem vecL_cons (p : Int) (n : Nat) (c : Int) : vecL p (n + 1) c = (c / p ^ n % p) :: vecL p n c := by
  unfold vecL gen
  rw [List.range_succ_eq_map, List.map_cons, List.map_map]
  congr 1
  refine List.map_congr_left fun t ht => ?_
  have : t < n := List.mem_range.1 ht
  show c / p ^ (n + 1 - 1 - (t + 1)) % p = c / p ^ (n - 1 - t) % p
  congr 3
  omega
theorem div_step {p : Int} (hp : 2 ≤ p) (c : Int) (n : Nat) : c / p ^ n = p * (c / p ^ (n + 1)) + c / p ^ n % p := by
  have h : c / p ^ (n + 1) = c / p ^ n / p := by
    rw [Int.ediv_ediv_of_nonneg (Int.le_of_lt (Int.pow_pos (by omega))), Int.pow_succ]
  rw [h]
  exact (Int.mul_ediv_add_emod _ _).symm
theorem vec_lt {p : Int} (hp : 2 ≤ p) : ∀ (n : Nat) (c c' : Int), c < c' → c / p ^ n = c' / p ^ n → cmpV (vecL p n c) (vecL p n c') < 0
  | 0, c, c', h, e => by simp at e; omega
  | n + 1, c, c', h, e => by
    rw [vecL_cons, vecL_cons]
    have h1 := div_step hp c n
    have h2 := div_step hp c' n
    rw [← e] at h2
    have h3 : c / p ^ n ≤ c' / p ^ n := Int.ediv_le_ediv (Int.pow_pos (by omega)) (by omega)
    unfold cmpV cmpG
    by_cases hd : c / p ^ n % p = c' / p ^ n % p
    · rw [if_pos (by rw [hd]; exact ordI.refl _)]
      exact vec_lt hp n c c' h (by omega)
    · have hlt : c / p ^ n % p < c' / p ^ n % p := by omega
      have hc : cmpI (c / p ^ n % p) (c' / p ^ n % p) = -1 := by unfold cmpI; rw [if_pos hlt]
      rw [hc, if_neg (by decide)]
      decide
theorem vecs_sorted {p : Int} (hp : 2 ≤ p) (N : Nat) : (vecs p N (p ^ N).toNat).Pairwise (fun a b => cmpV a b < 0) := by
  unfold vecs
  rw [List.pairwise_map]
  refine (List.pairwise_lt_range (n := (p ^ N).toNat)).imp_of_mem ?_
  intro a b ha hb hab
  have ha' := List.mem_range.1 ha
  have hb' := List.mem_range.1 hb
  have hpos : 0 < p ^ N := Int.pow_pos (by omega)
  exact vec_lt hp N a b (by omega) (by rw [Int.ediv_eq_zero_of_lt (by omega) (by omega), Int.ediv_eq_zero_of_lt (by omega) (by omega)])
theorem refL_sorted {p : Int} (hp : 2 ≤ p) (N : Nat) : ∀ k, (refL p N (p ^ N).toNat k).Pairwise (fun a b => cmpR a b < 0)
  | 0 => by simp [refL]
  | k + 1 => by
    have ih := refL_sorted hp N k
    rw [refL, List.pairwise_flatMap]
    refine ⟨fun v _ => ?_, (vecs_sorted hp N).imp ?_⟩
    · unfold inn
      refine List.Pairwise.filter _ ?_
      rw [List.pairwise_map]
      refine ih.imp ?_
      intro a b hab
      unfold cmpR cmpG
      rw [if_pos (ordV.refl v)]
      exact hab
    · intro v v' hv x hx y hy
      unfold inn at hx hy
      simp only [List.mem_filter, List.mem_map] at hx hy
      obtain ⟨⟨B, _, rfl⟩, _⟩ := hx
      obtain ⟨⟨B', _, rfl⟩, _⟩ := hy
      unfold cmpR cmpG
      rw [if_neg (by omega)]
      exact hv
theorem refL_iff {p : Int} {N M : Nat} : ∀ {k : Nat} {B : List (List Int)}, B ∈ refL p N M k ↔ B.length = k ∧ (∀ b ∈ B, b ∈ vecs p N M) ∧ rrB B = true
  | 0, B => by
    simp only [refL, List.mem_singleton]
    constructor
    · rintro rfl; simp [rrB]
    · rintro ⟨h, _⟩; exact List.length_eq_zero_iff.1 h
  | k + 1, B => by
    simp only [refL, List.mem_flatMap, inn, List.mem_filter, List.mem_map]
    constructor
    · rintro ⟨v, hv, ⟨B', hB', rfl⟩, hr⟩
      obtain ⟨h1, h2, _⟩ := refL_iff.1 hB'
      exact ⟨by simp [h1], fun b hb => by
        rcases List.mem_cons.1 hb with rfl | hb
        · exact hv
        · exact h2 b hb, hr⟩
    · rintro ⟨h1, h2, h3⟩
      cases B with
      | nil => simp at h1
      | cons v B' =>
        refine ⟨v, h2 v (by simp), ⟨B', refL_iff.2 ⟨by simpa using h1, fun b hb => h2 b (by simp [hb]), ?_⟩, rfl⟩, h3⟩
        unfold rrB at h3
        rw [Bool.and_eq_true] at h3
        exact h3.2
/-- a list of digits is one of the vectors -/
theorem vec_surj {p : Int} (hp : 2 ≤ p) : ∀ (n : Nat) (v : List Int), v.length = n → (∀ x ∈ v, 0 ≤ x ∧ x < p) → ∃ c : Nat, (c : Int) < p ^ n ∧ v = vecL p n (c : Int)
  | 0, v, hl, _ => ⟨0, by simp, by rw [List.length_eq_zero_iff.1 hl]; rfl⟩
  | n + 1, [], hl, _ => by simp at hl
  | n + 1, d :: v, hl, hx => by
    obtain ⟨c, hc, rfl⟩ := vec_surj hp n v (by simpa using hl) (fun x h => hx x (by simp [h]))
    obtain ⟨hd0, hd1⟩ := hx d (by simp)
    have hpos : 0 < p ^ n := Int.pow_pos (by omega)
    refine ⟨d.toNat * (p ^ n).toNat + c, ?_, ?_⟩
    · have e : ((d.toNat * (p ^ n).toNat + c : Nat) : Int) = d * p ^ n + c := by
        rw [Int.natCast_add, Int.natCast_mul, Int.toNat_of_nonneg hd0, Int.toNat_of_nonneg (Int.le_of_lt hpos)]
      rw [e, Int.pow_succ]
      have h1 : d * p ^ n + p ^ n ≤ p * p ^ n := by
        have := Int.mul_le_mul_of_nonneg_right (show d + 1 ≤ p by omega) (Int.le_of_lt hpos)
        rw [Int.add_mul, Int.one_mul] at this
        exact this
      rw [Int.mul_comm (p ^ n) p]
      omega
    · have e : ((d.toNat * (p ^ n).toNat + c : Nat) : Int) = c + d * p ^ n := by
        rw [Int.natCast_add, Int.natCast_mul, Int.toNat_of_nonneg hd0, Int.toNat_of_nonneg (Int.le_of_lt hpos), Int.add_comm]
      rw [e, vecL_cons, Int.add_mul_ediv_right _ _ (by omega), Int.ediv_eq_zero_of_lt (by omega) hc, Int.zero_add, Int.emod_eq_of_lt hd0 hd1]
      congr 1
      unfold vecL gen
      refine List.map_congr_left fun t ht => ?_
      have htn : t < n := List.mem_range.1 ht
      obtain ⟨j, hj⟩ : ∃ j, j = n - 1 - t := ⟨_, rfl⟩
      rw [← hj]
      obtain ⟨s, hs⟩ : ∃ s, n = j + 1 + s := ⟨n - j - 1, by omega⟩
      have hpw : p ^ n = p ^ j * (p * p ^ s) := by rw [hs, Int.pow_add, Int.pow_succ, Int.mul_assoc]
      have hmul : d * p ^ n = p ^ j * (p * (d * p ^ s)) := by rw [hpw, Int.mul_left_comm, Int.mul_left_comm d p]
      have hpj : 0 < p ^ j := Int.pow_pos (by omega)
      rw [hmul, Int.add_mul_ediv_left _ _ (by omega), Int.add_mul_emod_self_left]
theorem vec_mem {p : Int} (hp : 2 ≤ p) {n : Nat} {v : List Int} (hl : v.length = n) (hx : ∀ x ∈ v, 0 ≤ x ∧ x < p) : v ∈ vecs p n (p ^ n).toNat := by
  obtain ⟨c, hc, rfl⟩ := vec_surj hp n v hl hx
  unfold vecs
  exact List.mem_map.2 ⟨c, List.mem_range.2 (by omega), rfl⟩
theorem vecL_dig {p : Int} (hp : 2 ≤ p) {n : Nat} {c : Int} : ∀ x ∈ vecL p n c, 0 ≤ x ∧ x < p := by
  intro x hx
  unfold vecL gen at hx
  simp only [List.mem_map] at hx
  obtain ⟨t, _, rfl⟩ := hx
  exact ⟨Int.emod_nonneg _ (by omega), Int.emod_lt_of_pos _ (by omega)⟩
end Go.Proofs.Ytjcgommdeplbbaa

namespace Go.Proofs.Ytjcgommdeplbbaa
set_option linter.unusedVariables false
set_option linter.unusedSimpArgs false

theorem idx_eq {n r c i d : Nat} (hc : c < n) (hd : d < n) (h : r * n + c = i * n + d) : r = i ∧ c = d := by
  rcases Nat.lt_trichotomy r i with hlt | rfl | hlt
  · have : (r + 1) * n ≤ i * n := Nat.mul_le_mul_right _ hlt
    rw [Nat.succ_mul] at this; omega
  · exact ⟨rfl, by omega⟩
  · have : (i + 1) * n ≤ r * n := Nat.mul_le_mul_right _ hlt
    rw [Nat.succ_mul] at this; omega
theorem getD_set {l : List Int} {i j : Nat} {x : Int} (hi : i < l.length) : (l.set i x).getD j 0 = if i = j then x else l.getD j 0 := by
  simp only [List.getD, List.getElem?_set]
  by_cases h : i = j
  · subst h
    rw [if_pos rfl, if_pos rfl, if_pos hi]; rfl
  · rw [if_neg h, if_neg h]
theorem idx_lt {k n r c : Nat} (hr : r < k) (hc : c < n) : r * n + c < k * n := by
  have : (r + 1) * n ≤ k * n := Nat.mul_le_mul_right _ hr
  rw [Nat.succ_mul] at this; omega
section
variable {n k s : Nat}
theorem fillP_get (hl : (pivL s n).length = k) (l : List Int) (hll : l.length = k * n) {r c : Nat} (hr : r < k) (hc : c < n) : ∀ i, i ≤ k →
    (fillP n (pivL s n) l i).getD (r * n + c) 0 = if r < i ∧ (pivL s n).getD r 0 = (c : Int) then 1 else l.getD (r * n + c) 0
  | 0, _ => by simp [fillP]
  | i + 1, hi => by
    have ih := fillP_get hl l hll hr hc i (by omega)
    obtain ⟨h0, h1⟩ := pivL_get (s := s) (n := n) (i := i) (by omega)
    have hd : ((pivL s n).getD i 0).toNat < n := by omega
    rw [fillP, getD_set (by rw [fillP_len, hll]; exact idx_lt (by omega) hd), ih]
    by_cases he : i * n + ((pivL s n).getD i 0).toNat = r * n + c
    · obtain ⟨rfl, e2⟩ := idx_eq hd hc he
      rw [if_pos he, if_pos ⟨by omega, by omega⟩]
    · rw [if_neg he]
      by_cases h2 : r < i ∧ (pivL s n).getD r 0 = (c : Int)
      · rw [if_pos h2, if_pos ⟨by omega, h2.2⟩]
      · rw [if_neg h2, if_neg (fun h3 => h2 ⟨?_, h3.2⟩)]
        rcases Nat.lt_or_ge r i with h | h
        · exact h
        · exfalso
          have hri : r = i := by omega
          subst hri
          exact he (by rw [h3.2]; simp)
/-- the cells of a set, as places -/
theorem cs_at {j : Nat} (hj : j < (csX n k s).length) : ∃ r c : Nat, (csX n k s).getD j (0, 0) = ((r : Int), (c : Int)) ∧ r < k ∧ c < n ∧ memI (c : Int) (pivL s n) = false ∧ (pivL s n).getD r 0 < (c : Int) := by
  have hm : (csX n k s).getD j (0, 0) ∈ csX n k s := by simp [List.getD, hj]
  obtain ⟨x, hx⟩ : ∃ x, x = (csX n k s).getD j (0, 0) := ⟨_, rfl⟩
  rw [← hx] at hm ⊢
  obtain ⟨h1, h2, h3, h4⟩ := cellL_in hm
  obtain ⟨h5, h6, h7⟩ := freeP_mem h3
  exact ⟨x.1.toNat, x.2.toNat, by rw [Prod.ext_iff]; exact ⟨by show x.1 = _; omega, by show x.2 = _; omega⟩, by omega, by omega, by rw [Int.toNat_of_nonneg h5]; exact h7, by omega⟩
theorem fillC_out (vals l : List Int) (hll : l.length = k * n) {r c : Nat} (hc : c < n) (hno : ∀ j, j < (csX n k s).length → (csX n k s).getD j (0, 0) ≠ ((r : Int), (c : Int))) : ∀ j, j ≤ (csX n k s).length →
    (fillC n (csX n k s) vals l j).getD (r * n + c) 0 = l.getD (r * n + c) 0
  | 0, _ => rfl
  | j + 1, hj => by
    obtain ⟨r', c', e, hr', hc', _⟩ := cs_at (n := n) (k := k) (s := s) (j := j) (by omega)
    rw [fillC, e, getD_set (by rw [fillC_len, hll]; simpa using idx_lt hr' hc'), if_neg, fillC_out vals l hll hc hno j (by omega)]
    intro he
    have he' : r' * n + c' = r * n + c := by simpa using he
    obtain ⟨rfl, rfl⟩ := idx_eq hc' hc he'
    exact hno j (by omega) e
theorem fillC_in (hnd : (csX n k s).Nodup) (vals l : List Int) (hll : l.length = k * n) {t r c : Nat} (hc : c < n) (ht : t < (csX n k s).length) (he : (csX n k s).getD t (0, 0) = ((r : Int), (c : Int))) : ∀ j, t < j → j ≤ (csX n k s).length →
    (fillC n (csX n k s) vals l j).getD (r * n + c) 0 = vals.getD t 0
  | 0, h, _ => by omega
  | j + 1, h, hj => by
    obtain ⟨r', c', e, hr', hc', _⟩ := cs_at (n := n) (k := k) (s := s) (j := j) (by omega)
    rw [fillC, e, getD_set (by rw [fillC_len, hll]; simpa using idx_lt hr' hc')]
    by_cases htj : t = j
    · subst htj
      rw [he] at e
      simp only [Prod.mk.injEq] at e
      obtain ⟨e1, e2⟩ := e
      obtain rfl : r = r' := by omega
      obtain rfl : c = c' := by omega
      rw [if_pos (by simp)]
    · rw [if_neg, fillC_in hnd vals l hll hc ht he j (by omega) (by omega)]
      intro h2
      have h3 : r' * n + c' = r * n + c := by simpa using h2
      obtain ⟨rfl, rfl⟩ := idx_eq hc' hc h3
      have h4 : (csX n k s)[t] = (csX n k s)[j] := by
        rw [← he] at e
        simpa [List.getD, ht, show j < (csX n k s).length by omega] using e.symm
      exact htj ((List.getElem_inj hnd).1 h4)
end
theorem freeP_nodup (l : List Int) : ∀ n, (freeP l n).Nodup
  | 0 => by simp [freeP]
  | n + 1 => by
    simp only [freeP]
    split
    · exact freeP_nodup l n
    · rw [List.nodup_append]
      refine ⟨freeP_nodup l n, by simp, fun x hx y hy => ?_⟩
      have := freeP_mem hx
      simp at hy
      omega
theorem freeP_has {l : List Int} : ∀ {n : Nat} {c : Nat}, c < n → memI (c : Int) l = false → (c : Int) ∈ freeP l n
  | n + 1, c, hc, hm => by
    simp only [freeP]
    split
    · rename_i h
      refine freeP_has ?_ hm
      rcases Nat.lt_or_ge c n with h2 | h2
      · exact h2
      · have : c = n := by omega
        subst this
        rw [h] at hm; cases hm
    · rcases Nat.lt_or_ge c n with h2 | h2
      · exact List.mem_append.2 (.inl (freeP_has h2 hm))
      · have : c = n := by omega
        subst this
        simp
theorem cellR_has {fr : List Int} {i : Nat} {pv : Int} : ∀ {t : Nat} {x : Nat}, x < t → t ≤ fr.length → pv < fr.getD x 0 → ((i : Int), fr.getD x 0) ∈ cellR fr i pv t
  | t + 1, x, hx, ht, hp => by
    simp only [cellR, List.mem_append]
    rcases Nat.lt_or_ge x t with h | h
    · exact .inl (cellR_has h (by omega) hp)
    · have : x = t := by omega
      subst this
      rw [if_pos hp]
      exact .inr (by simp)
theorem cellL_has {piv fr : List Int} : ∀ {k r : Nat} {c : Int}, r < k → c ∈ fr → piv.getD r 0 < c → ((r : Int), c) ∈ cellL piv fr k
  | k + 1, r, c, hr, hc, hp => by
    rw [cellL, List.mem_append]
    rcases Nat.lt_or_ge r k with h | h
    · exact .inl (cellL_has h hc hp)
    · have : r = k := by omega
      subst this
      obtain ⟨x, hx, rfl⟩ := List.mem_iff_getElem.1 hc
      have e : fr[x] = fr.getD x 0 := by simp [List.getD, hx]
      rw [e] at hp ⊢
      exact .inr (cellR_has hx (Nat.le_refl _) hp)
theorem cellR_nodup {fr : List Int} (hf : fr.Nodup) (i : Nat) (pv : Int) : ∀ t, t ≤ fr.length → (cellR fr i pv t).Nodup ∧ ∀ x ∈ cellR fr i pv t, ∃ y, y < t ∧ x.2 = fr.getD y 0
  | 0, _ => by simp [cellR]
  | t + 1, ht => by
    obtain ⟨h1, h2⟩ := cellR_nodup hf i pv t (by omega)
    rw [cellR]
    by_cases hlt : pv < fr.getD t 0
    · rw [if_pos hlt]
      refine ⟨List.nodup_append.2 ⟨h1, by simp, fun x hx y hy e => ?_⟩, fun x hx => ?_⟩
      · simp at hy
        subst hy
        obtain ⟨z, hz, e2⟩ := h2 x hx
        rw [e] at e2
        have e3 : fr[t] = fr[z] := by simpa [List.getD, show t < fr.length by omega, show z < fr.length by omega] using e2
        have := (List.getElem_inj hf).1 e3
        omega
      · rcases List.mem_append.1 hx with hx | hx
        · obtain ⟨z, hz, e2⟩ := h2 x hx; exact ⟨z, by omega, e2⟩
        · simp at hx; exact ⟨t, by omega, by rw [hx]; rfl⟩
    · rw [if_neg hlt, List.append_nil]
      exact ⟨h1, fun x hx => by
        obtain ⟨z, hz, e2⟩ := h2 x hx; exact ⟨z, by omega, e2⟩⟩
theorem cellL_nodup {piv fr : List Int} (hf : fr.Nodup) : ∀ k, (cellL piv fr k).Nodup
  | 0 => by simp [cellL]
  | k + 1 => by
    rw [cellL, List.nodup_append]
    refine ⟨cellL_nodup hf k, (cellR_nodup hf k _ _ (Nat.le_refl _)).1, fun x hx y hy e => ?_⟩
    have h1 := cellL_in hx
    have h2 := cellR_in (Nat.le_refl _) hy
    rw [e] at h1
    omega
end Go.Proofs.Ytjcgommdeplbbaa

namespace Go.Proofs.Ytjcgommdeplbbaa
set_option linter.unusedVariables false
set_option linter.unusedSimpArgs false

theorem pivL_sorted (s : Nat) : ∀ n, (pivL s n).Pairwise (· < ·)
  | 0 => by simp [pivL]
  | n + 1 => by
    rw [pivL, List.pairwise_append]
    refine ⟨pivL_sorted s n, by split <;> simp, fun x hx y hy => ?_⟩
    have := pivL_in hx
    split at hy
    · simp at hy; omega
    · simp at hy
theorem pivL_lt {s n i j : Nat} (hij : i < j) (hj : j < (pivL s n).length) : (pivL s n).getD i 0 < (pivL s n).getD j 0 := by
  have h := List.pairwise_iff_getElem.1 (pivL_sorted s n) i j (by omega) hj hij
  simpa [List.getD, hj, show i < (pivL s n).length by omega] using h
theorem pivL_mem {s n i : Nat} (hi : i < (pivL s n).length) : memI ((pivL s n).getD i 0) (pivL s n) = true := by
  unfold memI
  rw [List.any_eq_true]
  refine ⟨(pivL s n).getD i 0, by simp [List.getD, hi], by simp⟩
theorem pivL_add {m s : Nat} : ∀ n, n ≤ m → pivL (s + 2 ^ m) n = pivL s n
  | 0, _ => rfl
  | n + 1, h => by
    have e : (s + 2 ^ m) / 2 ^ n % 2 = s / 2 ^ n % 2 := by
      obtain ⟨d, hd⟩ : ∃ d, m = n + 1 + d := ⟨m - n - 1, by omega⟩
      have : 2 ^ m = 2 ^ n * (2 * 2 ^ d) := by rw [hd, Nat.pow_add, Nat.pow_succ, Nat.mul_assoc]
      rw [this, Nat.add_mul_div_left _ _ (Nat.two_pow_pos n)]
      omega
    rw [pivL, pivL, pivL_add n (by omega), e]
theorem piv_surj : ∀ (n : Nat) (L : List Int), L.Pairwise (· < ·) → (∀ x ∈ L, 0 ≤ x ∧ x < n) → ∃ s, s < 2 ^ n ∧ pivL s n = L
  | 0, L, _, h => by
    refine ⟨0, by simp, ?_⟩
    cases L with
    | nil => rfl
    | cons x L => have := h x (by simp); omega
  | n + 1, L, hs, h => by
    by_cases hm : (n : Int) ∈ L
    · -- it is the last one
      obtain ⟨A, B, rfl⟩ := List.append_of_mem hm
      have hB : B = [] := by
        cases B with
        | nil => rfl
        | cons y B =>
          have h1 := (List.pairwise_cons.1 (List.pairwise_append.1 hs).2.1).1 y (by simp)
          have h2 := h y (by simp)
          omega
      subst hB
      obtain ⟨hA1, _, hA2⟩ := List.pairwise_append.1 hs
      obtain ⟨s, h1, h2⟩ := piv_surj n A hA1 (fun x hx => ⟨(h x (by simp [hx])).1, hA2 x hx _ (by simp)⟩)
      refine ⟨s + 2 ^ n, by rw [Nat.pow_succ]; omega, ?_⟩
      have e : (s + 2 ^ n) / 2 ^ n % 2 = 1 := by
        rw [Nat.add_div_right _ (Nat.two_pow_pos n), Nat.div_eq_of_lt h1]
      rw [pivL, pivL_add n (Nat.le_refl _), h2, if_pos e]
    · obtain ⟨s, h1, h2⟩ := piv_surj n L hs (fun x hx => by
        have h3 := h x hx
        refine ⟨h3.1, ?_⟩
        rcases Int.lt_or_le x n with h4 | h4
        · exact h4
        · exact absurd (show (n : Int) ∈ L by rw [show (n : Int) = x by omega]; exact hx) hm)
      refine ⟨s, by rw [Nat.pow_succ]; omega, ?_⟩
      rw [pivL, Nat.div_eq_of_lt h1, if_neg (by omega), List.append_nil, h2]
theorem piv_inj : ∀ (n : Fin 5) (s t : Fin 16), s.val < 2 ^ n.val → t.val < 2 ^ n.val → pivL s.val n.val = pivL t.val n.val → s = t := by decide
section
variable {n k s : Nat}
theorem mat_piv (hl : (pivL s n).length = k) (vals : List Int) {r c : Nat} (hr : r < k) (hc : c < n) (h : (pivL s n).getD r 0 = (c : Int)) : (matX n k s vals).getD (r * n + c) 0 = 1 := by
  unfold matX
  rw [fillC_out vals _ (by rw [fillP_len, List.length_replicate]) hc (fun j hj e => ?_) _ (Nat.le_refl _), fillP_get hl _ (List.length_replicate ..) hr hc k (Nat.le_refl _), if_pos ⟨hr, h⟩]
  obtain ⟨r', c', e2, _, _, h3, _⟩ := cs_at hj
  rw [e2] at e
  simp only [Prod.mk.injEq] at e
  have := pivL_mem (s := s) (n := n) (i := r) (by omega)
  rw [h, ← e.2, h3] at this
  cases this
theorem mat_cell (vals : List Int) {t r c : Nat} (hc : c < n) (ht : t < (csX n k s).length) (he : (csX n k s).getD t (0, 0) = ((r : Int), (c : Int))) : (matX n k s vals).getD (r * n + c) 0 = vals.getD t 0 := by
  unfold matX
  exact fillC_in (cellL_nodup (freeP_nodup _ _) k) vals _ (by rw [fillP_len, List.length_replicate]) hc ht he _ ht (Nat.le_refl _)
theorem matX_zero (hl : (pivL s n).length = k) (vals : List Int) {r c : Nat} (hr : r < k) (hc : c < n) (h : (pivL s n).getD r 0 ≠ (c : Int)) (hno : ∀ j, j < (csX n k s).length → (csX n k s).getD j (0, 0) ≠ ((r : Int), (c : Int))) : (matX n k s vals).getD (r * n + c) 0 = 0 := by
  unfold matX
  rw [fillC_out vals _ (by rw [fillP_len, List.length_replicate]) hc hno _ (Nat.le_refl _), fillP_get hl _ (List.length_replicate ..) hr hc k (Nat.le_refl _), if_neg (fun e => h e.2)]
  have := idx_lt hr hc
  simp [List.getD, List.getElem?_replicate, this]
theorem cs_ex (hl : (pivL s n).length = k) {r c : Nat} (hr : r < k) (hc : c < n) (h1 : memI (c : Int) (pivL s n) = false) (h2 : (pivL s n).getD r 0 < (c : Int)) : ∃ t, t < (csX n k s).length ∧ (csX n k s).getD t (0, 0) = ((r : Int), (c : Int)) := by
  have hm : ((r : Int), (c : Int)) ∈ csX n k s := cellL_has hr (freeP_has hc h1) h2
  obtain ⟨t, ht, e⟩ := List.mem_iff_getElem.1 hm
  exact ⟨t, ht, by simp [List.getD, ht, e]⟩
theorem mat_len (vals : List Int) : (matX n k s vals).length = k * n := by rw [matX, fillC_len, fillP_len, List.length_replicate]
theorem bas_len (vals : List Int) : (basX n k s vals).length = k := by rw [basX, rowsK_len]
theorem bas_row (vals : List Int) {r : Nat} (hr : r < k) : (basX n k s vals).getD r [] = rowL n r (matX n k s vals) := by
  simp [basX, rowsK, List.getD, hr]
theorem bas_rows (vals : List Int) : ∀ b ∈ basX n k s vals, b.length = n := by
  intro b hb
  unfold basX rowsK at hb
  simp only [List.mem_map] at hb
  obtain ⟨r, hr, rfl⟩ := hb
  exact rowL_len (mat_len vals) (List.mem_range.1 hr)
theorem bas_fn (vals : List Int) {r c : Nat} (hr : r < k) (hc : c < n) : fnB (basX n k s vals) r c = (matX n k s vals).getD (r * n + c) 0 := by
  unfold fnB
  rw [bas_row vals hr, rowL_get hc]
theorem bas_RS (hl : (pivL s n).length = k) (vals : List Int) : RS k n (fnB (basX n k s vals)) ((pivL s n).map Int.toNat) := by
  have hg : ∀ i, i < k → ((pivL s n).map Int.toNat).getD i 0 = ((pivL s n).getD i 0).toNat := fun i hi => by simp [List.getD, show i < (pivL s n).length by omega]
  have hb : ∀ i, i < k → 0 ≤ (pivL s n).getD i 0 ∧ (pivL s n).getD i 0 < n := fun i hi => pivL_get (by omega)
  refine ⟨by simp [hl], fun i hi => ?_, fun i j hij hj => ?_, fun i hi => ?_, fun i r hi hr hne => ?_, fun i c hi hc => ?_⟩
  · rw [hg i hi]; have := hb i hi; omega
  · rw [hg i (by omega), hg j hj]
    have := pivL_lt (s := s) (n := n) hij (by omega)
    have := hb i (by omega); have := hb j hj
    omega
  · have := hb i hi
    rw [hg i hi, bas_fn vals hi (by omega)]
    exact mat_piv hl vals hi (by omega) (by omega)
  · have h1 := hb i hi
    rw [hg i hi, bas_fn vals hr (by omega)]
    refine matX_zero hl vals hr (by omega) (fun e => ?_) (fun j hj e => ?_)
    · rcases Nat.lt_or_ge r i with h | h
      · have := pivL_lt (s := s) (n := n) h (by omega); omega
      · have := pivL_lt (s := s) (n := n) (show i < r by omega) (by omega); omega
    · obtain ⟨r', c', e2, _, _, h3, _⟩ := cs_at hj
      rw [e2] at e
      simp only [Prod.mk.injEq] at e
      have h4 := pivL_mem (s := s) (n := n) (i := i) (by omega)
      rw [show (pivL s n).getD i 0 = (c' : Int) by omega, h3] at h4
      cases h4
  · rw [hg i hi] at hc
    have h1 := hb i hi
    rw [bas_fn vals hi (by omega)]
    refine matX_zero hl vals hi (by omega) (by omega) (fun j hj e => ?_)
    obtain ⟨r', c', e2, _, _, _, h3⟩ := cs_at hj
    rw [e2] at e
    simp only [Prod.mk.injEq] at e
    have : r' = i := by omega
    subst this
    omega
theorem bas_dig {p : Int} (hp : 2 ≤ p) (hl : (pivL s n).length = k) {vals : List Int} (hv : ∀ t, t < (csX n k s).length → 0 ≤ vals.getD t 0 ∧ vals.getD t 0 < p) {r c : Nat} (hr : r < k) (hc : c < n) :
    0 ≤ (matX n k s vals).getD (r * n + c) 0 ∧ (matX n k s vals).getD (r * n + c) 0 < p := by
  by_cases h1 : (pivL s n).getD r 0 = (c : Int)
  · rw [mat_piv hl vals hr hc h1]; omega
  · by_cases h2 : ∃ t, t < (csX n k s).length ∧ (csX n k s).getD t (0, 0) = ((r : Int), (c : Int))
    · obtain ⟨t, ht, e⟩ := h2
      rw [mat_cell vals hc ht e]; exact hv t ht
    · rw [matX_zero hl vals hr hc h1 (fun j hj e => h2 ⟨j, hj, e⟩)]; omega
theorem dig_get {p : Int} (hp : 2 ≤ p) {m : Nat} {c : Int} {t : Nat} (ht : t < m) : 0 ≤ (vecL p m c).getD t 0 ∧ (vecL p m c).getD t 0 < p := by
  have : (vecL p m c).getD t 0 ∈ vecL p m c := by simp [List.getD, vecL_len, ht]
  exact vecL_dig hp _ this
theorem bas_ref {p : Int} (hp : 2 ≤ p) (hl : (pivL s n).length = k) (x : Int) : basX n k s (vecL p (csX n k s).length x) ∈ refL p n (p ^ n).toNat k := by
  refine refL_iff.2 ⟨bas_len _, fun b hb => vec_mem hp (bas_rows _ b hb) (fun y hy => ?_), ?_⟩
  · unfold basX rowsK at hb
    simp only [List.mem_map] at hb
    obtain ⟨r, hr, rfl⟩ := hb
    have hr' := List.mem_range.1 hr
    obtain ⟨c, hc, rfl⟩ := List.mem_iff_getElem.1 hy
    have hcn : c < n := by rw [rowL_len (mat_len _) hr'] at hc; exact hc
    have e : (rowL n r (matX n k s (vecL p (csX n k s).length x)))[c] = (rowL n r (matX n k s (vecL p (csX n k s).length x))).getD c 0 := by simp [List.getD, hc]
    rw [e, rowL_get hcn]
    exact bas_dig hp hl (fun t ht => dig_get hp ht) hr' hcn
  · refine rr_of_rs (L := (pivL s n).map Int.toNat) (bas_rows _) ?_
    rw [bas_len]
    exact bas_RS hl _
end
end Go.Proofs.Ytjcgommdeplbbaa
