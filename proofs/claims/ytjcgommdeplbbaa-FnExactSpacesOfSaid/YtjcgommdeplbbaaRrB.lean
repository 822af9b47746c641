/- Reduced bases, in plain words: a test on lists of rows; it is the same as to have leading ones in all rows. No program is read here. -/
import Derived.Test.YtjcgommdeplbbaaRfL
namespace Go.Proofs.Ytjcgommdeplbbaa
set_option linter.unusedVariables false
set_option linter.unusedSimpArgs false

/-- the column of the first number that is not 0 -/
def leadI (v : List Int) : Nat := v.findIdx (fun x => x != 0)
/-- a row may stand ahead of a reduced basis -/
def okB (v : List Int) (B : List (List Int)) : Bool :=
  decide (leadI v < v.length) && (v.getD (leadI v) 0 == 1) && B.all (fun b => v.getD (leadI b) 0 == 0) && (match B with | [] => true | b :: _ => decide (leadI v < leadI b))
def rrB : List (List Int) → Bool
  | [] => true
  | v :: B => okB v B && rrB B
/-- the cells of a list of rows -/
def fnB (B : List (List Int)) (r c : Nat) : Int := (B.getD r []).getD c 0
theorem leadI_of {v : List Int} {k : Nat} (hk : k < v.length) (h1 : v.getD k 0 ≠ 0) (h0 : ∀ c, c < k → v.getD c 0 = 0) : leadI v = k := by
  unfold leadI
  have hle : v.findIdx (fun x => x != 0) ≤ k := by
    rcases Nat.lt_or_ge k (v.findIdx (fun x => x != 0)) with h | h
    · have h2 := List.not_of_lt_findIdx (p := fun x => x != 0) (xs := v) h
      simp only [List.getD, List.getElem?_eq_getElem hk, Option.getD_some] at h1
      simp at h2
      exact absurd h2 h1
    · exact h
  rcases Nat.lt_or_ge (v.findIdx (fun x => x != 0)) k with h | h
  · have h2 := List.findIdx_getElem (p := fun x => x != 0) (xs := v) (w := by omega)
    have h3 := h0 _ h
    simp only [List.getD, List.getElem?_eq_getElem (show v.findIdx (fun x => x != 0) < v.length by omega), Option.getD_some] at h3
    rw [h3] at h2
    simp at h2
  · omega
theorem leadI_left {v : List Int} {c : Nat} (h : c < leadI v) : v.getD c 0 = 0 := by
  unfold leadI at h
  by_cases hc : c < v.length
  · have := List.not_of_lt_findIdx (p := fun x => x != 0) (xs := v) h
    simp only [List.getD, List.getElem?_eq_getElem hc, Option.getD_some]
    simpa using this
  · simp only [List.getD, List.getElem?_eq_none (show v.length ≤ c by omega), Option.getD_none]
theorem rs_cons {n : Nat} {v : List Int} {B : List (List Int)} (hv : v.length = n) (h : RS B.length n (fnB B) (B.map leadI)) (ho : okB v B = true) : RS (v :: B).length n (fnB (v :: B)) ((v :: B).map leadI) := by
  unfold okB at ho
  simp only [Bool.and_eq_true, decide_eq_true_eq, List.all_eq_true, beq_iff_eq] at ho
  obtain ⟨⟨⟨o1, o2⟩, o3⟩, o4⟩ := ho
  have hL : ∀ i, i < B.length → (B.map leadI).getD i 0 = leadI (B.getD i []) := fun i hi => by simp [List.getD, hi]
  have o3' : ∀ i, i < B.length → v.getD (leadI (B.getD i [])) 0 = 0 := fun i hi => by
    have hm : B.getD i [] ∈ B := by simp [List.getD, hi]
    exact o3 _ hm
  have hlt : ∀ i, i < B.length → leadI v < leadI (B.getD i []) := by
    intro i hi
    cases B with
    | nil => simp at hi
    | cons b B' =>
      simp only [decide_eq_true_eq] at o4
      cases i with
      | zero => simpa using o4
      | succ i =>
        have := h.inc 0 (i + 1) (by omega) hi
        rw [hL 0 (by simp), hL (i + 1) hi] at this
        simp only [List.getD_cons_zero] at this
        omega
  refine ⟨by simp, fun i hi => ?_, fun i j hij hj => ?_, fun i hi => ?_, fun i r hi hr hne => ?_, fun i c hi hc => ?_⟩
  · cases i with
    | zero => simpa [hv] using o1
    | succ i => simpa using h.lt i (by simpa using hi)
  · cases j with
    | zero => omega
    | succ j =>
      have hj' : j < B.length := by simpa using hj
      cases i with
      | zero =>
        have := hlt j hj'
        simp only [List.map_cons, List.getD_cons_zero, List.getD_cons_succ]
        rw [hL j hj']; exact this
      | succ i => simpa using h.inc i j (by omega) hj'
  · cases i with
    | zero => simpa [fnB] using o2
    | succ i => simpa [fnB] using h.one i (by simpa using hi)
  · cases i with
    | zero =>
      cases r with
      | zero => omega
      | succ r =>
        have hr' : r < B.length := by simpa using hr
        have := leadI_left (v := B.getD r []) (hlt r hr')
        simpa [fnB] using this
    | succ i =>
      have hi' : i < B.length := by simpa using hi
      cases r with
      | zero =>
        have := o3' i hi'
        simp only [List.map_cons, List.getD_cons_succ, fnB, List.getD_cons_zero]
        rw [hL i hi']; exact this
      | succ r => simpa [fnB] using h.zer i r hi' (by simpa using hr) (by omega)
  · cases i with
    | zero => simpa [fnB] using leadI_left (v := v) (by simpa using hc)
    | succ i => simpa [fnB] using h.lef i c (by simpa using hi) (by simpa using hc)
theorem rs_of_rr {n : Nat} : ∀ {B : List (List Int)}, (∀ b ∈ B, b.length = n) → rrB B = true → RS B.length n (fnB B) (B.map leadI)
  | [], _, _ => ⟨rfl, fun i h => by simp at h, fun i j _ h => by simp at h, fun i h => by simp at h, fun i r h => by simp at h, fun i c h => by simp at h⟩
  | v :: B, hl, h => by
    unfold rrB at h
    rw [Bool.and_eq_true] at h
    exact rs_cons (hl v (by simp)) (rs_of_rr (fun b hb => hl b (by simp [hb])) h.2) h.1
theorem rs_lead {n : Nat} {B : List (List Int)} {L : List Nat} (hl : ∀ b ∈ B, b.length = n) (h : RS B.length n (fnB B) L) {i : Nat} (hi : i < B.length) : leadI (B.getD i []) = L.getD i 0 := by
  have hm : B.getD i [] ∈ B := by simp [List.getD, hi]
  have h1 := h.one i hi
  refine leadI_of (by rw [hl _ hm]; exact h.lt i hi) ?_ (fun c hc => h.lef i c hi hc)
  show fnB B i (L.getD i 0) ≠ 0
  rw [h1]; decide
theorem rr_of_rs {n : Nat} : ∀ {B : List (List Int)} {L : List Nat}, (∀ b ∈ B, b.length = n) → RS B.length n (fnB B) L → rrB B = true
  | [], _, _, _ => rfl
  | v :: B, L, hl, h => by
    have hlen := h.len
    obtain ⟨x, L', rfl⟩ : ∃ x L', L = x :: L' := by
      cases L with
      | nil => simp at hlen
      | cons x L' => exact ⟨x, L', rfl⟩
    have hb : RS B.length n (fnB B) L' := ⟨by simpa using hlen, fun i hi => by simpa using h.lt (i + 1) (by simpa using hi), fun i j hij hj => by simpa using h.inc (i + 1) (j + 1) (by omega) (by simpa using hj), fun i hi => by simpa [fnB] using h.one (i + 1) (by simpa using hi),
      fun i r hi hr hne => by simpa [fnB] using h.zer (i + 1) (r + 1) (by simpa using hi) (by simpa using hr) (by omega), fun i c hi hc => by simpa [fnB] using h.lef (i + 1) c (by simpa using hi) (by simpa using hc)⟩
    have hlv : v.length = n := hl v (by simp)
    have hlB : ∀ b ∈ B, b.length = n := fun b hb => hl b (by simp [hb])
    have hv0 : leadI v = x := by simpa using rs_lead hl h (i := 0) (by simp)
    unfold rrB
    rw [Bool.and_eq_true]
    refine ⟨?_, rr_of_rs hlB hb⟩
    unfold okB
    simp only [Bool.and_eq_true, decide_eq_true_eq, List.all_eq_true, beq_iff_eq]
    refine ⟨⟨⟨?_, ?_⟩, fun b hbm => ?_⟩, ?_⟩
    · rw [hv0, hlv]; simpa using h.lt 0 (by simp)
    · rw [hv0]; simpa [fnB] using h.one 0 (by simp)
    · obtain ⟨i, hi, rfl⟩ := List.mem_iff_getElem.1 hbm
      have h3 := rs_lead hlB hb hi
      simp only [List.getD, List.getElem?_eq_getElem hi, Option.getD_some] at h3
      rw [h3]
      have := h.zer (i + 1) 0 (by simpa using hi) (by simp) (by omega)
      simpa [fnB, List.getD] using this
    · cases B with
      | nil => rfl
      | cons b B' =>
        simp only [decide_eq_true_eq]
        have h3 := rs_lead hlB hb (i := 0) (by simp)
        simp only [List.getD_cons_zero] at h3
        rw [hv0, h3]
        have := h.inc 0 1 (by omega) (by simp)
        simpa using this
end Go.Proofs.Ytjcgommdeplbbaa
