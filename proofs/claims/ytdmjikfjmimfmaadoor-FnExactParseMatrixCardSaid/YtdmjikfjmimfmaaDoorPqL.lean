/- ParseQuiver: the plain law: a text is read back by places (the program) and by pieces (the reference). -/
import Derived.Test.YtdmjikfjmimfmaaDoorFqL
namespace Go.Proofs.YtdmjikfjmimfmaaDoor
open Go.RowKit
set_option linter.unusedVariables false
set_option linter.unusedSimpArgs false

theorem getD_left {α : Type} (l l' : List α) (n : Nat) (d : α) (h : n < l.length) : (l ++ l').getD n d = l.getD n d := by
  rw [List.getD_eq_getElem?_getD, List.getD_eq_getElem?_getD, List.getElem?_append_left h]
theorem getD_right {α : Type} (l l' : List α) (n : Nat) (d : α) (h : l.length ≤ n) : (l ++ l').getD n d = l'.getD (n - l.length) d := by
  rw [List.getD_eq_getElem?_getD, List.getD_eq_getElem?_getD, List.getElem?_append_right h]
/-- the byte of a digit -/
def dgB (a : Int) : UInt8 := UInt8.ofNat (48 + a).toNat
theorem dgB_nat {a : Int} (h0 : 0 ≤ a) (h9 : a ≤ 9) : (dgB a).toNat = (48 + a).toNat := by unfold dgB; rw [UInt8.toNat_ofNat']; omega
theorem dgB_sub {a : Int} (h0 : 0 ≤ a) (h9 : a ≤ 9) : ((dgB a).toNat : Int) - 48 = a := by rw [dgB_nat h0 h9]; omega
theorem dgB_ne {a : Int} (h0 : 0 ≤ a) (h9 : a ≤ 9) : dgB a ≠ 32 := fun h => by
  have := congrArg UInt8.toNat h
  rw [dgB_nat h0 h9] at this
  have e : (32 : UInt8).toNat = 32 := rfl
  omega
/-- the bytes of a quiver's text -/
def bq (n : Int) (f t : List Int) : Nat → List UInt8
  | 0 => [dgB n, 58]
  | i + 1 => bq n f t i ++ [32, dgB (f.getD i 0), dgB (t.getD i 0)]
theorem fmS_dig {a : Int} (h0 : 0 ≤ a) (h9 : a ≤ 9) : fmS a = ⟨#[dgB a]⟩ := by
  rw [fm_dig h0 h9]; rfl
theorem bq_spec {n : Int} {f t : List Int} (h : isQ n f t = true) : ∀ i, i ≤ f.length → (fqS n f t i).data.toList = bq n f t i := by
  obtain ⟨hl, h6, ⟨n1, n5⟩, hf, ht⟩ := fq_parts h
  intro i
  induction i with
  | zero => intro _; unfold fqS bq; rw [fmS_dig (by omega) (by omega)]; rfl
  | succ i ih =>
    intro hi
    have h1 := hf i (by omega)
    have h2 := ht i (by omega)
    unfold fqS bq fqP
    rw [fmS_dig (by omega) (by omega), fmS_dig (by omega) (by omega), ByteArray.data_append, Array.toList_append, ih (by omega)]
    rfl
theorem bq_len (n : Int) (f t : List Int) : ∀ i, (bq n f t i).length = 2 + 3 * i := by
  intro i; induction i with
  | zero => rfl
  | succ i ih => unfold bq; rw [List.length_append, ih]; simp; omega
theorem bq_0 (n : Int) (f t : List Int) : ∀ i, (bq n f t i).getD 0 0 = dgB n := by
  intro i; induction i with
  | zero => rfl
  | succ i ih => unfold bq; rw [getD_left _ _ _ _ (by rw [bq_len]; omega)]; exact ih
theorem bq_at (n : Int) (f t : List Int) : ∀ i k, k < i → (bq n f t i).getD (3 + 3 * k) 0 = dgB (f.getD k 0) ∧ (bq n f t i).getD (4 + 3 * k) 0 = dgB (t.getD k 0) := by
  intro i; induction i with
  | zero => intro k hk; omega
  | succ i ih =>
    intro k hk
    unfold bq
    by_cases hki : k < i
    · rw [getD_left _ _ _ _ (by rw [bq_len]; omega), getD_left _ _ _ _ (by rw [bq_len]; omega)]
      exact ih k hki
    · obtain rfl : k = i := by omega
      rw [getD_right _ _ _ _ (by rw [bq_len]; omega), getD_right _ _ _ _ (by rw [bq_len]; omega), bq_len]
      rw [show 3 + 3 * k - (2 + 3 * k) = 1 by omega, show 4 + 3 * k - (2 + 3 * k) = 2 by omega]
      exact ⟨rfl, rfl⟩

/-- a byte less '0' -/
def bN (b : List UInt8) (k : Nat) : Int := ((b.getD k 0).toNat : Int) - 48
theorem bN_rng (b : List UInt8) (k : Nat) : -48 ≤ bN b k ∧ bN b k ≤ 207 := by
  unfold bN
  have := UInt8.toNat_lt (b.getD k 0)
  omega
/-- every third byte from a place -/
def bE (b : List UInt8) (o m : Nat) : List Int := (List.range m).map fun k => bN b (o + 3 * k)
theorem bE_succ (b : List UInt8) (o m : Nat) : bE b o (m + 1) = bE b o m ++ [bN b (o + 3 * m)] := by simp [bE, List.range_succ]
theorem bE_len (b : List UInt8) (o m : Nat) : (bE b o m).length = m := by simp [bE]
/-- all that a text may say -/
def Says (b : List UInt8) (n : Int) (f t : List Int) : Prop := isQ n f t = true ∧ b = bq n f t f.length
theorem says_iff (s : ByteArray) (n : Int) (f t : List Int) : Says s.data.toList n f t ↔ isQ n f t = true ∧ foQ n f t = s := by
  constructor
  · rintro ⟨h1, h2⟩
    refine ⟨h1, ?_⟩
    rw [foQ_ok h1]
    rw [← bq_spec h1 _ (Nat.le_refl _)] at h2
    have e : s.data = (fqS n f t f.length).data := by rw [← Array.toList_inj]; exact h2
    cases s; cases hq : fqS n f t f.length; rw [hq] at e; simp at e; rw [e]
  · rintro ⟨h1, h2⟩
    refine ⟨h1, ?_⟩
    rw [foQ_ok h1] at h2
    rw [← h2, bq_spec h1 _ (Nat.le_refl _)]
theorem foQ_says {s : ByteArray} {n : Int} {f t : List Int} (hs : s ≠ ⟨#[]⟩) (h : foQ n f t = s) : Says s.data.toList n f t := by
  rw [says_iff]
  refine ⟨?_, h⟩
  cases hq : isQ n f t
  · rw [foQ_no hq] at h; exact absurd h.symm hs
  · rfl
theorem ext_range {m : Nat} {f : List Int} {g : Nat → Int} (hm : m = f.length) (h : ∀ k, k < m → g k = f.getD k 0) : (List.range m).map g = f := by
  apply List.ext_getElem (by simpa using hm)
  intro i h1 h2
  simp only [List.length_map, List.length_range] at h1
  rw [List.getElem_map, List.getElem_range, h i h1]
  simp [List.getD, h2]
/-- by places -/
theorem says_place {b : List UInt8} {n : Int} {f t : List Int} (h : Says b n f t) :
    2 ≤ b.length ∧ b.length ≤ 20 ∧ bN b 0 = n ∧ bE b 3 ((b.length - 2) / 3) = f ∧ bE b 4 ((b.length - 2) / 3) = t := by
  obtain ⟨hq, rfl⟩ := h
  obtain ⟨hl, h6, ⟨n1, n5⟩, hf, ht⟩ := fq_parts hq
  have hm : ((bq n f t f.length).length - 2) / 3 = f.length := by rw [bq_len]; omega
  refine ⟨by rw [bq_len]; omega, by rw [bq_len]; omega, ?_, ?_, ?_⟩
  · unfold bN; rw [bq_0]; exact dgB_sub (by omega) (by omega)
  · rw [hm]; unfold bE
    refine ext_range rfl fun k hk => ?_
    unfold bN; rw [(bq_at n f t _ k hk).1]; exact dgB_sub (hf k hk).1 (by have := (hf k hk).2; omega)
  · rw [hm]; unfold bE
    refine ext_range hl fun k hk => ?_
    unfold bN; rw [(bq_at n f t _ k hk).2]; exact dgB_sub (ht k (by omega)).1 (by have := (ht k (by omega)).2; omega)
theorem says_one {b : List UInt8} {n n' : Int} {f t f' t' : List Int} (h : Says b n f t) (h' : Says b n' f' t') : n = n' ∧ f = f' ∧ t = t' := by
  obtain ⟨_, _, a1, a2, a3⟩ := says_place h
  obtain ⟨_, _, b1, b2, b3⟩ := says_place h'
  exact ⟨a1 ▸ b1, a2 ▸ b2, a3 ▸ b3⟩
/-- cut at the spaces: what is cut off, and the piece under way -/
def cutStep (st : List (List UInt8) × List UInt8) (c : UInt8) : List (List UInt8) × List UInt8 := if c = 32 then (st.1 ++ [st.2], []) else (st.1, st.2 ++ [c])
def cutF (b : List UInt8) : List (List UInt8) × List UInt8 := b.foldl cutStep ([], [])
def cutL (b : List UInt8) : List (List UInt8) := (cutF b).1 ++ [(cutF b).2]
theorem cutF_succ {b : List UInt8} {k : Nat} (h : k < b.length) : cutF (b.take (k + 1)) = cutStep (cutF (b.take k)) b[k] := by
  unfold cutF; rw [List.take_succ_eq_append_getElem h, List.foldl_append]; rfl
theorem says_cut {b : List UInt8} {n : Int} {f t : List Int} (h : Says b n f t) :
    cutL b = [dgB n, 58] :: (List.range f.length).map fun k => [dgB (f.getD k 0), dgB (t.getD k 0)] := by
  obtain ⟨hq, rfl⟩ := h
  obtain ⟨hl, h6, ⟨n1, n5⟩, hf, ht⟩ := fq_parts hq
  have hn : dgB n ≠ 32 := dgB_ne (by omega) (by omega)
  have key : ∀ i, i ≤ f.length → cutL (bq n f t i) = [dgB n, 58] :: (List.range i).map fun k => [dgB (f.getD k 0), dgB (t.getD k 0)] := by
    intro i; induction i with
    | zero =>
      intro _
      have e : (58 : UInt8) ≠ 32 := by decide
      simp [cutL, cutF, bq, cutStep, hn, e]
    | succ i ih =>
      intro hi
      have h1 := ih (by omega)
      have x : dgB (f.getD i 0) ≠ 32 := dgB_ne (hf i (by omega)).1 (by have := (hf i (by omega)).2; omega)
      have y : dgB (t.getD i 0) ≠ 32 := dgB_ne (ht i (by omega)).1 (by have := (ht i (by omega)).2; omega)
      have e : cutF (bq n f t (i + 1)) = ((cutF (bq n f t i)).1 ++ [(cutF (bq n f t i)).2], [dgB (f.getD i 0), dgB (t.getD i 0)]) := by
        conv => lhs; unfold cutF bq
        rw [List.foldl_append]
        simp only [List.foldl_cons, List.foldl_nil, cutStep, if_true, if_neg x, if_neg y, List.nil_append, List.singleton_append]
        rfl
      unfold cutL at h1 ⊢
      rw [e]
      simp only
      rw [h1, List.range_succ, List.map_append]
      rfl
  exact key _ (Nat.le_refl _)
/-- the first (the second) byte of each piece behind the first one -/
def pE (p : List (List UInt8)) (o m : Nat) : List Int := (List.range m).map fun k => bN (p.getD (k + 1) []) o
theorem pE_succ (p : List (List UInt8)) (o m : Nat) : pE p o (m + 1) = pE p o m ++ [bN (p.getD (m + 1) []) o] := by simp [pE, List.range_succ]
theorem pE_len (p : List (List UInt8)) (o m : Nat) : (pE p o m).length = m := by simp [pE]
/-- by pieces -/
theorem says_piece {b : List UInt8} {n : Int} {f t : List Int} (h : Says b n f t) :
    b.length ≤ 30 ∧ ((cutL b).getD 0 []).length = 2 ∧ (∀ k, k < (cutL b).length → ((cutL b).getD k []).length = 2) ∧ bN ((cutL b).getD 0 []) 0 = n ∧ pE (cutL b) 0 ((cutL b).length - 1) = f ∧ pE (cutL b) 1 ((cutL b).length - 1) = t := by
  have hb := (says_place h).2.1
  have hc := says_cut h
  obtain ⟨hq, _⟩ := h
  obtain ⟨hl, h6, ⟨n1, n5⟩, hf, ht⟩ := fq_parts hq
  rw [hc]
  have g : ∀ k, k < f.length → (([dgB n, 58] :: (List.range f.length).map fun k => [dgB (f.getD k 0), dgB (t.getD k 0)])).getD (k + 1) [] = [dgB (f.getD k 0), dgB (t.getD k 0)] := by
    intro k hk; simp [List.getD, hk]
  have hlen : (([dgB n, 58] :: (List.range f.length).map fun k => [dgB (f.getD k 0), dgB (t.getD k 0)])).length = f.length + 1 := by simp
  refine ⟨by omega, rfl, ?_, dgB_sub (by omega) (by omega), ?_, ?_⟩
  · intro k hk
    rw [hlen] at hk
    cases k with
    | zero => rfl
    | succ k => rw [g k (by omega)]; rfl
  · rw [hlen]; unfold pE
    refine ext_range (by omega) fun k hk => ?_
    rw [g k (by omega)]; exact dgB_sub (hf k (by omega)).1 (by have := (hf k (by omega)).2; omega)
  · rw [hlen]; unfold pE
    refine ext_range (by omega) fun k hk => ?_
    rw [g k (by omega)]; exact dgB_sub (ht k (by omega)).1 (by have := (ht k (by omega)).2; omega)
open Classical in
/-- what ParseQuiver answers -/
noncomputable def parQ (s : ByteArray) : (Int × List Int × List Int) × Bool :=
  if h : ∃ q : Int × List Int × List Int, Says s.data.toList q.1 q.2.1 q.2.2 then (h.choose, true) else ((0, [], []), false)
noncomputable def parN (s : ByteArray) : Int := (parQ s).1.1
noncomputable def parF (s : ByteArray) : List Int := (parQ s).1.2.1
noncomputable def parT (s : ByteArray) : List Int := (parQ s).1.2.2
noncomputable def parB (s : ByteArray) : Bool := (parQ s).2
theorem par_yes {s : ByteArray} {n : Int} {f t : List Int} (h : Says s.data.toList n f t) : parN s = n ∧ parF s = f ∧ parT s = t ∧ parB s = true := by
  have hx : ∃ q : Int × List Int × List Int, Says s.data.toList q.1 q.2.1 q.2.2 := ⟨(n, f, t), h⟩
  have e : parQ s = (hx.choose, true) := by unfold parQ; rw [dif_pos hx]
  obtain ⟨a, b, c⟩ := says_one hx.choose_spec h
  unfold parN parF parT parB
  rw [e]
  exact ⟨a, b, c, rfl⟩
theorem par_no {s : ByteArray} (h : ∀ n f t, ¬ Says s.data.toList n f t) : parN s = 0 ∧ parF s = [] ∧ parT s = [] ∧ parB s = false := by
  have hx : ¬ ∃ q : Int × List Int × List Int, Says s.data.toList q.1 q.2.1 q.2.2 := fun ⟨q, hq⟩ => h _ _ _ hq
  have e : parQ s = ((0, [], []), false) := by unfold parQ; rw [dif_neg hx]
  unfold parN parF parT parB
  rw [e]
  exact ⟨rfl, rfl, rfl, rfl⟩
theorem par_len (s : ByteArray) : (parF s).length ≤ 6 ∧ (parT s).length ≤ 6 := by
  by_cases h : ∃ n f t, Says s.data.toList n f t
  · obtain ⟨n, f, t, h⟩ := h
    obtain ⟨_, e1, e2, _⟩ := par_yes h
    obtain ⟨hl, h6, _⟩ := fq_parts h.1
    rw [e1, e2]; omega
  · obtain ⟨_, e1, e2, _⟩ := par_no (s := s) (fun n f t hh => h ⟨n, f, t, hh⟩)
    rw [e1, e2]; simp
end Go.Proofs.YtdmjikfjmimfmaaDoor
