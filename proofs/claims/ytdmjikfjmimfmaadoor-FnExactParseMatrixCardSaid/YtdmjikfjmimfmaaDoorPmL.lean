/- ParseMatrix: the plain law: a text is read back by places (the reference) and by cuts (the program). -/
import Derived.Test.YtdmjikfjmimfmaaDoorFmL
import Derived.Test.YtdmjikfjmimfmaaDoorAddVec
import Derived.Test.YtdmjikfjmimfmaaDoorPiL
import Derived.Lib.IndexMore
namespace Go.Proofs.YtdmjikfjmimfmaaDoor
open Go.RowKit
set_option linter.unusedVariables false
set_option linter.unusedSimpArgs false

/-- the numbers of a text's tail -/
def cB (d : List UInt8) : List Int := (d.filter (· != 47)).map fun x => (x.toNat : Int) - 48
theorem cB_app (a b : List UInt8) : cB (a ++ b) = cB a ++ cB b := by simp [cB]
theorem cB_yes {x : UInt8} (h : x ≠ 47) : cB [x] = [(x.toNat : Int) - 48] := by simp [cB, h]
theorem cB_no : cB [47] = [] := by simp [cB]
theorem cB_len (d : List UInt8) : (cB d).length ≤ d.length := by simp only [cB, List.length_map]; exact List.length_filter_le _ _
theorem dgB_ne47 {a : Int} (h0 : 0 ≤ a) (h9 : a ≤ 9) : dgB a ≠ 47 := fun h => by
  have := congrArg UInt8.toNat h
  rw [dgB_nat h0 h9] at this
  have e : (47 : UInt8).toNat = 47 := rfl
  omega
theorem dgB_ne58 {a : Int} (h0 : 0 ≤ a) (h9 : a ≤ 9) : dgB a ≠ 58 := fun h => by
  have := congrArg UInt8.toNat h
  rw [dgB_nat h0 h9] at this
  have e : (58 : UInt8).toNat = 58 := rfl
  omega
theorem dgB_ne120 {a : Int} (h0 : 0 ≤ a) (h9 : a ≤ 9) : dgB a ≠ 120 := fun h => by
  have := congrArg UInt8.toNat h
  rw [dgB_nat h0 h9] at this
  have e : (120 : UInt8).toNat = 120 := rfl
  omega
theorem cB_mt {C : Nat} {l : List Int} (hd : ∀ k, k < l.length → 0 ≤ l.getD k 0 ∧ l.getD k 0 ≤ 4) : ∀ k, k ≤ l.length → cB (mtC C l k) = l.take k := by
  intro k; induction k with
  | zero => intro _; simp [mtC, cB]
  | succ k ih =>
    intro hk
    have h := hd k (by omega)
    rw [mtC_succ, cB_app, cB_app, ih (by omega), cB_yes (dgB_ne47 h.1 (by omega)), dgB_sub h.1 (by omega)]
    have e : cB (if 0 < k ∧ k % C = 0 then [47] else []) = [] := by split <;> simp [cB]
    rw [e, List.append_nil, List.take_succ_eq_append_getElem (by omega)]
    congr 2
    simp [List.getD, show k < l.length by omega]
theorem mtC_rows {C R : Nat} {l : List Int} (hC : 0 < C) (h : l.length = R * C) : ∀ i, i ≤ R → (mtC C l (i * C)).length ≤ i * C + i := by
  intro i; induction i with
  | zero => intro _; simp [mtC]
  | succ i ih =>
    intro hi
    have hle : (i + 1) * C ≤ l.length := by rw [h]; exact Nat.mul_le_mul_right _ hi
    have := ih (by omega)
    rw [Nat.add_mul, Nat.one_mul, mt_row hC hle C (Nat.le_refl _), List.length_append, List.length_append]
    have h1 : ((dB (rowL C i l)).take C).length ≤ C := by rw [List.length_take]; omega
    have h2 : (if 0 < i ∧ 0 < C then [47] else ([] : List UInt8)).length ≤ 1 := by split <;> simp
    omega
/-- what a text says -/
def SaysM (p : Int) (b : List UInt8) (R C : Int) (l : List Int) : Prop := isM p R C l = true ∧ b = mtB R C l
theorem saysM_iff (p : Int) (s : ByteArray) (R C : Int) (l : List Int) : SaysM p s.data.toList R C l ↔ isM p R C l = true ∧ foM p R C l = s := by
  constructor
  · rintro ⟨h1, h2⟩
    refine ⟨h1, ?_⟩
    rw [foM_ok h1, ← h2]
  · rintro ⟨h1, h2⟩
    refine ⟨h1, ?_⟩
    rw [foM_ok h1] at h2
    rw [← h2]
theorem foM_says {p : Int} {s : ByteArray} {R C : Int} {l : List Int} (hs : s ≠ ⟨#[]⟩) (h : foM p R C l = s) : SaysM p s.data.toList R C l := by
  rw [saysM_iff]
  refine ⟨?_, h⟩
  cases hq : isM p R C l
  · rw [foM_no hq] at h; exact absurd h.symm hs
  · rfl
theorem saysM_parts {p : Int} {b : List UInt8} {R C : Int} {l : List Int} (h : SaysM p b R C l) :
    isF p = true ∧ (0 ≤ R ∧ R ≤ 8) ∧ (0 ≤ C ∧ C ≤ 8) ∧ (mtC C.toNat l l.length).length ≤ 72 ∧ cB (mtC C.toNat l l.length) = l ∧ b = [dgB R, 120, dgB C, 58] ++ mtC C.toNat l l.length := by
  obtain ⟨hM, rfl⟩ := h
  obtain ⟨r0, r8, c0, c8, hl, hV⟩ := isM_true hM
  have hF := isV_F hV
  have hd : ∀ k, k < l.length → 0 ≤ l.getD k 0 ∧ l.getD k 0 ≤ 4 := fun k hk => isV_elem hV hk
  refine ⟨hF, ⟨r0, r8⟩, ⟨c0, c8⟩, ?_, by rw [cB_mt hd _ (Nat.le_refl _), List.take_length], rfl⟩
  obtain ⟨rr, rfl⟩ := Int.eq_ofNat_of_zero_le r0
  obtain ⟨c, rfl⟩ := Int.eq_ofNat_of_zero_le c0
  have hlen : l.length = rr * c := by rw [← Int.natCast_mul] at hl; omega
  rw [Int.toNat_natCast]
  rcases Nat.eq_zero_or_pos c with h0 | h0
  · have : l.length = 0 := by rw [hlen, h0, Nat.mul_zero]
    rw [this]; simp [mtC]
  · have h1 := mtC_rows h0 hlen rr (Nat.le_refl _)
    have h2 : rr * c ≤ 8 * 8 := Nat.mul_le_mul (by omega) (by omega)
    rw [hlen]; omega
/-- by places -/
theorem saysM_place {p : Int} {b : List UInt8} {R C : Int} {l : List Int} (h : SaysM p b R C l) : isF p = true ∧ 4 ≤ b.length ∧ b.length ≤ 76 ∧ bN b 0 = R ∧ bN b 2 = C ∧ cB (b.drop 4) = l := by
  obtain ⟨hF, ⟨r0, r8⟩, ⟨c0, c8⟩, h72, hc, rfl⟩ := saysM_parts h
  refine ⟨hF, by simp, by simp; omega, ?_, ?_, by simpa using hc⟩
  · show ((dgB R).toNat : Int) - 48 = R; exact dgB_sub r0 (by omega)
  · show ((dgB C).toNat : Int) - 48 = C; exact dgB_sub c0 (by omega)
theorem saysM_one {p : Int} {b : List UInt8} {R C R' C' : Int} {l l' : List Int} (h : SaysM p b R C l) (h' : SaysM p b R' C' l') : R = R' ∧ C = C' ∧ l = l' := by
  obtain ⟨_, _, _, a1, a2, a3⟩ := saysM_place h
  obtain ⟨_, _, _, b1, b2, b3⟩ := saysM_place h'
  exact ⟨a1 ▸ b1, a2 ▸ b2, a3 ▸ b3⟩
theorem cut_one (a : List UInt8) (c : UInt8) (r : List UInt8) (ha : ∀ x ∈ a, x ≠ c) : Lib.cut (a ++ c :: r) [c] = (a, r, true) := by
  have hi : Lib.index (a ++ c :: r) [c] = a.length := by
    refine Lib.index_first (by simp) (by simp [Lib.occAt]) fun j hj => ?_
    unfold Lib.occAt
    rw [List.drop_append_of_le_length (by omega), List.drop_eq_getElem_cons hj]
    simp only [List.cons_append, List.isPrefixOf_cons_cons, List.isPrefixOf_nil_left, Bool.and_true]
    simpa using fun e : c = a[j] => ha a[j] (List.getElem_mem hj) e.symm
  unfold Lib.cut
  rw [hi]
  have : (0 : Int) ≤ (a.length : Int) := by omega
  rw [if_pos this, Int.toNat_natCast]
  simp
/-- by cuts -/
def hdP (s : ByteArray) : ByteArray := ⟨(Lib.cut s.data.toList [58]).1.toArray⟩
def boP (s : ByteArray) : ByteArray := ⟨(Lib.cut s.data.toList [58]).2.1.toArray⟩
def lfP (s : ByteArray) : ByteArray := ⟨(Lib.cut (hdP s).data.toList [120]).1.toArray⟩
def rtP (s : ByteArray) : ByteArray := ⟨(Lib.cut (hdP s).data.toList [120]).2.1.toArray⟩
theorem pvV_dig {a : Int} (h0 : 0 ≤ a) (h9 : a ≤ 9) : pvV ⟨#[dgB a]⟩ = a := by
  obtain ⟨h1, h2⟩ := okI_of (s := ⟨#[dgB a]⟩) (v := a) (fmS_dig h0 h9) (by omega) (by omega)
  unfold pvV; rw [if_pos h1, h2]
theorem saysM_cut {p : Int} {s : ByteArray} {R C : Int} {l : List Int} (h : SaysM p s.data.toList R C l) : (boP s).size ≤ 72 ∧ pvV (lfP s) = R ∧ pvV (rtP s) = C ∧ cB (boP s).data.toList = l ∧ s ≠ ⟨#[]⟩ := by
  have hpl := saysM_place h
  obtain ⟨hF, ⟨r0, r8⟩, ⟨c0, c8⟩, h72, hc, hb⟩ := saysM_parts h
  have n1 := dgB_ne58 r0 (show R ≤ 9 by omega)
  have n2 := dgB_ne58 c0 (show C ≤ 9 by omega)
  have n3 := dgB_ne120 r0 (show R ≤ 9 by omega)
  have e1 : Lib.cut s.data.toList [58] = ([dgB R, 120, dgB C], mtC C.toNat l l.length, true) := by
    rw [hb]
    have := cut_one [dgB R, 120, dgB C] 58 (mtC C.toNat l l.length) (by
      intro x hx
      simp only [List.mem_cons, List.not_mem_nil, or_false] at hx
      rcases hx with rfl | rfl | rfl
      · exact n1
      · decide
      · exact n2)
    simpa using this
  have e2 : hdP s = ⟨#[dgB R, 120, dgB C]⟩ := by unfold hdP; rw [e1]
  have e3 : boP s = ⟨(mtC C.toNat l l.length).toArray⟩ := by unfold boP; rw [e1]
  have e4 : Lib.cut (hdP s).data.toList [120] = ([dgB R], [dgB C], true) := by
    rw [e2]
    have := cut_one [dgB R] 120 [dgB C] (by
      intro x hx
      simp only [List.mem_cons, List.not_mem_nil, or_false] at hx
      rw [hx]; exact n3)
    simpa using this
  refine ⟨?_, ?_, ?_, ?_, ?_⟩
  · rw [e3]; show (mtC C.toNat l l.length).toArray.size ≤ 72; simpa using h72
  · unfold lfP; rw [e4]; exact pvV_dig r0 (by omega)
  · unfold rtP; rw [e4]; exact pvV_dig c0 (by omega)
  · rw [e3]; simpa using hc
  · intro e
    have := hpl.2.1
    rw [e] at this
    simp at this
open Classical in
/-- what ParseMatrix answers -/
noncomputable def parMq (p : Int) (s : ByteArray) : (Int × Int × List Int) × Bool :=
  if h : ∃ q : Int × Int × List Int, SaysM p s.data.toList q.1 q.2.1 q.2.2 then (h.choose, true) else ((0, 0, []), false)
noncomputable def pmR (p : Int) (s : ByteArray) : Int := (parMq p s).1.1
noncomputable def pmC (p : Int) (s : ByteArray) : Int := (parMq p s).1.2.1
noncomputable def pmL (p : Int) (s : ByteArray) : List Int := (parMq p s).1.2.2
noncomputable def pmB (p : Int) (s : ByteArray) : Bool := (parMq p s).2
theorem pm_yes {p : Int} {s : ByteArray} {R C : Int} {l : List Int} (h : SaysM p s.data.toList R C l) : pmR p s = R ∧ pmC p s = C ∧ pmL p s = l ∧ pmB p s = true := by
  have hx : ∃ q : Int × Int × List Int, SaysM p s.data.toList q.1 q.2.1 q.2.2 := ⟨(R, C, l), h⟩
  have e : parMq p s = (hx.choose, true) := by unfold parMq; rw [dif_pos hx]
  obtain ⟨a, b, c⟩ := saysM_one hx.choose_spec h
  unfold pmR pmC pmL pmB
  rw [e]
  exact ⟨a, b, c, rfl⟩
theorem pm_no {p : Int} {s : ByteArray} (h : ∀ R C l, ¬ SaysM p s.data.toList R C l) : pmR p s = 0 ∧ pmC p s = 0 ∧ pmL p s = [] ∧ pmB p s = false := by
  have hx : ¬ ∃ q : Int × Int × List Int, SaysM p s.data.toList q.1 q.2.1 q.2.2 := fun ⟨q, hq⟩ => h _ _ _ hq
  have e : parMq p s = ((0, 0, []), false) := by unfold parMq; rw [dif_neg hx]
  unfold pmR pmC pmL pmB
  rw [e]
  exact ⟨rfl, rfl, rfl, rfl⟩
theorem pm_len (p : Int) (s : ByteArray) : (pmL p s).length ≤ 64 := by
  by_cases h : ∃ R C l, SaysM p s.data.toList R C l
  · obtain ⟨R, C, l, h⟩ := h
    obtain ⟨_, _, e, _⟩ := pm_yes h
    rw [e]
    obtain ⟨_, _, _, _, _, hV⟩ := isM_true h.1
    exact isV_L hV
  · obtain ⟨_, _, e, _⟩ := pm_no (p := p) (s := s) (fun R C l hh => h ⟨R, C, l, hh⟩)
    rw [e]; simp
end Go.Proofs.YtdmjikfjmimfmaaDoor
