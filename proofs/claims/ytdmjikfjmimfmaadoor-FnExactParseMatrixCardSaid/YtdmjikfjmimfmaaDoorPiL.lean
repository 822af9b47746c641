/- ParseInt: the plain law: a text is the numeral of at most one number; what the reference's scan and the library's Atoi find there. -/
import Derived.Test.YtdmjikfjmimfmaaDoorFmt
namespace Go.Proofs.YtdmjikfjmimfmaaDoor
open Go.RowKit
set_option linter.unusedVariables false
set_option linter.unusedSimpArgs false

/-- one byte of the reference's scan: the number so far, and how many digits -/
def isDg (b : UInt8) : Bool := decide (48 ≤ b.toNat) && decide (b.toNat ≤ 57)
def scB (a : Nat × Nat) (b : UInt8) : Nat × Nat := if isDg b = true then (a.1 * 10 + (b.toNat - 48), a.2 + 1) else a
def ps (l : List UInt8) : Nat × Nat := l.foldl scB (0, 0)
theorem ps_snoc (l : List UInt8) (b : UInt8) : ps (l ++ [b]) = scB (ps l) b := by simp [ps]
theorem isDg_iff {b : UInt8} : isDg b = true ↔ 48 ≤ b.toNat ∧ b.toNat ≤ 57 := by unfold isDg; simp
theorem sc_inv : ∀ (l : List UInt8) (a : Nat × Nat), a.1 < 10 ^ a.2 → (l.foldl scB a).1 < 10 ^ (l.foldl scB a).2 ∧ (l.foldl scB a).2 ≤ a.2 + l.length
  | [], a, h => ⟨h, by simp⟩
  | b :: l, a, h => by
    rw [List.foldl_cons]
    have hs : (scB a b).1 < 10 ^ (scB a b).2 ∧ (scB a b).2 ≤ a.2 + 1 := by
      unfold scB
      by_cases hd : isDg b = true
      · rw [if_pos hd]
        have := isDg_iff.1 hd
        refine ⟨?_, by simp⟩
        show a.1 * 10 + (b.toNat - 48) < 10 ^ (a.2 + 1)
        rw [Nat.pow_succ]; omega
      · rw [if_neg hd]; exact ⟨h, by omega⟩
    have := sc_inv l (scB a b) hs.1
    exact ⟨this.1, by have := this.2; have := hs.2; simp; omega⟩
theorem ps_lt (l : List UInt8) : (ps l).1 < 10 ^ (ps l).2 ∧ (ps l).2 ≤ l.length := by
  have := sc_inv l (0, 0) (by simp)
  refine ⟨this.1, ?_⟩
  have h2 := this.2
  rw [Nat.zero_add] at h2
  exact h2
theorem ps_take {l : List UInt8} {k : Nat} (h : k ≤ 11) : (ps (l.take k)).1 < 100000000000 ∧ (ps (l.take k)).2 ≤ 11 := by
  have h1 := ps_lt (l.take k)
  have h2 := List.length_take_le k l
  have h3 := Nat.pow_le_pow_right (n := 10) (by omega) (show (ps (l.take k)).2 ≤ 11 by omega)
  exact ⟨by omega, by omega⟩
theorem dg_byte {d : Nat} (h : d < 10) : (UInt8.ofNat (48 + d)).toNat = 48 + d := by rw [UInt8.toNat_ofNat']; omega
theorem ps_dec (u : Nat) : ps (Lib.decDigits u) = (u, (Lib.decDigits u).length) := by
  induction u using Nat.strongRecOn with
  | _ u ih =>
    by_cases h : u < 10
    · rw [Lib.decDigits, dif_pos h]
      show scB (0, 0) _ = _
      unfold scB
      rw [if_pos (isDg_iff.2 (by rw [dg_byte h]; omega)), dg_byte h]
      simp
    · rw [Lib.decDigits, dif_neg h, ps_snoc, ih (u / 10) (by omega)]
      unfold scB
      rw [if_pos (isDg_iff.2 (by rw [dg_byte (by omega)]; omega)), dg_byte (by omega)]
      simp; omega
theorem decFrom_app : ∀ (l m : List UInt8) (a : Nat), Lib.decFrom a (l ++ m) = (Lib.decFrom a l).bind fun x => Lib.decFrom x m
  | [], m, a => rfl
  | b :: l, m, a => by
    simp only [List.cons_append, Lib.decFrom]
    cases Lib.digitVal b with
    | none => rfl
    | some d => exact decFrom_app l m _
theorem decFrom_dec (u : Nat) : Lib.decFrom 0 (Lib.decDigits u) = some u := by
  induction u using Nat.strongRecOn with
  | _ u ih =>
    have hdv : ∀ d, d < 10 → Lib.digitVal (UInt8.ofNat (48 + d)) = some d := fun d hd => by
      unfold Lib.digitVal; rw [dg_byte hd, if_pos (by omega)]; simp
    by_cases h : u < 10
    · rw [Lib.decDigits, dif_pos h, Lib.decFrom, hdv u h]; simp [Lib.decFrom]
    · rw [Lib.decDigits, dif_neg h, decFrom_app, ih (u / 10) (by omega)]
      simp only [Option.bind_some, Lib.decFrom, hdv _ (show u % 10 < 10 by omega)]
      congr 1; omega
theorem dec_ne (u : Nat) : Lib.decDigits u ≠ [] := by
  intro h
  have := Lib.decDigits_length u
  have h2 := Lib.nDigits_pos u
  rw [h] at this; simp at this; omega
theorem dec_head (u : Nat) : ∃ c r, Lib.decDigits u = c :: r ∧ isDg c = true := by
  induction u using Nat.strongRecOn with
  | _ u ih =>
    by_cases h : u < 10
    · rw [Lib.decDigits, dif_pos h]
      exact ⟨_, _, rfl, isDg_iff.2 (by rw [dg_byte h]; omega)⟩
    · obtain ⟨c, r, e, hc⟩ := ih (u / 10) (by omega)
      rw [Lib.decDigits, dif_neg h, e]
      exact ⟨c, _, rfl, hc⟩
theorem decNat_dec (u : Nat) : Lib.decNat (Lib.decDigits u) = some u := by
  unfold Lib.decNat
  rw [if_neg (by simpa using dec_ne u)]
  exact decFrom_dec u
theorem atoi_itoa (v : Int) : Lib.atoi (Lib.itoa v) = some v := by
  by_cases h : v < 0
  · obtain ⟨u, rfl⟩ : ∃ u : Nat, v = -(u : Int) := ⟨v.natAbs, by omega⟩
    rw [Lib.itoa_neg _ (by omega)]
    simp [Lib.atoi, decNat_dec]
  · obtain ⟨u, rfl⟩ : ∃ u : Nat, v = (u : Int) := ⟨v.toNat, by omega⟩
    rw [Lib.itoa_nonneg]
    obtain ⟨c, r, e, hc⟩ := dec_head u
    have hd := isDg_iff.1 hc
    have n1 : (c == 45) = false := by simp; intro h; rw [h] at hd; simp at hd
    have n2 : (c == 43) = false := by simp; intro h; rw [h] at hd; simp at hd
    rw [e, Lib.atoi, n1, n2, ← e, decNat_dec]; rfl

/-- the number that the reference reads -/
def pvN (s : ByteArray) : Nat := (ps (s.data.toList.take 11)).1
def pvK (s : ByteArray) : Nat := (ps (s.data.toList.take 11)).2
def pvM (s : ByteArray) : Bool := s.data.toList.head?.map (·.toNat) == some 45
def pv (s : ByteArray) : Int := if pvM s = true then -(pvN s : Int) else pvN s
def okI (s : ByteArray) : Bool := decide (pvK s ≤ 9) && decide (s.size ≤ 10) && decide (fmS (pv s) = s)
def pvV (s : ByteArray) : Int := if okI s = true then pv s else 0
def PiAns (s : ByteArray) (w : World) (e : Ending) (w' : World) : Prop := e = .returned (.tuple #[.int .i64 (pvV s), .bool (okI s)]) ∧ Below w.heap.size w w'
theorem PiAns.no {s : ByteArray} {w w' : World} (h : okI s = false) (hb : Below w.heap.size w w') : PiAns s w (.returned (.tuple #[.int .i64 0, .bool false])) w' := by
  refine ⟨?_, hb⟩; unfold pvV; rw [h]; rfl
theorem PiAns.yes {s : ByteArray} {v : Int} {w w' : World} (h : okI s = true) (hv : pv s = v) (hb : Below w.heap.size w w') : PiAns s w (.returned (.tuple #[.int .i64 v, .bool true])) w' := by
  refine ⟨?_, hb⟩; unfold pvV; rw [h, hv]; rfl
theorem fmS_list (v : Int) : (fmS v).data.toList = Lib.itoa v := by unfold fmS; simp
theorem okI_spec {s : ByteArray} (h : okI s = true) : Lib.atoiAll s.data.toList = .ok (pv s) ∧ -999999999 ≤ pv s ∧ pv s ≤ 999999999 ∧ fmS (pv s) = s := by
  unfold okI at h
  simp only [Bool.and_eq_true, decide_eq_true_eq] at h
  obtain ⟨⟨h1, h2⟩, h3⟩ := h
  have hl := ps_lt (s.data.toList.take 11)
  have hp := Nat.pow_le_pow_right (n := 10) (by omega) (show (ps (s.data.toList.take 11)).2 ≤ 9 from h1)
  have hn : pvN s < 1000000000 := Nat.lt_of_lt_of_le hl.1 hp
  have hb : -999999999 ≤ pv s ∧ pv s ≤ 999999999 := by unfold pv; split <;> omega
  refine ⟨?_, hb.1, hb.2, h3⟩
  have e : s.data.toList = Lib.itoa (pv s) := by rw [← fmS_list, h3]
  rw [Lib.atoiAll_short _ (by have : s.data.toList.length = s.size := rfl; omega), e, atoi_itoa]; rfl
theorem okI_of {s : ByteArray} {v : Int} (h : fmS v = s) (h0 : -999999999 ≤ v) (h1 : v ≤ 999999999) : okI s = true ∧ pv s = v := by
  have e : s.data.toList = Lib.itoa v := by rw [← h, fmS_list]
  have hdl : ∀ u : Nat, u ≤ 999999999 → (Lib.decDigits u).length ≤ 9 := fun u hu => by
    rw [Lib.decDigits_length]
    by_cases hle : Lib.nDigits u ≤ 9
    · exact hle
    · have h2 := Lib.nDigits_unique
      exfalso
      have : ∀ k u, u < 10 ^ (k + 1) → Lib.nDigits u ≤ k + 1 := fun k => by
        induction k with
        | zero => intro u hu; rw [Lib.nDigits_small (by simpa using hu)]; omega
        | succ k ih =>
          intro u hu
          by_cases h10 : u < 10
          · rw [Lib.nDigits_small h10]; omega
          · rw [Lib.nDigits_big h10]
            have := ih (u / 10) (by rw [Nat.pow_succ] at hu; omega)
            omega
      have := this 8 u (by simp; omega)
      omega
  have key : pvN s = v.natAbs ∧ pvK s ≤ 9 ∧ s.size ≤ 10 ∧ pvM s = decide (v < 0) := by
    have hsz : s.size = s.data.toList.length := rfl
    by_cases hv : v < 0
    · obtain ⟨u, rfl⟩ : ∃ u : Nat, v = -(u : Int) := ⟨v.natAbs, by omega⟩
      rw [Lib.itoa_neg _ (by omega)] at e
      have hl := hdl u (by omega)
      have hps : ps (s.data.toList.take 11) = (u, (Lib.decDigits u).length) := by
        rw [e, List.take_of_length_le (by simp; omega)]
        show (Lib.decDigits u).foldl scB (scB (0, 0) 45) = _
        rw [show scB (0, 0) 45 = (0, 0) from rfl]
        exact ps_dec u
      refine ⟨by unfold pvN; rw [hps]; simp, by unfold pvK; rw [hps]; exact hl, by rw [hsz, e]; simp; omega, ?_⟩
      unfold pvM; rw [e]
      have hneg : decide (-(u : Int) < 0) = true := by simp; omega
      rw [hneg]; rfl
    · obtain ⟨u, rfl⟩ : ∃ u : Nat, v = (u : Int) := ⟨v.toNat, by omega⟩
      rw [Lib.itoa_nonneg] at e
      have hl := hdl u (by omega)
      have hps : ps (s.data.toList.take 11) = (u, (Lib.decDigits u).length) := by
        rw [e, List.take_of_length_le (by omega)]
        exact ps_dec u
      refine ⟨by unfold pvN; rw [hps]; simp, by unfold pvK; rw [hps]; exact hl, by rw [hsz, e]; omega, ?_⟩
      obtain ⟨c, r, e2, hc⟩ := dec_head u
      have hd := isDg_iff.1 hc
      unfold pvM; rw [e, e2]
      have hneg : decide ((u : Int) < 0) = false := by simp
      rw [hneg]
      simp; omega
  obtain ⟨k1, k2, k3, k4⟩ := key
  have hpv : pv s = v := by
    unfold pv
    rw [k4, k1]
    by_cases hv : v < 0
    · rw [if_pos (by simpa using hv)]; omega
    · rw [if_neg (by simpa using hv)]; omega
  refine ⟨?_, hpv⟩
  unfold okI
  rw [hpv, h]
  simp [k2, k3]

end Go.Proofs.YtdmjikfjmimfmaaDoor
