/- FnIntegerEncodings: the plain laws: what is encoded is decoded again, whatever follows. -/
import Derived.Test.YthempdleolefnaaDoorDecVL
import Derived.Test.YthempdleolefnaaDoorFixed
import Derived.Test.YthempdleolefnaaDoorHexD
import Derived.Test.YthempdleolefnaaDoorPiL
namespace Go.Proofs.YthempdleolefnaaDoor
open Go.RowKit
set_option linter.unusedVariables false
set_option linter.unusedSimpArgs false

def byI (l : List Int) : List UInt8 := l.map fun n => UInt8.ofNat n.toNat
theorem strOfNums_list (l : List Int) : (strOfNums l).data.toList = byI l := by simp [strOfNums, byI]
theorem by_nat (m : Int) (h0 : 0 ≤ m) (h : m < 256) : (UInt8.ofNat m.toNat).toNat = m.toNat := by rw [UInt8.toNat_ofNat']; omega
theorem vv_viF (f : Nat) : ∀ m : Int, 0 ≤ m → m < 128 ^ (f + 1) → vv (byI (viF f m)) = m.toNat := by
  induction f with
  | zero =>
    intro m h0 h1
    simp at h1
    show (UInt8.ofNat m.toNat).toNat % 128 + 128 * 0 = m.toNat
    rw [by_nat m h0 (by omega)]; omega
  | succ f ih =>
    intro m h0 h1
    by_cases hm : m < 128
    · rw [viF_small _ hm]
      show (UInt8.ofNat m.toNat).toNat % 128 + 128 * 0 = m.toNat
      rw [by_nat m h0 (by omega)]; omega
    · rw [viF_big f hm]
      rw [Int.pow_succ] at h1
      have := ih (m / 128) (by omega) (by omega)
      show (UInt8.ofNat (m % 128 + 128).toNat).toNat % 128 + 128 * vv (byI (viF f (m / 128))) = m.toNat
      rw [this, by_nat _ (by omega) (by omega)]; omega
theorem viF_len (f : Nat) : ∀ m : Int, 1 ≤ (viF f m).length ∧ (viF f m).length ≤ f + 1 := by
  induction f with
  | zero => intro m; simp [viF]
  | succ f ih =>
    intro m
    by_cases hm : m < 128
    · rw [viF_small _ hm]; simp
    · rw [viF_big f hm]; have := ih (m / 128); simp; omega
theorem viF_len7 (k : Nat) : ∀ (f : Nat) (m : Int), 0 ≤ m → m < 128 ^ (k + 1) → k ≤ f → (viF f m).length ≤ k + 1 := by
  induction k with
  | zero => intro f m h0 h1 _; rw [viF_small f (by simpa using h1)]; simp
  | succ k ih =>
    intro f m h0 h1 hf
    by_cases hm : m < 128
    · rw [viF_small _ hm]; simp
    · obtain ⟨f', rfl⟩ : ∃ f', f = f' + 1 := ⟨f - 1, by omega⟩
      rw [viF_big f' hm]
      rw [Int.pow_succ] at h1
      have := ih f' (m / 128) (by omega) (by omega) (by omega)
      simp; omega
theorem viS_yes {n : Int} (h0 : 0 ≤ n) (h1 : n ≤ 562949953421311) : viS n = strOfNums (viF 7 n) ∧ 1 ≤ (viS n).size ∧ (viS n).size ≤ 7 := by
  have e : viS n = strOfNums (viF 7 n) := if_pos (inR_mk h0 h1)
  refine ⟨e, ?_, ?_⟩
  · rw [e, strOfNums_size]; exact (viF_len 7 n).1
  · rw [e, strOfNums_size]
    exact viF_len7 6 7 n h0 (by have : (128 : Int) ^ (6 + 1) = 562949953421312 := by decide
                                rw [this]; omega) (by omega)
theorem viS_no {n : Int} (h : ¬ (0 ≤ n ∧ n ≤ 562949953421311)) : viS n = ⟨#[]⟩ := by
  refine if_neg ?_
  intro hin
  exact h (inR_true hin)
theorem append_list (a b : ByteArray) : (a ++ b).data.toList = a.data.toList ++ b.data.toList := by simp
theorem take_app (a b : ByteArray) : (a ++ b).data.toList.take a.size = a.data.toList := by
  rw [append_list]
  have : a.data.toList.length = a.size := rfl
  rw [← this, List.take_left]
theorem extract_app (a b : ByteArray) : (a ++ b).extract 0 a.size = a := by
  have h : ((a ++ b).extract 0 a.size).data.toList = a.data.toList := by rw [extract_list, take_app]
  generalize (a ++ b).extract 0 a.size = c at h
  cases a; cases c
  simp at h; rw [h]
/-- an encoded number is decoded again, whatever follows -/
theorem dec_enc {n : Int} (h0 : 0 ≤ n) (h1 : n ≤ 562949953421311) (t : ByteArray) : dK (viS n ++ t) = (viS n).size ∧ (dN (viS n ++ t) : Int) = n := by
  obtain ⟨e, l1, l7⟩ := viS_yes h0 h1
  have hv : vv ((viS n ++ t).data.toList.take (viS n).size) = n.toNat := by
    rw [take_app, e, strOfNums_list]
    exact vv_viF 7 n h0 (by have : (128 : Int) ^ (7 + 1) = 72057594037927936 := by decide
                            rw [this]; omega)
  have hd : dok (viS n ++ t) (viS n).size = true := by
    rw [dok_iff, hv, extract_app, Int.toNat_of_nonneg h0]
  have hk := dK_of hd l1 l7 (by simp)
  refine ⟨hk, ?_⟩
  unfold dN
  rw [hk, hv]; omega

/-- the bytes of a number of a fixed width -/
theorem feL_fold (n : Nat) : ∀ (i acc : Nat), (byI (feL n i)).foldl (fun a b => a * 256 + b.toNat) acc = acc * 256 ^ i + n % 256 ^ i := by
  intro i
  induction i with
  | zero => intro acc; simp [feL, byI, Nat.mod_one]
  | succ i ih =>
    intro acc
    show (byI (feL n i)).foldl _ (acc * 256 + (UInt8.ofNat ((n : Int) / 2 ^ (8 * i) % 256).toNat).toNat) = _
    have hp : (2 : Int) ^ (8 * i) = ((256 ^ i : Nat) : Int) := by rw [Int.natCast_pow, Int.pow_mul]; rfl
    have hq : ((n : Int) / 2 ^ (8 * i) % 256).toNat = n / 256 ^ i % 256 := by
      rw [hp]; omega
    have hb : (UInt8.ofNat ((n : Int) / 2 ^ (8 * i) % 256).toNat).toNat = n / 256 ^ i % 256 := by
      rw [hq, UInt8.toNat_ofNat']; omega
    rw [hb, ih, Nat.pow_succ, Nat.mod_mul, Nat.add_mul, Nat.mul_assoc, Nat.mul_comm 256 (256 ^ i), Nat.mul_comm (n / 256 ^ i % 256)]
    omega
theorem feS_sz {n : Int} {width : Int} (h : inR width 1 7 = true ∧ 0 ≤ n ∧ ¬ 0 < n / 2 ^ (8 * width.toNat)) : (feS n width).size = width.toNat ∧ beN ((feS n width).data.toList) = n.toNat := by
  have e : feS n width = strOfNums (feL n width.toNat) := if_pos h
  rw [e]
  refine ⟨by rw [strOfNums_size, feL_len], ?_⟩
  obtain ⟨h1, h0, hq⟩ := h
  obtain ⟨m, rfl⟩ := Int.eq_ofNat_of_zero_le h0
  rw [strOfNums_list]
  have hf := feL_fold m width.toNat 0
  show (byI (feL m width.toNat)).foldl _ 0 = _
  rw [hf]
  have hp : (2 : Int) ^ (8 * width.toNat) = ((256 ^ width.toNat : Nat) : Int) := by rw [Int.natCast_pow, Int.pow_mul]; rfl
  rw [hp] at hq
  have hlt : m < 256 ^ width.toNat := by
    rcases Nat.lt_or_ge m (256 ^ width.toNat) with h | h
    · exact h
    · exfalso
      apply hq
      have : 0 < m / 256 ^ width.toNat := Nat.div_pos h (Nat.pow_pos (by omega))
      omega
  rw [Nat.mod_eq_of_lt hlt]; simp
theorem feS_no' {n width : Int} (h : ¬ (inR width 1 7 = true ∧ 0 ≤ n ∧ ¬ 0 < n / 2 ^ (8 * width.toNat))) : feS n width = ⟨#[]⟩ := if_neg h

/-- hexadecimal texts -/
theorem hx_back (t : ByteArray) : hdOk (hxS t) = true ∧ hdS (hxS t) = t ∧ (hxS t).size = 2 * t.size := by
  have e : hxDec (hxS t).data.toList = some t.data.toList := by
    have : (hxS t).data.toList = Lib.Hx.encode t.data.toList := by unfold hxS; simp
    rw [this, hxDec_encode]
  refine ⟨by unfold hdOk; rw [e]; rfl, by unfold hdS; rw [e]; rfl, ?_⟩
  show (hxS t).data.toList.length = _
  have : (hxS t).data.toList = Lib.Hx.encode t.data.toList := by unfold hxS; simp
  rw [this, Lib.Hx.encode_length]; rfl
/-- numerals -/
theorem pi_back (v : Int) : (okP (fmS v) = true ↔ -999999999 ≤ v ∧ v ≤ 999999999) ∧ (okP (fmS v) = true → pvV (fmS v) = v) := by
  have key : okP (fmS v) = true → pv (fmS v) = v ∧ -999999999 ≤ v ∧ v ≤ 999999999 := fun h => by
    obtain ⟨a, b0, b1, c⟩ := okP_spec h
    have e : Lib.itoa (pv (fmS v)) = Lib.itoa v := by rw [← fmS_list, c, fmS_list]
    have h1 := atoi_itoa (pv (fmS v))
    rw [e, atoi_itoa] at h1
    have : v = pv (fmS v) := Option.some.inj h1
    rw [← this] at b0 b1
    exact ⟨this.symm, b0, b1⟩
  refine ⟨⟨fun h => (key h).2, fun h => (okP_of rfl h.1 h.2).1⟩, fun h => ?_⟩
  unfold pvV
  rw [h, if_pos rfl, (key h).1]
end Go.Proofs.YthempdleolefnaaDoor
