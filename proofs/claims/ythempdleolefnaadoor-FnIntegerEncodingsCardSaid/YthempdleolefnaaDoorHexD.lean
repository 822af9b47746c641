/- DecodeHex: the plain law (a text is the hexadecimal text of at most one text), the walks of the program and of the reference, the law. -/
import Derived.Test.YthempdleolefnaaDoorHexP
import Derived.Shelf.Hex.DecodeOwns
namespace Go.Proofs.YthempdleolefnaaDoor
open Go.RowKit
set_option linter.unusedVariables false
set_option linter.unusedSimpArgs false

/-- the value of a lower-case hexadecimal digit, or 16 -/
def lv (b : UInt8) : Nat := ((List.range 16).find? fun k => Lib.Hx.digit k == b).getD 16
theorem lv_digit : ∀ j : Fin 16, lv (Lib.Hx.digit j.val) = j.val := by decide +kernel
theorem lv_of {k : Nat} (h : k < 16) : lv (Lib.Hx.digit k) = k := lv_digit ⟨k, h⟩
theorem digit_lv {b : UInt8} (h : lv b < 16) : Lib.Hx.digit (lv b) = b := by
  unfold lv at h ⊢
  cases hf : (List.range 16).find? fun k => Lib.Hx.digit k == b with
  | none => rw [hf] at h; simp at h
  | some k => have := List.find?_some hf; simpa using this
theorem lv_none {b : UInt8} (h : ∀ j, j < 16 → Lib.Hx.digit j ≠ b) : lv b = 16 := by
  unfold lv
  cases hf : (List.range 16).find? fun k => Lib.Hx.digit k == b with
  | none => rfl
  | some k =>
    have h1 := List.find?_some hf
    have h2 := List.mem_of_find?_eq_some hf
    simp at h1 h2
    exact absurd h1 (h k h2)
theorem v_digit : ∀ j : Fin 16, Lib.Hx.v (Lib.Hx.digit j.val) = j.val := by decide +kernel
theorem decode_encode (t : List UInt8) : Lib.Hx.decode (Lib.Hx.encode t) = (t, .ok) := by
  induction t with
  | nil => rw [show Lib.Hx.encode [] = [] from rfl, Lib.Hx.decode_nil]
  | cons a t ih =>
    rw [Lib.Hx.encode_cons, Lib.Hx.decode_two, ih]
    have ha := a.toNat_lt
    have e1 := v_digit ⟨a.toNat / 16, by omega⟩
    have e2 := v_digit ⟨a.toNat % 16, by omega⟩
    simp only at e1 e2
    rw [e1, e2, if_neg (by omega), if_neg (by omega), show a.toNat / 16 * 16 + a.toNat % 16 = a.toNat by omega]
    simp
/-- the text of which l is the hexadecimal text -/
def hxDec : List UInt8 → Option (List UInt8)
  | [] => some []
  | [_] => none
  | p :: q :: t => if lv p < 16 ∧ lv q < 16 then (hxDec t).map (UInt8.ofNat (16 * lv p + lv q) :: ·) else none
theorem hxDec_encode (t : List UInt8) : hxDec (Lib.Hx.encode t) = some t := by
  induction t with
  | nil => rfl
  | cons a t ih =>
    have ha := a.toNat_lt
    rw [Lib.Hx.encode_cons, hxDec, lv_of (by omega), lv_of (by omega), if_pos ⟨by omega, by omega⟩, ih]
    simp [show 16 * (a.toNat / 16) + a.toNat % 16 = a.toNat by omega]
theorem encode_hxDec : ∀ (l t : List UInt8), hxDec l = some t → Lib.Hx.encode t = l
  | [], t, h => by simp [hxDec] at h; subst h; rfl
  | [_], t, h => by simp [hxDec] at h
  | p :: q :: l, t, h => by
    rw [hxDec] at h
    by_cases hc : lv p < 16 ∧ lv q < 16
    · rw [if_pos hc] at h
      obtain ⟨u, hu, rfl⟩ := Option.map_eq_some_iff.1 h
      rw [Lib.Hx.encode_cons, encode_hxDec l u hu]
      have e : (UInt8.ofNat (16 * lv p + lv q)).toNat = 16 * lv p + lv q := by rw [UInt8.toNat_ofNat']; omega
      rw [e, show (16 * lv p + lv q) / 16 = lv p by omega, show (16 * lv p + lv q) % 16 = lv q by omega, digit_lv hc.1, digit_lv hc.2]
    · rw [if_neg hc] at h; cases h
/-- decoding goes on pair by pair -/
theorem hxDec_pair (l : List UInt8) (k : Nat) (h : 2 * k + 1 < l.length) : hxDec (l.drop (2 * k)) =
    if lv (l.getD (2 * k) 0) < 16 ∧ lv (l.getD (2 * k + 1) 0) < 16 then (hxDec (l.drop (2 * (k + 1)))).map (UInt8.ofNat (16 * lv (l.getD (2 * k) 0) + lv (l.getD (2 * k + 1) 0)) :: ·) else none := by
  have e1 : l.drop (2 * k) = l[2 * k] :: l[2 * k + 1] :: l.drop (2 * (k + 1)) := by
    rw [List.drop_eq_getElem_cons (by omega), List.drop_eq_getElem_cons (by omega), show 2 * k + 1 + 1 = 2 * (k + 1) by omega]
  rw [e1, hxDec, List.getD_eq_getElem?_getD, List.getD_eq_getElem?_getD, List.getElem?_eq_getElem (by omega), List.getElem?_eq_getElem h]
  rfl
theorem hxDec_odd : ∀ (l : List UInt8), l.length % 2 = 1 → hxDec l = none
  | [], h => by simp at h
  | [_], _ => rfl
  | p :: q :: l, h => by
    have := hxDec_odd l (by simp at h; omega)
    rw [hxDec, this]; simp

/-- what both answer -/
def hdOk (s : ByteArray) : Bool := (hxDec s.data.toList).isSome
def hdS (s : ByteArray) : ByteArray := ⟨((hxDec s.data.toList).getD []).toArray⟩
def HdAns (s : ByteArray) (w : World) (e : Ending) (w' : World) : Prop := e = .returned (.tuple #[.string (hdS s), .bool (hdOk s)]) ∧ Below w.heap.size w w'
theorem HdAns.no {s : ByteArray} {w w' : World} (h : hxDec s.data.toList = none) (hb : Below w.heap.size w w') : HdAns s w (.returned (.tuple #[.string ⟨#[]⟩, .bool false])) w' := by
  refine ⟨?_, hb⟩
  unfold hdS hdOk; rw [h]; rfl
theorem HdAns.yes {s : ByteArray} {t : List UInt8} {w w' : World} (h : hxDec s.data.toList = some t) (hb : Below w.heap.size w w') : HdAns s w (.returned (.tuple #[.string ⟨t.toArray⟩, .bool true])) w' := by
  refine ⟨?_, hb⟩
  unfold hdS hdOk; rw [h]; rfl
theorem nums_text (t : List UInt8) : strOfNums (t.map fun b => (b.toNat : Int)) = ⟨t.toArray⟩ := by
  unfold strOfNums
  congr 2
  rw [List.map_map]
  conv => rhs; rw [← List.map_id t]
  apply List.map_congr_left
  intro b _
  simp

/-- what l1FromHex gives -/
def fhx (b : UInt8) : Int := if lv b < 16 then lv b else -1
theorem fhx_yes {b : UInt8} (h : lv b < 16) : fhx b = lv b := if_pos h
theorem fhx_no {b : UInt8} (h : ¬ lv b < 16) : fhx b = -1 := if_neg h
theorem hxD_eq {j : Nat} {b : UInt8} : (hxD j = (b.toNat : Int)) ↔ Lib.Hx.digit j = b := by
  unfold hxD
  constructor
  · intro h; exact UInt8.toNat_inj.1 (by omega)
  · intro h; rw [h]
set_option maxRecDepth 100000 in
set_option maxHeartbeats 400000 in
theorem s_l1FromHex (b : UInt8) (w : World) :
    Calls Tryd.prog 23 #[.int .u8 b.toNat] w fun e w' => e = .returned (.int .i64 (fhx b)) ∧ w = w' := by
  go_enter Tryd.func23, Tryd.ntmps23
  go_wp2
  go_loop [3] (fun i => ∃ k : Nat, k ≤ 16 ∧ i = .int .i64 k ∧ Hid (∀ j, j < k → Lib.Hx.digit j ≠ b)) (fun i => 16 - (intOf i).toNat)
  case atStart => exact ⟨0, by omega, rfl, fun j h1 => by omega⟩
  case round =>
    obtain ⟨k, hk, rfl, hno⟩ := hrel
    by_cases hlt : k < 16
    · by_cases he : Lib.Hx.digit k = b
      · have hd : (hxD k == (b.toNat : Int)) = true := by simpa using hxD_eq.2 he
        have hv : fhx b = (k : Int) := by
          have : lv b = k := by rw [← he]; exact lv_of hlt
          rw [fhx_yes (by omega), this]
        have HV := Lib.hid hv
        clear hv he
        go_wp2_with (go_at_call 34; refine (s_l1Digit k hlt _).mono ?_; rintro e w' ⟨rfl, rfl⟩)
        go_ret
        exact ⟨ret_int HV.out.symm, rfl⟩
      · have hd : (hxD k == (b.toNat : Int)) = false := by simpa using fun h => he (hxD_eq.1 h)
        have hn : Hid (∀ j, j < k + 1 → Lib.Hx.digit j ≠ b) := fun j hj => by
          by_cases e : j = k
          · rw [e]; exact he
          · exact hno.out j (by omega)
        clear he hno
        go_wp2_with (go_at_call 34; refine (s_l1Digit k hlt _).mono ?_; rintro e w' ⟨rfl, rfl⟩)
        go_round
        case rel => exact ⟨k + 1, by omega, by go_num, hn⟩
        case measure => simp [intOf]; omega
    · obtain rfl : k = 16 := by omega
      have hv : fhx b = -1 := fhx_no (by rw [lv_none hno.out]; omega)
      have HV := Lib.hid hv
      clear hv hno
      go_wp2
      go_ret
      exact ⟨ret_int HV.out.symm, rfl⟩

theorem getD_byte (s : ByteArray) (k : Nat) (h : k < s.size) : s.data.toList.getD k 0 = s[k] := by
  rw [List.getD_eq_getElem?_getD, List.getElem?_eq_getElem (by simpa using h)]; rfl
/-- k pairs have been decoded, into t -/
def HdMid (s : ByteArray) (k : Nat) (t : List UInt8) : Prop := t.length = k ∧ hxDec s.data.toList = (hxDec (s.data.toList.drop (2 * k))).map (t ++ ·)
theorem HdMid.start (s : ByteArray) : HdMid s 0 [] := ⟨rfl, by simp⟩
theorem HdMid.step {s : ByteArray} {k : Nat} {t : List UInt8} (h : HdMid s k t) (hk : 2 * k + 1 < s.size) (h1 : lv s[2 * k] < 16) (h2 : lv s[2 * k + 1] < 16) :
    HdMid s (k + 1) (t ++ [UInt8.ofNat (16 * lv s[2 * k] + lv s[2 * k + 1])]) := by
  obtain ⟨ha, hb⟩ := h
  refine ⟨by simp [ha], ?_⟩
  rw [hb, hxDec_pair _ k hk, getD_byte s _ (by omega), getD_byte s _ hk, if_pos ⟨h1, h2⟩]
  cases hxDec (List.drop (2 * (k + 1)) s.data.toList) <;> simp
theorem HdMid.bad {s : ByteArray} {k : Nat} {t : List UInt8} (h : HdMid s k t) (hk : 2 * k + 1 < s.size) (hn : ¬ (lv s[2 * k] < 16 ∧ lv s[2 * k + 1] < 16)) : hxDec s.data.toList = none := by
  obtain ⟨ha, hb⟩ := h
  rw [hb, hxDec_pair _ k hk, getD_byte s _ (by omega), getD_byte s _ hk, if_neg hn]; rfl
theorem HdMid.done {s : ByteArray} {k : Nat} {t : List UInt8} (h : HdMid s k t) (hk : s.size ≤ 2 * k) : hxDec s.data.toList = some t := by
  obtain ⟨ha, hb⟩ := h
  rw [hb, List.drop_eq_nil_of_le hk]; simp [hxDec]
def byL (t : List UInt8) : List Int := t.map fun b => (b.toNat : Int)
theorem byL_snoc (t : List UInt8) (n : Nat) (h : n < 256) : byL t ++ [(n : Int)] = byL (t ++ [UInt8.ofNat n]) := by
  unfold byL; simp; omega

set_option maxRecDepth 100000 in
set_option maxHeartbeats 1000000 in
theorem s_DecodeHex (s : ByteArray) (w : World) (hs : s.size ≤ 1048576) :
    Calls Tryd.prog 7 #[.string s] w (HdAns s w) := by
  obtain ⟨B, hB⟩ : ∃ B, B = w.heap.size := ⟨_, rfl⟩
  have HB := Lib.hid hB
  have hB1 : B ≤ w.heap.size := by omega
  clear hB
  by_cases hodd : s.size % 2 = 1
  · have hz := Lib.hid (hxDec_odd s.data.toList hodd)
    have ho : ((s.size : Int) % 2 == 1) = true := by simp; omega
    clear hodd
    go_enter Tryd.func7, Tryd.ntmps7
    go_wp2
    go_ret2
    exact HdAns.no hz.out ((Below.refl _ _).alloc (Nat.le_refl _) _)
  · have ho : ((s.size : Int) % 2 == 1) = false := by simp; omega
    have hev : s.size % 2 ≤ 0 := by omega
    clear hodd
    go_enter Tryd.func7, Tryd.ntmps7
    go_wp2
    go_loopw [4, 5] (fun v i wr => ∃ (k : Nat) (t : List UInt8), 2 * k ≤ s.size ∧ i = .int .i64 (2 * (k : Int)) ∧ Hid (HdMid s k t) ∧ Own wr B 5 .u8 v (byL t) ∧ Below B w wr ∧ B ≤ wr.heap.size) (fun _ i _ => s.size - (intOf i).toNat)
    case atStart => exact ⟨0, [], by omega, rfl, HdMid.start s, Own.made w _ _ hB1, (Below.refl _ _).alloc hB1 _, by simp; omega⟩
    case round =>
      obtain ⟨k, t, hk, rfl, hmid, hown, hbel, hBr⟩ := hrel
      by_cases hlt : 2 * k < s.size
      · have hk1 : 2 * k + 1 < s.size := by omega
        have htl : (byL t).length ≤ 1048576 := by unfold byL; rw [List.length_map, hmid.out.1]; omega
        have hcon := fun (b : UInt8) (wq : World) => s_l1FromHex b wq
        have i1 : (2 * (k : Int)).toNat = 2 * k := by omega
        have i2 : (2 * (k : Int) + 1).toNat = 2 * k + 1 := by omega
        by_cases h1 : lv s[2 * k] < 16
        · have f1 := Lib.hid (fhx_yes h1)
          by_cases h2 : lv s[2 * k + 1] < 16
          · have f2 := Lib.hid (fhx_yes h2)
            have hm2 := Lib.hid (hmid.out.step hk1 h1 h2)
            obtain ⟨x, hx⟩ : ∃ x, lv s[2 * k] = x := ⟨_, rfl⟩
            obtain ⟨y, hy⟩ : ∃ y, lv s[2 * k + 1] = y := ⟨_, rfl⟩
            rw [hx] at f1 h1 hm2; rw [hy] at f2 h2 hm2
            have hsn0 := byL_snoc t (16 * x + y) (by omega)
            rw [show ((16 * x + y : Nat) : Int) = 16 * (x : Int) + (y : Int) by omega] at hsn0
            have hsn := Lib.hid hsn0
            clear hsn0
            clear hx hy
            go_wp2_with fail
            refine (hcon _ _).mono ?_; rintro e w' ⟨rfl, rfl⟩
            rw [f1.out]
            go_wp2_with fail
            refine (hcon _ _).mono ?_; rintro e w' ⟨rfl, rfl⟩
            rw [f2.out]
            go_wp2_with (at_builtin; refine app_byte w wr rfl (.tmp 34) (.tmp 40) rfl B _ (byL t) rfl rfl hown hbel hBr (by omega) ?_)
            intro v' w1 hown1 hbel1 hB1'
            rw [hsn.out] at hown1
            go_wp2
            go_roundw
            case rel => exact ⟨k + 1, _, by omega, by go_num, hm2, hown1, hbel1, hB1'⟩
            case measure => simp [intOf]; omega
          · have f2 := Lib.hid (fhx_no h2)
            have hz := Lib.hid (hmid.out.bad hk1 fun h => h2 h.2)
            obtain ⟨x, hx⟩ : ∃ x, lv s[2 * k] = x := ⟨_, rfl⟩
            rw [hx] at f1 h1
            clear h2 hx
            go_wp2_with fail
            refine (hcon _ _).mono ?_; rintro e w' ⟨rfl, rfl⟩
            rw [f1.out]
            go_wp2_with fail
            refine (hcon _ _).mono ?_; rintro e w' ⟨rfl, rfl⟩
            rw [f2.out]
            go_wp2
            go_ret2
            exact HdAns.no hz.out (hbel.mono (by rw [HB.out]; exact Nat.le_refl _))
        · have f1 := Lib.hid (fhx_no h1)
          have hz := Lib.hid (hmid.out.bad hk1 fun h => h1 h.1)
          clear h1
          go_wp2_with fail
          refine (hcon _ _).mono ?_; rintro e w' ⟨rfl, rfl⟩
          rw [f1.out]
          go_wp2_with fail
          refine (hcon _ _).mono ?_; rintro e w' ⟨rfl, rfl⟩
          go_wp2
          go_ret2
          exact HdAns.no hz.out (hbel.mono (by rw [HB.out]; exact Nat.le_refl _))
      · have hz := Lib.hid (hmid.out.done (by omega))
        have ht := text_of_bytes hown
        rw [show byL t = t.map fun b => (b.toNat : Int) from rfl, nums_text] at ht
        go_wp2
        go_ret2
        exact HdAns.yes hz.out (hbel.mono (by rw [HB.out]; exact Nat.le_refl _))

theorem enc_iff {s : ByteArray} {t : List UInt8} : ((Lib.Hx.encode t == s.toList) = true) ↔ Lib.Hx.encode t = s.data.toList := by
  rw [ByteArray.toList_eq]; simp
/-- how the decoding of a text by the library and its hexadecimal text go together -/
theorem hx_bad {s : ByteArray} {t : List UInt8} {o : Lib.Hx.Out} (h : Lib.Hx.decode s.data.toList = (t, o)) (ho : o ≠ .ok) : hxDec s.data.toList = none := by
  cases hd : hxDec s.data.toList with
  | none => rfl
  | some u =>
    have := encode_hxDec _ _ hd
    rw [← this, decode_encode] at h
    exact absurd (Prod.mk.inj h).2.symm ho
theorem hx_neq {s : ByteArray} {t : List UInt8} (h : Lib.Hx.decode s.data.toList = (t, .ok)) (hn : ¬ Lib.Hx.encode t = s.data.toList) : hxDec s.data.toList = none := by
  cases hd : hxDec s.data.toList with
  | none => rfl
  | some u =>
    have he := encode_hxDec _ _ hd
    rw [← he, decode_encode] at h
    rw [← (Prod.mk.inj h).1] at hn
    exact absurd he hn
theorem hx_eq {s : ByteArray} {t : List UInt8} (he : Lib.Hx.encode t = s.data.toList) : hxDec s.data.toList = some t := by rw [← he]; exact hxDec_encode t

set_option maxRecDepth 100000 in
set_option maxHeartbeats 1000000 in
theorem i_DecodeHex (s : ByteArray) (w : World) (hs : s.size ≤ 1048576) (te : TypeId) (pe : Value) (hE : w.cell? ⟨0, 0, none⟩ = some (.iface te pe)) :
    Calls Tryd.prog 8 #[.string s] w (HdAns s w) := by
  have hcon := Tryd.hex_DecodeString s w (.iface te pe) hE (by omega)
  have hdl := Lib.Hx.decode_len s.data.toList
  rw [← Lib.size_eq] at hdl
  generalize hD : Lib.Hx.decode s.data.toList = D at hcon hdl
  obtain ⟨t, o⟩ := D
  have HD := Lib.hid hD
  simp only at hdl hcon
  clear hD hE
  cases o with
  | ok =>
    simp only [Lib.Hx.errVal] at hcon
    go_enter Tryd.func8, Tryd.ntmps8
    go_wp2_with fail
    refine hcon.mono ?_; rintro e w1 ⟨rfl, hrow, b1⟩
    have HO : Hid (Own w1 w.heap.size 5 .u8 (.slice (some ⟨w.heap.size, 0, none⟩) t.length (s.size / 2)) (byL t)) := by
      have h := rowP_owns hrow hdl (by unfold maxLen; omega) w.heap.size (Nat.le_refl _)
      show w1.ownsRow _ _ 1 _ _ _
      unfold byL
      simpa [List.map_map, Function.comp_def] using h
    have hcl : Hid (∀ i (h : i < t.length), w1.cell? ⟨w.heap.size, 0 + i, none⟩ = some (.int .u8 ((t[i]'h).toNat : Int))) := fun i hi => by
      rw [Nat.zero_add, hrow.cell (by omega)]
      unfold Lib.Hx.rowP
      rw [if_pos (by omega), Nat.sub_zero, List.getElem?_eq_getElem hi]
      rfl
    have hlt : w.heap.size < w1.heap.size := by
      obtain ⟨c, hh, _⟩ := hrow
      exact (Array.getElem?_eq_some_iff.1 hh).1
    have HB1 := Lib.hid b1
    clear hrow b1 hcon
    have hc2 := Tryd.hex_EncodeToString_bytes w.heap.size 0 (s.size / 2) t w1 hcl.out hlt (by omega)
    by_cases he : Lib.Hx.encode t = s.data.toList
    · have h1 := enc_iff.2 he
      have hz := Lib.hid (hx_eq he)
      clear he
      go_wp2_with fail
      refine hc2.mono ?_; rintro e w2 ⟨rfl, b2⟩
      have HB2 := Lib.hid (HB1.out.trans (b2.mono HB1.out.size))
      have HO2 := HO.out.below b2
      have ht := text_of_bytes HO2
      rw [show byL t = t.map fun b => (b.toNat : Int) from rfl, nums_text] at ht
      clear HO2 b2 hc2
      go_wp2
      go_ret2
      exact HdAns.yes hz.out HB2.out
    · have h1 : (Lib.Hx.encode t == s.toList) = false := by simpa using fun h => he (enc_iff.1 h)
      have hz := Lib.hid (hx_neq HD.out he)
      clear he
      go_wp2_with fail
      refine hc2.mono ?_; rintro e w2 ⟨rfl, b2⟩
      have HB2 := Lib.hid (HB1.out.trans (b2.mono HB1.out.size))
      clear b2 hc2
      go_wp2
      go_ret2
      exact HdAns.no hz.out HB2.out
  | bad c =>
    have hz := Lib.hid (hx_bad HD.out (by simp))
    simp only [Lib.Hx.errVal] at hcon
    go_enter Tryd.func8, Tryd.ntmps8
    go_wp2_with fail
    refine hcon.mono ?_; rintro e w1 ⟨rfl, hrow, b1⟩
    have HB1 := Lib.hid b1
    clear hrow b1 hcon
    go_wp2
    go_ret2
    exact HdAns.no hz.out HB1.out
  | odd =>
    have hz := Lib.hid (hx_bad HD.out (by simp))
    simp only [Lib.Hx.errVal] at hcon
    go_enter Tryd.func8, Tryd.ntmps8
    go_wp2_with fail
    refine hcon.mono ?_; rintro e w1 ⟨rfl, hrow, b1⟩
    have HB1 := Lib.hid b1
    clear hrow b1 hcon
    go_wp2
    go_ret2
    exact HdAns.no hz.out HB1.out

set_option maxRecDepth 100000 in
set_option maxHeartbeats 400000 in
theorem law_FnExactDecodeHex (s : ByteArray) (w : World) (hs : s.size ≤ maxLen) (te : TypeId) (pe : Value) (hE : w.cell? ⟨0, 0, none⟩ = some (.iface te pe)) :
    Calls Tryd.prog 3 #[.string s] w fun e w' => e = .returned (.bool true) ∧ Below w.heap.size w w' := by
  unfold maxLen at hs
  have h0 : 0 < w.heap.size := World.block_lt_of_cell? w ⟨0, 0, none⟩ hE
  have HE := Lib.hid hE
  clear hE
  by_cases hbig : s.size ≤ 1048576
  · go_enter Tryd.func3, Tryd.ntmps3
    go_wp2_with fail
    refine (s_DecodeHex s _ hbig).mono ?_; rintro e w1 ⟨rfl, b1⟩
    have HE1 := (b1.cell (p := ⟨0, 0, none⟩) h0).trans HE.out
    have hc := i_DecodeHex s w1 hbig te pe HE1
    clear HE1
    go_wp2_with fail
    refine hc.mono ?_; rintro e w2 ⟨rfl, b2⟩
    go_wp2
    go_ret
    exact ⟨rfl, below_call b1 b2 b1.size⟩
  · go_enter Tryd.func3, Tryd.ntmps3
    go_wp2
    go_ret
    exact ⟨rfl, Below.refl _ _⟩

end Go.Proofs.YthempdleolefnaaDoor
