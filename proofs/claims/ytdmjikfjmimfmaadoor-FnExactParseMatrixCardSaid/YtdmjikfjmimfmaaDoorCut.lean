/- A slice of texts that the call owns; l6Cut of the reference: its walk. -/
import Derived.Test.YtdmjikfjmimfmaaDoorPqL
import Derived.Test.YtdmjikfjmimfmaaDoorQG
namespace Go.Proofs.YtdmjikfjmimfmaaDoor
open Go.RowKit
set_option linter.unusedVariables false
set_option linter.unusedSimpArgs false

theorem infoStr : (Tryd.prog.info? 9).map (fun i => (i.zero, i.size, i.bytes)) = some (some (.string ⟨#[]⟩), 1, 16) := by kernel_rfl
def strV (b : List UInt8) : Value := .string ⟨b.toArray⟩
/-- a slice of texts that the call owns -/
def OwnT (w : World) (B : Nat) (v : Value) (p : List (List UInt8)) : Prop := w.ownsRow B 9 1 v p.length (p.map strV)
theorem OwnT.made (w : World) {B : Nat} (hB : B ≤ w.heap.size) : OwnT (w.alloc (.cells #[] 9)) B (.slice (some ⟨w.heap.size, 0, none⟩) 0 0) [] :=
  World.ownsRow_lit (size := 1) (e := 9) (base := B) w #[] 0 hB (by decide) rfl
theorem OwnT.below {w w' : World} {B : Nat} {v : Value} {p : List (List UInt8)} (h : OwnT w B v p) (b : Below w.heap.size w w') : OwnT w' B v p := by
  refine ⟨h.1, ?_⟩
  rcases h.2 with h2 | ⟨g, cap, cur, rfl, h4, h5, h6⟩
  · exact .inl h2
  · exact .inr ⟨g, cap, cur, rfl, h4, by rw [b.block g (Array.getElem?_eq_some_iff.1 h5).1]; exact h5, h6⟩
theorem OwnT.at {w : World} {B : Nat} {a : Option Addr} {n c : Nat} {p : List (List UInt8)} (h : OwnT w B (.slice a n c) p) :
    n = p.length ∧ p.length ≤ c ∧ c ≤ 9223372036854775807 ∧ ∀ i, i < p.length → ∃ g, a = some ⟨g, 0, none⟩ ∧ g < w.heap.size ∧ B ≤ g ∧ w.cell? ⟨g, i, none⟩ = some (strV (p.getD i [])) := by
  rcases h.2 with ⟨e, h2⟩ | ⟨g, cap, cur, e, hb, hg, hnc, hcm, hcs, htake⟩
  · simp only [Value.slice.injEq] at e
    obtain ⟨rfl, rfl, rfl⟩ := e
    exact ⟨h2.symm, by omega, by omega, fun i hi => absurd hi (by omega)⟩
  · simp only [Value.slice.injEq] at e
    obtain ⟨rfl, rfl, rfl⟩ := e
    simp only [Nat.mul_one] at htake hcs
    refine ⟨rfl, hnc, by simpa [maxLen] using hcm, fun i hi => ⟨g, rfl, (Array.getElem?_eq_some_iff.1 hg).1, hb, ?_⟩⟩
    rw [cell_of_row w g i cur _ _ hg]
    have e : (cur.toList.take p.length)[i]? = (p.map strV)[i]? := by rw [htake]
    rw [List.getElem?_take_of_lt hi, Array.getElem?_toList, List.getElem?_map, List.getElem?_eq_getElem hi] at e
    rw [e, List.getD_eq_getElem?_getD, List.getElem?_eq_getElem hi]
    rfl
/-- append of one text -/
theorem app_str {ops : Array Oper} {rest : List Oper} {o : Oper} {a : Act} {Q : Exit → Act → World → Prop} (w0 w : World) (hgd : o.guard = none) (s x : Operand)
    (ho : o.op = .call { callee := .builtin .append, args := #[s, x], argTypes := #[63, 63] }) (B : Nat) (v : Value) (p : List (List UInt8)) (c : List UInt8)
    (hs : a.eval s = v) (hx : a.eval x = .slice (some ⟨w.heap.size, 0, none⟩) 1 1) (hown : OwnT w B v p) (hbel : Below B w0 w) (hB : B ≤ w.heap.size) (hl : p.length + 1 ≤ 1099511627776)
    (hK : ∀ v' w', OwnT w' B v' (p ++ [c]) → Below B w0 w' → wpList Tryd.prog ops Q rest (a.put o.dst v') w') :
    wpList Tryd.prog ops Q (o :: rest) a (w.alloc (.cells #[strV c] 9)) := by
  obtain ⟨i, hi, h0, h1, h2⟩ := info_parts infoStr
  refine wpList_append_own _ hgd s x 63 ho B 9 i (.string ⟨#[]⟩) 1 16 Tryd.underlying63 hi h0 h1 h2 rfl (by decide) v p.length (p.map strV) hs (World.ownsRow.alloc hown _)
    ⟨w.heap.size, 0, none⟩ 1 1 [strV c] hx rfl (news_cells w _ _) (by intro u hu; simp at hu; subst hu; rfl) (by unfold maxLen; omega) (by omega) (by simp; omega) ?_
  intro v' w' ho' hg _
  have hb : Below B w0 w' := (hbel.alloc hB _).grown hg (by simp; omega) (fun k hk => (World.ownsRow.lt hown k hk).1)
  refine hK v' w' ?_ hb
  unfold OwnT
  simpa using ho'
theorem ext_one (s : ByteArray) (k : Nat) (h : k < s.size) : s.extract k (k + 1) = ⟨#[s[k]]⟩ := by
  have h1 : (s.extract k (k + 1)).data = s.data.extract k (k + 1) := ByteArray.data_extract
  have h2 : s.data.extract k (k + 1) = #[s[k]] := by
    have hk : k < s.data.size := h
    apply Array.ext
    · simp; omega
    · intro i h3 h4
      simp at h4; subst h4
      simp; rfl
  rw [h2] at h1
  cases he : s.extract k (k + 1) with
  | mk d => rw [he] at h1; simp at h1; rw [h1]
theorem app_one (P : List UInt8) (x : UInt8) : (⟨P.toArray⟩ : ByteArray) ++ ⟨#[x]⟩ = ⟨(P ++ [x]).toArray⟩ := by
  have := ByteArray.mk_append_mk P [x]
  simpa using this
set_option maxRecDepth 100000 in
set_option maxHeartbeats 400000 in
theorem s_l6Cut (s : ByteArray) (w : World) (hs : s.size ≤ 1048576) :
    Calls Tryd.prog 48 #[.string s, .int .u8 32] w (fun e w' => ∃ v, e = .returned v ∧ OwnT w' w.heap.size v (cutL s.data.toList) ∧ Below w.heap.size w w') := by
  have hm := OwnT.made w (Nat.le_refl _)
  have hb0 : Below w.heap.size w (w.alloc (.cells #[] 9)) := (Below.refl _ w).alloc (Nat.le_refl _) _
  have H0 := Lib.hid (And.intro hm hb0)
  clear hm hb0
  go_enter Tryd.func48, Tryd.ntmps48
  go_wp2
  go_loopw [5, 6, 7] (fun sv pv iv wr => ∃ (k : Nat) (P : List UInt8), iv = .int .i64 k ∧ k ≤ s.size ∧ pv = strV P ∧ P.length ≤ k ∧ Hid (OwnT wr w.heap.size sv (cutF (s.data.toList.take k)).1 ∧ (cutF (s.data.toList.take k)).2 = P ∧ (cutF (s.data.toList.take k)).1.length ≤ k ∧ Below w.heap.size w wr)) (fun _ _ iv _ => s.size - (intOf iv).toNat)
  case atStart => exact ⟨0, [], rfl, by omega, rfl, by simp, H0.out.1, rfl, by simp [cutF], H0.out.2⟩
  case round =>
    obtain ⟨k, P, rfl, hk, rfl, hP, HR⟩ := hrel
    by_cases hlt : k < s.size
    · have hlen : s.data.toList.length = s.size := rfl
      have hst := cutF_succ (b := s.data.toList) (k := k) (by omega)
      have hgt : s.data.toList[k]'(by omega) = s[k] := rfl
      rw [hgt] at hst
      unfold cutStep at hst
      by_cases hsp : s[k] = 32
      · rw [if_pos hsp] at hst
        have hn : (s[k].toNat : Int) = 32 := by rw [hsp]; rfl
        have HST := Lib.hid hst
        have hc := HR.out.2.2.1
        clear hst hsp hgt hlen
        unfold strV
        go_wp2_with (at_builtin; refine app_str w wr rfl (.tmp 20) (.tmp 22) rfl w.heap.size _ _ P rfl rfl HR.out.1 HR.out.2.2.2 HR.out.2.2.2.size (by omega) ?_)
        intro v' w' hv' hb'
        have HR2 : Hid (OwnT w' w.heap.size v' (cutF (s.data.toList.take (k + 1))).1 ∧ (cutF (s.data.toList.take (k + 1))).2 = [] ∧ (cutF (s.data.toList.take (k + 1))).1.length ≤ k + 1 ∧ Below w.heap.size w w') := by
          rw [HST.out]
          refine ⟨?_, rfl, by simp; omega, hb'⟩
          simp only [HR.out.2.1]; exact hv'
        clear hv' hb' hc
        go_wp2
        go_roundw
        case rel => exact ⟨k + 1, [], by go_num, by omega, rfl, by simp, HR2⟩
        case measure => simp [intOf]; omega
      · rw [if_neg hsp] at hst
        have hn : (s[k].toNat : Int) ≠ 32 := fun e => hsp (by rw [← UInt8.toNat_inj]; show s[k].toNat = 32; omega)
        have HR2 : Hid (∀ sv, OwnT wr w.heap.size sv (cutF (s.data.toList.take k)).1 → OwnT wr w.heap.size sv (cutF (s.data.toList.take (k + 1))).1 ∧ (cutF (s.data.toList.take (k + 1))).2 = P ++ [s[k]] ∧ (cutF (s.data.toList.take (k + 1))).1.length ≤ k + 1 ∧ Below w.heap.size w wr) := by
          intro sv hsv
          rw [hst]
          have := HR.out.2.2.1
          exact ⟨hsv, by simp only [HR.out.2.1], by simp only; omega, HR.out.2.2.2⟩
        have HEX := Lib.hid (ext_one s k hlt)
        clear hsp hst hgt hlen
        unfold strV
        go_wp2
        go_roundw
        case rel => exact ⟨k + 1, P ++ [s[k]], by go_num, by omega, by rw [HEX.out, app_one], by simp; omega, HR2.out _ HR.out.1⟩
        case measure => simp [intOf]; omega
    · have hks : k = s.size := by omega
      have hlen : s.data.toList.length = s.size := rfl
      have htk : s.data.toList.take k = s.data.toList := List.take_of_length_le (by omega)
      have HTK := Lib.hid htk
      have hc := HR.out.2.2.1
      clear htk hlen hks
      unfold strV
      go_wp2_with (at_builtin; refine app_str w wr rfl (.tmp 31) (.tmp 33) rfl w.heap.size _ _ P rfl rfl HR.out.1 HR.out.2.2.2 HR.out.2.2.2.size (by omega) ?_)
      intro v' w' hv' hb'
      have HR2 : Hid (OwnT w' w.heap.size v' (cutL s.data.toList) ∧ Below w.heap.size w w') := by
        have e : cutL s.data.toList = (cutF (s.data.toList.take k)).1 ++ [P] := by unfold cutL; rw [HTK.out, ← HR.out.2.1, HTK.out]
        rw [e]; exact ⟨hv', hb'⟩
      clear hv' hb' hc
      go_wp2
      go_ret
      exact ⟨_, rfl, HR2.out.1, HR2.out.2⟩
end Go.Proofs.YtdmjikfjmimfmaaDoor
