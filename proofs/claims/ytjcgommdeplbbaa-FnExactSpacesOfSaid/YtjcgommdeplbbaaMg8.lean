/- SpacesOf, of the reference: l5Fine. SpacesOf, of the reference: IsSpace. A slice of spaces (a size and a slice of rows) that the call owns: reading, append of one. -/
import Derived.Test.YtjcgommdeplbbaaSpCL
import Derived.Test.YtjcgommdeplbbaaMg3
import Derived.Maps.AppendAt
namespace Go.Proofs.Ytjcgommdeplbbaa
open Go.RowKit
set_option linter.unusedVariables false
set_option linter.unusedSimpArgs false

set_option maxRecDepth 100000 in
set_option maxHeartbeats 4000000 in
theorem s_l5Fine (p : Int) (N : Nat) (v : Value) (B : List (List Int)) (w : World) (hp : isF p = true) (hN8 : N ≤ 8) (hB8 : B.length ≤ 16) (hv : IntsS w v B) (hB : ∀ i, i < B.length → (B.getD i []).length = N ∧ isV p (B.getD i []) = true) :
    Calls Try.prog 38 #[.int .i64 p, .int .i64 N, v] w (BoolAns true w) := by
  obtain ⟨a, cap, rfl, hlc, hcm⟩ := hv.shape
  have HV := Lib.hid hv; have HB := Lib.hid hB; have hF := Lib.hid hp
  have hin : inR (N : Int) 0 8 = true := inR_mk (by omega) (by omega)
  clear hv hB hp
  go_enter Try.func38, Try.ntmps38
  go_wp2
  go_loop [7] (fun iv => ∃ k : Nat, iv = .int .i64 k ∧ k ≤ B.length) (fun iv => B.length - (intOf iv).toNat)
  case atStart => exact ⟨0, rfl, by omega⟩
  case round =>
    obtain ⟨k, rfl, hk⟩ := hrel
    by_cases hlt : k < B.length
    · obtain ⟨g, off, u, rfl, hgs, hc, hu⟩ := HV.out.cell hlt
      obtain ⟨hl, hi⟩ := HB.out k hlt
      have hk0 : (0 : Int) ≤ (k : Int) := by omega
      have hk1 : (k : Int) < (B.length : Int) := by omega
      generalize B.getD k [] = l at hu hl hi
      obtain ⟨au, cu, rfl, _, _⟩ := hu.shape
      have hne : ((l.length : Int) != (N : Int)) = false := by simp; omega
      have HU := Lib.hid hu
      have HI := Lib.hid hi
      clear hu hl hi
      go_wp2_with fail
      refine (s_IsVector p _ l _ HU.out).mono ?_; rintro e w1 ⟨rfl, rfl⟩
      rw [HI.out]
      go_wp2
      go_round
      case rel => exact ⟨k + 1, by go_num, by omega⟩
      case measure => simp [intOf]; omega
    · have hd : decide ((B.length : Int) ≤ 16) = true := by simp; omega
      go_wp2_with fail
      refine (s_IsField p _).mono ?_; rintro e w1 ⟨rfl, rfl⟩
      rw [hF.out]
      go_wp2_with fail
      refine (s_l1In _ _ _ _).mono ?_; rintro e w1 ⟨rfl, rfl⟩
      rw [hin]
      go_wp2
      go_ret
      exact ⟨rfl, rfl⟩
end Go.Proofs.Ytjcgommdeplbbaa

namespace Go.Proofs.Ytjcgommdeplbbaa
open Go.RowKit
set_option linter.unusedVariables false
set_option linter.unusedSimpArgs false

set_option maxRecDepth 100000 in
set_option maxHeartbeats 4000000 in
theorem s_IsSpace (p : Int) (N : Nat) (v : Value) (B : List (List Int)) (w : World) (hp : isF p = true) (hN8 : N ≤ 8) (hN0 : 0 < N) (hB8 : B.length ≤ 8) (hv : IntsS w v B) (hB : ∀ i, i < B.length → (B.getD i []).length = N ∧ isV p (B.getD i []) = true) :
    Calls Try.prog 21 #[.int .i64 p, .agg #[.int .i64 N, v]] w (BoolAnsB (rrB B) w) := by
  obtain ⟨a, cap, rfl, hlc, hcm⟩ := hv.shape
  have hb0 : Below w.heap.size w (w.alloc (.cells #[.int .i64 N, .slice a B.length cap] 33)) := (Below.refl _ w).alloc (Nat.le_refl _) _
  have P00 := Blk.new w #[.int .i64 N, .slice a B.length cap] 33
  have HV0 := hv.below hb0
  have hcon := s_l5Fine p N _ B _ hp hN8 (by omega) HV0 hB
  have HB0 := Lib.hid hb0
  have hF := Lib.hid hp
  have HBL := Lib.hid (show ∀ b ∈ B, b.length = N from fun b hb => by
    obtain ⟨i, hi, rfl⟩ := List.mem_iff_getElem.1 hb
    have := (hB i hi).1
    simpa [List.getD, hi] using this)
  have HLN := Lib.hid (show ∀ i, i < B.length → (B.getD i []).length ≤ 64 from fun i hi => by have := (hB i hi).1; omega)
  have HFM := Lib.hid (flat_mat HBL.out)
  have HRG := Lib.hid (show ∀ r c, r < B.length → c < N → 0 ≤ fnB B r c ∧ fnB B r c < p from fun r c hr hc => by
    obtain ⟨h1, h2⟩ := hB r hr
    have := isV_elem2 h2 (j := c) (by omega)
    exact this)
  obtain ⟨W, hW⟩ : ∃ W, W = w.alloc (.cells #[.int .i64 N, .slice a B.length cap] 33) := ⟨_, rfl⟩
  rw [← hW] at P00 HV0 hcon HB0
  have P0 := Lib.hid P00; have HV := Lib.hid HV0
  have HWE := Lib.hid hW
  clear hv hb0 hB hp HV0 P00 hW
  go_enter Try.func21, Try.ntmps21
  go_upto_region 1 with fail
  rw [← HWE.out]
  obtain ⟨p0, p1⟩ := blk2 P0.out
  go_wp2_with fail
  refine hcon.mono ?_; rintro e wz ⟨rfl, rfl⟩
  go_upto_region 3 with fail
  refine wp_region_noPanic ?_
  refine wp_region_held_drew (S := (fun w' => (w'.cell? ⟨w.heap.size, 0, none⟩ = some (.int .i64 N) ∧ w'.cell? ⟨w.heap.size, 1, none⟩ = some (.slice a B.length cap)) ∧ Below W.heap.size W w')) (by kernel_rfl) (⟨blk2 (P0.out.below (Below.refl _ _).drew), (Below.refl _ _).drew⟩) (fun hHeld => ?_)
  refine wpAnyH_take (i := 0) (v := ?_) rfl (by kernel_rfl) (by kernel_rfl) (by kernel_rfl) (fun _ _ _ h => h) (Or.inl ⟨by rfl, ?_⟩) hHeld ?_
  rotate_left
  focus ((intro w hSw; (try dsimp only at hSw); go_simp); (try with_reducible rfl))
  (try simp only [List.getElem_toArray, List.getElem_cons_succ, List.getElem_cons_zero, Act.put, List.setIfInBounds_toArray, List.set_cons_zero, List.set_cons_succ])
  refine wpAnyH_take (i := 1) (v := ?_) rfl (by kernel_rfl) (by kernel_rfl) (by kernel_rfl) (fun _ _ _ h => h) (Or.inl ⟨by rfl, ?_⟩) hHeld ?_
  rotate_left
  focus ((intro w hSw; (try dsimp only at hSw); go_simp); (try with_reducible rfl))
  (try simp only [List.getElem_toArray, List.getElem_cons_succ, List.getElem_cons_zero, Act.put, List.setIfInBounds_toArray, List.set_cons_zero, List.set_cons_succ])
  refine wpAnyH_take (i := 2) (v := ?_) rfl (by kernel_rfl) (by kernel_rfl) (by kernel_rfl) (fun _ _ _ h => h) (Or.inl ⟨by rfl, ?_⟩) hHeld ?_
  rotate_left
  focus ((intro w hSw; (try dsimp only at hSw); go_simp); (try with_reducible rfl))
  (try simp only [List.getElem_toArray, List.getElem_cons_succ, List.getElem_cons_zero, Act.put, List.setIfInBounds_toArray, List.set_cons_zero, List.set_cons_succ])
  refine wpAnyH_take (i := 3) (v := ?_) rfl (by kernel_rfl) (by kernel_rfl) (by kernel_rfl) (fun _ _ _ h => h) (Or.inl ⟨by rfl, ?_⟩) hHeld ?_
  rotate_left
  focus ((intro w hSw; (try dsimp only at hSw); go_simp); (try with_reducible rfl))
  (try simp only [List.getElem_toArray, List.getElem_cons_succ, List.getElem_cons_zero, Act.put, List.setIfInBounds_toArray, List.set_cons_zero, List.set_cons_succ])
  refine wpAnyH_take (i := 4) (v := ?_) rfl (by kernel_rfl) (by kernel_rfl) (by kernel_rfl) (fun _ _ _ h => h) (Or.inl ⟨by rfl, ?_⟩) hHeld ?_
  rotate_left
  focus ((intro w hSw; (try dsimp only at hSw); go_simp); (try with_reducible rfl))
  (try simp only [List.getElem_toArray, List.getElem_cons_succ, List.getElem_cons_zero, Act.put, List.setIfInBounds_toArray, List.set_cons_zero, List.set_cons_succ])
  refine wpAnyH_take (i := 7) (v := ?_) rfl (by kernel_rfl) (by kernel_rfl) (by kernel_rfl) (fun _ _ _ h => h) (Or.inl ⟨by rfl, ?_⟩) hHeld ?_
  rotate_left
  focus ((intro w hSw; (try dsimp only at hSw); go_simp); (try with_reducible rfl))
  (try simp only [List.getElem_toArray, List.getElem_cons_succ, List.getElem_cons_zero, Act.put, List.setIfInBounds_toArray, List.set_cons_zero, List.set_cons_succ])
  refine wpAnyH_take (i := 8) (v := ?_) rfl (by kernel_rfl) (by kernel_rfl) (by kernel_rfl) (fun _ _ _ h => h) (Or.inl ⟨by rfl, ?_⟩) hHeld ?_
  rotate_left
  focus ((intro w hSw; (try dsimp only at hSw); go_simp); (try with_reducible rfl))
  (try simp only [List.getElem_toArray, List.getElem_cons_succ, List.getElem_cons_zero, Act.put, List.setIfInBounds_toArray, List.set_cons_zero, List.set_cons_succ])
  refine wpAnyH_ready (rs := [5]) (by kernel_rfl) (by simp) ?_
  refine AllReadyH.cons rfl (fun K hK => ?_) AllReadyH.nil
  go_simp
  (refine (s_l5Rows N _ B _ (HV.out.below hHeld.2) HLN.out (by omega)).mono ?_; rintro e w7 ⟨c, rfl, hc, b7⟩; rw [HFM.out] at hc; have HC := Lib.hid hc; clear hc)
  (try (go_wp2_with fail))
  refine hK.out _ _ (⟨blk2 (P0.out.below (Below.trans hHeld.2 (Below.mono ‹Below _ _ _› hHeld.2.size))), Below.trans hHeld.2 (Below.mono ‹Below _ _ _› hHeld.2.size)⟩) (fun hNew => ?_)
  clear hK K hHeld
  have hHeld := hNew
  clear hNew
  (try simp only [List.getElem_toArray, List.getElem_cons_succ, List.getElem_cons_zero, Act.put, List.setIfInBounds_toArray, List.set_cons_zero, List.set_cons_succ])
  refine wpAnyH_ready (rs := [6]) (by kernel_rfl) (by simp) ?_
  refine AllReadyH.cons rfl (fun K hK => ?_) AllReadyH.nil
  go_simp
  (refine (s_l5Basis p B.length N (fnB B) _ _ hF.out hB8 hN8 hN0 HC.out HRG.out).mono ?_; rintro e w8 ⟨f, Ln, row, col, u, rfl, hu, b8, hRF, hex, hst⟩; have HU := Lib.hid hu; have HX := Lib.hid (bas_eq HBL.out hRF hex hst); clear hu)
  (try (go_wp2_with fail))
  refine hK.out _ _ (⟨blk2 (P0.out.below (Below.trans hHeld.2 (Below.mono ‹Below _ _ _› hHeld.2.size))), Below.trans hHeld.2 (Below.mono ‹Below _ _ _› hHeld.2.size)⟩) (fun hNew => ?_)
  clear hK K hHeld
  have hHeld := hNew
  clear hNew
  (try simp only [List.getElem_toArray, List.getElem_cons_succ, List.getElem_cons_zero, Act.put, List.setIfInBounds_toArray, List.set_cons_zero, List.set_cons_succ])
  refine wpAnyH_ready (rs := [9]) (by kernel_rfl) (by simp) ?_
  refine AllReadyH.cons rfl (fun K hK => ?_) AllReadyH.nil
  go_simp
  (refine (s_l5Same _ _ _ B _ (HU.out.rws.mono (Nat.zero_le _)) (HV.out.below hHeld.2)).mono ?_; rintro e w9 ⟨rfl, b9⟩; rw [HX.out])
  (try (go_wp2_with fail))
  refine hK.out _ _ (⟨blk2 (P0.out.below (Below.trans hHeld.2 (Below.mono ‹Below _ _ _› hHeld.2.size))), Below.trans hHeld.2 (Below.mono ‹Below _ _ _› hHeld.2.size)⟩) (fun hNew => ?_)
  clear hK K hHeld
  have hHeld := hNew
  clear hNew
  (try simp only [List.getElem_toArray, List.getElem_cons_succ, List.getElem_cons_zero, Act.put, List.setIfInBounds_toArray, List.set_cons_zero, List.set_cons_succ])
  refine wpAnyH_take (i := 10) (v := ?_) rfl (by kernel_rfl) (by kernel_rfl) (by kernel_rfl) (fun _ _ _ h => h) (Or.inl ⟨by rfl, ?_⟩) hHeld ?_
  rotate_left
  focus ((intro w hSw; (try dsimp only at hSw); go_simp); (try with_reducible rfl))
  (try simp only [List.getElem_toArray, List.getElem_cons_succ, List.getElem_cons_zero, Act.put, List.setIfInBounds_toArray, List.set_cons_zero, List.set_cons_succ])
  refine wpAnyH_done (by kernel_rfl) ?_ _
  refine NoPanic.normal ?_
  have HX := Lib.hid (show BoolAnsB (rrB B) w (.returned (.bool (rrB B))) w9 from ⟨rfl, HB0.out.trans (hHeld.2.mono HB0.out.size)⟩)
  clear hHeld
  go_wp2
  go_ret
  exact HX.out
end Go.Proofs.Ytjcgommdeplbbaa

namespace Go.Proofs.Ytjcgommdeplbbaa
open Go.RowKit
set_option linter.unusedVariables false
set_option linter.unusedSimpArgs false

abbrev Sp := Int × List (List Int)
theorem infoSpace : (Try.prog.info? 33).map (fun i => (i.zero, i.size, i.bytes)) = some (some (.agg #[.int .i64 0, .slice none 0 0]), 2, 32) := by kernel_rfl
def flatS : List Value → List Sp → List Value
  | u :: us, p :: L => .int .i64 p.1 :: u :: flatS us L
  | _, _ => []
def arS (B : Nat) (w : World) : List Value → List Sp → Prop
  | [], [] => True
  | u :: us, p :: L => Rws B w u p.2 ∧ arS B w us L
  | _, _ => False
theorem arS.len {B : Nat} {w : World} : ∀ {us : List Value} {L : List Sp}, arS B w us L → us.length = L.length
  | [], [], _ => rfl
  | _ :: _, _ :: _, h => by simp [arS.len h.2]
  | [], _ :: _, h => h.elim
  | _ :: _, [], h => h.elim
theorem arS.keep {B : Nat} {w w' : World} (hk : ∀ v l, Rws B w v l → Rws B w' v l) : ∀ {us : List Value} {L : List Sp}, arS B w us L → arS B w' us L
  | [], [], _ => trivial
  | _ :: _, _ :: _, h => ⟨hk _ _ h.1, arS.keep hk h.2⟩
  | [], _ :: _, h => h.elim
  | _ :: _, [], h => h.elim
theorem arS.mono {B B' : Nat} {w : World} (hB : B' ≤ B) : ∀ {us : List Value} {L : List Sp}, arS B w us L → arS B' w us L
  | [], [], _ => trivial
  | _ :: _, _ :: _, h => ⟨h.1.mono hB, arS.mono hB h.2⟩
  | [], _ :: _, h => h.elim
  | _ :: _, [], h => h.elim
theorem arS.app {B : Nat} {w : World} {us2 : List Value} {L2 : List Sp} (h2 : arS B w us2 L2) : ∀ {us : List Value} {L : List Sp}, arS B w us L → arS B w (us ++ us2) (L ++ L2)
  | [], [], _ => h2
  | _ :: _, _ :: _, h => ⟨h.1, arS.app h2 h.2⟩
  | [], _ :: _, h => h.elim
  | _ :: _, [], h => h.elim
theorem flatS_app {us2 : List Value} {L2 : List Sp} : ∀ {us : List Value} {L : List Sp}, us.length = L.length → flatS (us ++ us2) (L ++ L2) = flatS us L ++ flatS us2 L2
  | [], [], _ => rfl
  | u :: us, p :: L, h => by
    have := flatS_app (us2 := us2) (L2 := L2) (us := us) (L := L) (by simpa using h)
    simp [flatS, this]
  | [], _ :: _, h => by simp at h
  | _ :: _, [], h => by simp at h
theorem flatS_len : ∀ {us : List Value} {L : List Sp}, us.length = L.length → (flatS us L).length = L.length * 2
  | [], [], _ => rfl
  | u :: us, p :: L, h => by
    have := flatS_len (us := us) (L := L) (by simpa using h)
    simp [flatS, this]; omega
  | [], _ :: _, h => by simp at h
  | _ :: _, [], h => by simp at h
theorem arS.get {B : Nat} {w : World} : ∀ {us : List Value} {L : List Sp}, arS B w us L → ∀ i, i < L.length → ∃ u, (flatS us L)[i * 2]? = some (.int .i64 (L.getD i (0, [])).1) ∧ (flatS us L)[i * 2 + 1]? = some u ∧ Rws B w u (L.getD i (0, [])).2
  | [], [], _, i, hi => by simp at hi
  | u :: _, p :: _, h, 0, _ => ⟨u, rfl, rfl, h.1⟩
  | _ :: _, _ :: L, h, i + 1, hi => by
    obtain ⟨v, e1, e2, h1⟩ := arS.get h.2 i (by simpa using hi)
    refine ⟨v, ?_, ?_, by simpa [List.getD] using h1⟩
    · rw [show (i + 1) * 2 = i * 2 + 1 + 1 by omega]; simpa [flatS, List.getD] using e1
    · rw [show (i + 1) * 2 + 1 = i * 2 + 1 + 1 + 1 by omega]; simpa [flatS] using e2
  | [], _ :: _, h, _, _ => h.elim
  | _ :: _, [], h, _, _ => h.elim
theorem flatS_one : ∀ {B : Nat} {w : World} {us : List Value} {L : List Sp}, arS B w us L → ∀ x ∈ flatS us L, x.oneCell' = true
  | _, _, [], [], _ => by simp [flatS]
  | _, _, u :: us, p :: L, h => by
    intro x hx
    simp only [flatS, List.mem_cons] at hx
    rcases hx with rfl | rfl | hx
    · rfl
    · obtain ⟨a, c, rfl, _⟩ := h.1.shape; rfl
    · exact flatS_one h.2 x hx
  | _, _, [], _ :: _, h => h.elim
  | _, _, _ :: _, [], h => h.elim
/-- a slice of spaces that the call owns; all of it lies from B on -/
def OwnS (w : World) (B : Nat) (v : Value) (L : List Sp) : Prop := ∃ us, w.ownsRow B 33 2 v L.length (flatS us L) ∧ arS B w us L
theorem OwnS.nil (w : World) (B : Nat) : OwnS w B (.slice none 0 0) [] := ⟨[], World.ownsRow_nil w B _ 2, trivial⟩
theorem OwnS.made (w : World) {B : Nat} (hB : B ≤ w.heap.size) : OwnS (w.alloc (.cells #[] 33)) B (.slice (some ⟨w.heap.size, 0, none⟩) 0 0) [] :=
  ⟨[], World.ownsRow_made w #[] 0 hB (by decide) rfl, trivial⟩
theorem OwnS.below {w w' : World} {B : Nat} {v : Value} {L : List Sp} (h : OwnS w B v L) (b : Below w.heap.size w w') : OwnS w' B v L := by
  obtain ⟨us, h1, h2⟩ := h
  refine ⟨us, World.ownsRow.kept h1 (row := none) ⟨b.os, b.tape, b.output, b.size, fun i hi _ => b.block i hi⟩ ?_, h2.keep fun _ _ hv => hv.below b⟩
  cases v.ownBlock <;> simp
theorem OwnS.shape {w : World} {B : Nat} {v : Value} {L : List Sp} (h : OwnS w B v L) : ∃ a c, v = .slice a L.length c ∧ L.length ≤ c ∧ c ≤ 9223372036854775807 := by
  obtain ⟨us, ⟨_, h2⟩, _⟩ := h
  rcases h2 with ⟨rfl, h0⟩ | ⟨g, cap, cur, rfl, _, _, hnc, hcm, _⟩
  · exact ⟨none, 0, by rw [h0], by omega, by omega⟩
  · exact ⟨_, cap, rfl, hnc, by simpa [maxLen] using hcm⟩
theorem OwnS.cell {w : World} {B : Nat} {a : Option Addr} {n c : Nat} {L : List Sp} (h : OwnS w B (.slice a n c) L) {i : Nat} (hi : i < L.length) :
    ∃ g u, a = some ⟨g, 0, none⟩ ∧ B ≤ g ∧ g < w.heap.size ∧ w.cell? ⟨g, i * 2, none⟩ = some (.int .i64 (L.getD i (0, [])).1) ∧ w.cell? ⟨g, i * 2 + 1, none⟩ = some u ∧ Rws B w u (L.getD i (0, [])).2 := by
  obtain ⟨us, ⟨hl, h2⟩, hr⟩ := h
  rcases h2 with ⟨_, h0⟩ | ⟨g, cap, cur, e, hb, hg, hnc, hcm, hcs, htake⟩
  · omega
  · simp only [Value.slice.injEq] at e
    obtain ⟨rfl, rfl, rfl⟩ := e
    obtain ⟨u, e1, e2, h1⟩ := hr.get i hi
    refine ⟨g, u, rfl, hb, (Array.getElem?_eq_some_iff.1 hg).1, ?_, ?_, h1⟩
    · rw [cell_of_row w g _ cur _ _ hg, ← e1, ← htake, List.getElem?_take_of_lt (by omega), Array.getElem?_toList]
    · rw [cell_of_row w g _ cur _ _ hg, ← e2, ← htake, List.getElem?_take_of_lt (by omega), Array.getElem?_toList]
theorem OwnS.mono {w : World} {B B' : Nat} {v : Value} {L : List Sp} (h : OwnS w B v L) (hB : B' ≤ B) : OwnS w B' v L := by
  obtain ⟨us, ⟨h1, h2⟩, h3⟩ := h
  refine ⟨us, ⟨h1, ?_⟩, h3.mono hB⟩
  rcases h2 with h2 | ⟨g, cap, cur, e, hb, r⟩
  · exact .inl h2
  · exact .inr ⟨g, cap, cur, e, Nat.le_trans hB hb, r⟩
theorem OwnS.ownLt {w : World} {B : Nat} {v : Value} {L : List Sp} (h : OwnS w B v L) : ∀ g, v.ownBlock = some g → B ≤ g ∧ g < w.heap.size := by
  obtain ⟨us, h1, _⟩ := h
  exact World.ownsRow.lt h1
/-- a slice of rows stays as it is where blocks of other types change -/
theorem Rws.keepB {B : Nat} {w w' : World} {v : Value} {ll : List (List Int)} (h : Rws B w v ll) (hk : ∀ (k : Nat) (cur : Array Value) (T : TypeId), w.heap[k]? = some (Obj.cells cur T (0, 0)) → (T = 3 ∨ T = 37) → w'.heap[k]? = w.heap[k]?) : Rws B w' v ll := by
  obtain ⟨a, cap, rfl, h1, h2, rfl | ⟨g, off, cur, rfl, hB, hg, hs, hr⟩⟩ := h
  · exact ⟨_, cap, rfl, h1, h2, .inl rfl⟩
  · refine ⟨_, cap, rfl, h1, h2, .inr ⟨g, off, cur, rfl, hB, by rw [hk g cur _ hg (.inr rfl)]; exact hg, hs, hr.keep fun u l hu _ => hu.keep fun k hku => ?_⟩⟩
    obtain ⟨a', cap', rfl, _, _, rfl | ⟨g2, off2, cur2, rfl, hg2, _, _⟩⟩ := hu
    · cases a' <;> simp [blk] at hku
    · have hgk : g2 = k := by
        cases l with
        | nil => simp [blk] at hku
        | cons y l => simpa [blk] using hku
      subst hgk
      exact hk g2 cur2 _ hg2 (.inl rfl)
/-- a slice of rows lies in no row of spaces -/
theorem Rws.grownS {B B2 : Nat} {w w' : World} {v : Value} {n : Nat} {xs : List Value} {u : Value} {ll : List (List Int)} (h : Rws B2 w u ll) (ho : w.ownsRow B 33 2 v n xs) (hg : w.grownBy w' v.ownBlock) : Rws B2 w' u ll :=
  h.keepB fun k cur T hk hT => hg.block k (Array.getElem?_eq_some_iff.1 hk).1 (fun e => by
    rcases ho.2 with ⟨rfl, _⟩ | ⟨g, cap, cur', rfl, _, hh, _⟩
    · simp [Value.ownBlock] at e
    · have : k = g := by simpa [Value.ownBlock] using e
      subst this
      rw [hk] at hh
      rcases hT with rfl | rfl <;> simp at hh)
/-- append of one space, laid into a block of its own -/
theorem app_sp {ops : Array Oper} {rest : List Oper} {o : Oper} {a : Act} {Q : Exit → Act → World → Prop} (w : World) (hgd : o.guard = none) (s x : Operand)
    (ho : o.op = .call { callee := .builtin .append, args := #[s, x], argTypes := #[22, 22] }) (B : Nat) (v : Value) (L : List Sp) (st : Int) (u : Value) (ll : List (List Int))
    (hs : a.eval s = v) (hx : a.eval x = .slice (some ⟨w.heap.size, 0, none⟩) 1 1) (hown : OwnS w B v L) (hu : Rws B w u ll) (hB : B ≤ w.heap.size) (hl : L.length + 1 ≤ 1099511627776)
    (hK : ∀ v' w', OwnS w' B v' (L ++ [(st, ll)]) → (w.alloc (.cells #[.int .i64 st, u] 33)).grownBy w' v.ownBlock → (v'.ownBlock = v.ownBlock ∨ v'.ownBlock = some (w.heap.size + 1)) → wpList Try.prog ops Q rest (a.put o.dst v') w') :
    wpList Try.prog ops Q (o :: rest) a (w.alloc (.cells #[.int .i64 st, u] 33)) := by
  obtain ⟨i, hi, h0, h1, h2⟩ := info_parts infoSpace
  obtain ⟨us, hu1, hu2⟩ := hown
  have hal : Below w.heap.size w (w.alloc (.cells #[.int .i64 st, u] 33)) := (Below.refl _ w).alloc (Nat.le_refl _) _
  have hown2 := World.ownsRow.alloc hu1 (.cells #[.int .i64 st, u] 33)
  have hone : u.oneCell' = true := by obtain ⟨b, c, rfl, _⟩ := hu.shape; rfl
  refine wpList_append_own_at _ hgd s x 22 ho B 33 i (.agg #[.int .i64 0, .slice none 0 0]) 2 32 Try.underlying22 hi h0 h1 h2 rfl (by decide) v L.length (flatS us L) hs hown2
    ⟨w.heap.size, 0, none⟩ 1 1 [.int .i64 st, u] hx (by simp) (news_cells w _ [.int .i64 st, u]) (by simp [hone]; rfl) (by unfold maxLen; omega) (by omega) (by simp; omega) ?_
  intro v' w' ho' hg' _ hloc
  refine hK v' w' ⟨us ++ [u], ?_, ?_⟩ hg' (by simpa using hloc)
  · rw [flatS_app hu2.len, List.length_append]; exact ho'
  · have hkeep : ∀ u l, Rws B (w.alloc (.cells #[.int .i64 st, u] 33)) u l → True := fun _ _ _ => trivial
    exact arS.app (us2 := [u]) (L2 := [(st, ll)]) ⟨(hu.below hal).grownS hown2 hg', trivial⟩ (hu2.keep fun _ _ h => (h.below hal).grownS hown2 hg')
end Go.Proofs.Ytjcgommdeplbbaa
