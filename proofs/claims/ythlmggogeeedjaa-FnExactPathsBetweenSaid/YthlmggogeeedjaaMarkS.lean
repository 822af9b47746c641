/- The laws' marks on slices of paths: laid. -/
import Derived.Test.YthlmggogeeedjaaMarkP
namespace Go.Proofs.Ythlmggogeeedjaa
open Go.RowKit
set_option linter.unusedVariables false
set_option linter.unusedSimpArgs false

theorem flatP_set1 {st : Int} {ar : List Int} : ∀ {us : List Value} {L : List Pt} {i : Nat}, us.length = L.length → i < L.length → flatP us (L.set i (st, ar)) = (flatP us L).set (i * 2) (.int .i64 st)
  | u :: us, p :: L, 0, _, _ => by simp [flatP]
  | u :: us, p :: L, i + 1, h, hi => by
    have h2 := flatP_set1 (st := st) (ar := ar) (us := us) (L := L) (i := i) (by simpa using h) (by simpa using hi)
    rw [show (i + 1) * 2 = i * 2 + 1 + 1 by omega]
    simp [flatP, h2]
  | [], [], _, _, hi => by simp at hi
  | [], _ :: _, _, h, _ => by simp at h
  | _ :: _, [], _, h, _ => by simp at h
theorem arP_at {B : Nat} {w : World} : ∀ {us : List Value} {L : List Pt} {j : Nat}, arP B w us L → j < L.length → ∃ u, us[j]? = some u ∧ Ints w u (L.getD j (0, [])).2 ∧ FreshV B u
  | u :: _, _ :: _, 0, h, _ => ⟨u, rfl, h.1, h.2.1⟩
  | _ :: _, _ :: L, j + 1, h, hj => by
    obtain ⟨u, h1, h2, h3⟩ := arP_at h.2.2 (j := j) (by simpa using hj)
    exact ⟨u, by simpa using h1, by simpa [List.getD] using h2, h3⟩
  | [], [], _, _, hj => by simp at hj
  | [], _ :: _, _, h, _ => h.elim
  | _ :: _, [], _, h, _ => h.elim
theorem arP_mark {B : Nat} {w w' : World} {u : Value} {x : Int} {l' : List Int} (hk : ∀ v l, Ints w v l → FreshV B v → (∀ q, blk v = some q → blk u ≠ some q) → Ints w' v l) (hu : Ints w' u l') (hf : FreshV B u) :
    ∀ {us : List Value} {L : List Pt} {j : Nat}, arP B w us L → dis us → us[j]? = some u → arP B w' us (L.set j (x, l'))
  | v :: us, p :: L, 0, h, hd, e => by
    simp only [List.getElem?_cons_zero, Option.some.injEq] at e
    subst e
    refine ⟨hu, hf, ?_⟩
    have hd1 := (List.pairwise_cons.1 hd).1
    have go : ∀ {vs : List Value} {M : List Pt}, arP B w vs M → (∀ b ∈ vs, ∀ q, blk v = some q → blk b ≠ some q) → arP B w' vs M := by
      intro vs
      induction vs with
      | nil => intro M hM _; cases M with
        | nil => trivial
        | cons _ _ => exact hM.elim
      | cons b vs ih => intro M hM hb; cases M with
        | nil => exact hM.elim
        | cons m M => exact ⟨hk _ _ hM.1 hM.2.1 (fun q hq e => hb b (by simp) q e hq), hM.2.1, ih hM.2.2 (fun c hc => hb c (by simp [hc]))⟩
    exact go h.2.2 hd1
  | v :: us, p :: L, j + 1, h, hd, e => by
    simp only [List.getElem?_cons_succ] at e
    have hd1 := List.pairwise_cons.1 hd
    exact ⟨hk _ _ h.1 h.2.1 (hd1.1 u (List.mem_of_getElem? e)), h.2.1, arP_mark hk hu hf h.2.2 hd1.2 e⟩
  | [], _, _, _, _, e => by simp at e
  | _ :: _, [], _, h, _, _ => h.elim
/-- one path of the row, opened for a mark -/
theorem OwnD.open_ {w : World} {B : Nat} {a : Option Addr} {n c : Nat} {L : List Pt} (h : OwnD w B (.slice a n c) L) {j : Nat} (hj : j < L.length) :
    ∃ g u, a = some ⟨g, 0, none⟩ ∧ B ≤ g ∧ g < w.heap.size ∧ (∃ x, w.cell? ⟨g, j * 2, none⟩ = some x) ∧ w.frozen? ⟨g, j * 2, none⟩ = false ∧ w.cell? ⟨g, j * 2 + 1, none⟩ = some u ∧ Ints w u (L.getD j (0, [])).2 ∧ FreshV B u ∧ (∀ q, blk u = some q → q ≠ g) ∧
      ∀ (x : Int) (l' : List Int) (w' : World), Chg (fun b => blk u = some b) (w.setCell ⟨g, j * 2, none⟩ (.int .i64 x)) w' → Ints w' u l' → OwnD w' B (.slice a n c) (L.set j (x, l')) := by
  obtain ⟨us, ⟨hl, h2⟩, hr, hd⟩ := h
  obtain ⟨g, u, rfl, hB, hlt, hc0, hc1, _, _⟩ := OwnP.cell ⟨us, ⟨hl, h2⟩, hr⟩ hj
  obtain ⟨u', hu1, hu2, hu3⟩ := arP_at hr hj
  rcases h2 with ⟨_, h0⟩ | ⟨g1, cap, cur, e, hb, hg, hnc, hcm, hcs, htake⟩
  · omega
  simp only [Value.slice.injEq, Option.some.injEq, Addr.mk.injEq, and_true] at e
  obtain ⟨rfl, rfl, rfl⟩ := e
  have huu : u = u' := by
    have h1 := (flatP_get hr.len j).2
    rw [hu1, ← htake, List.getElem?_take_of_lt (by omega), Array.getElem?_toList, ← cell_of_row w g _ cur _ _ hg, hc1] at h1
    simpa using h1
  subst huu
  have hfar := far_row hu2 hg
  refine ⟨g, u, rfl, hB, hlt, ⟨_, hc0⟩, by simp [World.frozen?, hg], hc1, hu2, hu3, hfar, fun x l' w' hch hl' => ?_⟩
  have hg1 := heap_setCell_same w g (j * 2) cur _ (.int .i64 x) hg
  have hg2 : w'.heap[g]? = _ := (hch.block g (by simpa using hlt) (fun e => hfar g e rfl)).trans hg1
  refine ⟨us, ⟨?_, .inr ⟨g, c, _, ?_, hb, hg2, ?_, hcm, ?_, ?_⟩⟩, arP_mark (fun v l hv _ hne => hv.keep fun q hq => ?_) hl' hu3 hr hd hu1, hd⟩
  · rw [flatP_len (by simp [hr.len])]
  · simp
  · simpa using hnc
  · simpa using hcs
  · rw [flatP_set1 hr.len hj, ← htake]
    simp only [List.length_set, Array.toList_setIfInBounds]
    rw [List.take_set]
  · rw [hch.block q (by simpa using hv.lt q hq) (hne q hq), heap_setCell_other _ ⟨g, j * 2, none⟩ _ _ (by simpa using far_row hv hg q hq)]
theorem mkP_step {k : Int} {L : List Pt} {j : Nat} (h : j < L.length) : (mkP k (L.take j) ++ L.drop j).set j (k + szP (L.take j), marks (k + szP (L.take j) + 1) (L.getD j (0, [])).2.length) = mkP k (L.take (j + 1)) ++ L.drop (j + 1) := by
  induction L generalizing j k with
  | nil => simp at h
  | cons p L ih =>
    cases j with
    | zero => simp [mkP, szP]
    | succ j =>
      have h2 := ih (k := k + (1 + p.2.length : Nat)) (j := j) (by simpa using h)
      have e : k + (1 + p.2.length : Nat) + (szP (L.take j) : Int) = k + (1 + p.2.length + szP (L.take j) : Nat) := by push_cast; omega
      rw [e] at h2
      simp only [List.take_succ_cons, mkP, szP, List.drop_succ_cons, List.cons_append, List.set_cons_succ, List.getD_cons_succ]
      rw [h2]

/-- the marks are laid -/
def MarkPs (B : Nat) (v : Value) (L : List Pt) (k : Int) (w : World) (e : Ending) (w' : World) : Prop :=
  e = .returned (.int .i64 (k + szP L)) ∧ OwnP w' B v (mkP k L) ∧ Chg (fun b => B ≤ b) w w'
set_option maxRecDepth 100000 in
set_option maxHeartbeats 2000000 in
theorem l_markPathS (B : Nat) (v : Value) (L : List Pt) (k : Int) (w : World) (hv : OwnD w B v L) (hk0 : 0 ≤ k) (hk1 : k + szP L ≤ 4611686018427387904) :
    Calls Try.prog 11 #[v, .int .i64 k] w (MarkPs B v L k w) := by
  obtain ⟨a, cap, rfl, hlc, hcm⟩ := hv.own.shape
  have HV := Lib.hid hv
  clear hv
  go_enter Try.func11, Try.ntmps11
  go_wp2
  go_loopw [1, 5] (fun kk i wr => ∃ j : Nat, j ≤ L.length ∧ i = .int .i64 j ∧ kk = .int .i64 (k + szP (L.take j)) ∧ OwnD wr B (.slice a L.length cap) (mkP k (L.take j) ++ L.drop j) ∧ Chg (fun b => B ≤ b) w wr) (fun _ i _ => L.length - (intOf i).toNat)
  case atStart => exact ⟨0, Nat.zero_le _, rfl, by simp [szP], by simpa [mkP] using HV.out, Chg.refl _ _⟩
  case round =>
    obtain ⟨j, hj, rfl, rfl, ho, hch⟩ := hrel
    have HCH := Lib.hid hch
    clear hch
    by_cases hlt : j < L.length
    · have hlen : j < (mkP k (L.take j) ++ L.drop j).length := by rw [List.length_append, mkP_len, List.length_take, List.length_drop]; omega
      have hget : (mkP k (L.take j) ++ L.drop j).getD j (0, []) = L.getD j (0, []) := by
        have e : (mkP k (L.take j)).length = j := by rw [mkP_len, List.length_take]; omega
        simp [List.getD, List.getElem?_append, e]
      obtain ⟨g, u, rfl, hB, hgs, ⟨x0, hc0⟩, hf0, hc1, hu, hfu, hfar, hset⟩ := ho.open_ hlen
      rw [hget] at hu
      have hst := szP_take hlt
      have hle := szP_le (L := L) (j + 1)
      have hstep := mkP_step (k := k) hlt
      obtain ⟨ar, har⟩ : ∃ ar, ar = (L.getD j (0, [])).2 := ⟨_, rfl⟩
      obtain ⟨s, hs⟩ : ∃ s, s = szP (L.take j) := ⟨_, rfl⟩
      obtain ⟨s2, hs2⟩ : ∃ s2, s2 = szP (L.take (j + 1)) := ⟨_, rfl⟩
      rw [← hs2] at hst hle
      rw [← hs] at hst hstep
      rw [← har] at hst hstep hu
      have HS2 := Lib.hid hs2; have HSTEP := Lib.hid hstep; have HSET := Lib.hid hset
      have hu1 := hu.setFar (p := ⟨g, j * 2, none⟩) hfar (.int .i64 (k + s))
      obtain ⟨aU, cU, rfl, _, _⟩ := hu.shape
      have HU := Lib.hid hu1
      have hc1' : (wr.setCell ⟨g, j * 2, none⟩ (.int .i64 (k + s))).cell? ⟨g, j * 2 + 1, none⟩ = some (.slice aU ar.length cU) := (World.cell?_setCell_other _ _ _ _ (fun e => by have := congrArg Addr.off e; simp only at this; omega)).trans hc1
      have HFU := Lib.hid hfu
      have hk2 : (0 : Int) ≤ (j : Int) := by omega
      have hk3 : (j : Int) < (L.length : Int) := by omega
      rw [← hs]
      have HB := Lib.hid hB
      clear hu hu1 har hs hs2 ho hset hget hlen hfar hstep hfu hB
      go_wp2_with fail
      refine (l_markIntS _ ar _ _ HU.out (by omega) (by omega)).mono ?_; rintro e w2 ⟨rfl, hm2, hch2⟩
      have HO2 := HSET.out (k + s) (marks (k + s + 1) ar.length) w2 hch2 hm2
      rw [HSTEP.out] at HO2
      have HO2 := Lib.hid HO2
      have HC2 := Lib.hid ((HCH.out.setCell (p := ⟨g, j * 2, none⟩) HB.out (.int .i64 (k + s))).trans (hch2.mono fun q _ hq => HFU.out q hq))
      clear hm2 hch2 hc1' hc1 hc0
      go_wp2
      go_roundw
      case rel => exact ⟨j + 1, by omega, by go_num, by rw [← HS2.out]; congr 1; omega, HO2.out, HC2.out⟩
      case measure => simp [intOf]; omega
    · have hj' : j = L.length := by omega
      have HQ := Lib.hid (show k + (szP (L.take j) : Int) = k + szP L by rw [hj', List.take_length])
      have HO := Lib.hid (show OwnP wr B (.slice a L.length cap) (mkP k L) by have h := ho.own; rw [hj', List.take_length, List.drop_length, List.append_nil] at h; exact h)
      clear hj' ho
      go_wp2
      go_ret
      exact ⟨ret_int HQ.out, HO.out, HCH.out⟩
end Go.Proofs.Ythlmggogeeedjaa
