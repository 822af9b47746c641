/- The laws' marks on slices of rows and of spaces. The laws' marks on slices of rows: laid, and held. EqualSpaces, of the program and of the reference; the laws' own helpers on spaces. The laws' marks on slices of spaces: laid, and held; the comparison of two equal slices. The laws' marks on slices of spaces: walks. -/
import Derived.Test.YtjcgommdeplbbaaMg10
import Derived.Test.YtjcgommdeplbbaaMg2
import Derived.Test.YtjcgommdeplbbaaSS2
namespace Go.Proofs.Ytjcgommdeplbbaa
open Go.RowKit
set_option linter.unusedVariables false
set_option linter.unusedSimpArgs false

def szR : List (List Int) → Nat
  | [] => 0
  | l :: ll => l.length + szR ll
def mkR (k : Int) : List (List Int) → List (List Int)
  | [] => []
  | l :: ll => marks k l.length :: mkR (k + l.length) ll
def szX : List Sp → Nat
  | [] => 0
  | p :: L => 1 + szR p.2 + szX L
def mkX (k : Int) : List Sp → List Sp
  | [] => []
  | p :: L => (k, mkR (k + 1) p.2) :: mkX (k + (1 + szR p.2 : Nat)) L
theorem mkR_len (ll : List (List Int)) : ∀ k, (mkR k ll).length = ll.length := by
  induction ll with
  | nil => intro k; rfl
  | cons l ll ih => intro k; simp [mkR, ih]
theorem mkX_len (L : List Sp) : ∀ k, (mkX k L).length = L.length := by
  induction L with
  | nil => intro k; rfl
  | cons p L ih => intro k; simp [mkX, ih]
theorem szR_take {ll : List (List Int)} : ∀ {j : Nat}, j < ll.length → szR (ll.take (j + 1)) = szR (ll.take j) + (ll.getD j []).length := by
  induction ll with
  | nil => intro j h; simp at h
  | cons l ll ih =>
    intro j h
    cases j with
    | zero => simp [szR]
    | succ j =>
      have h2 := ih (j := j) (by simpa using h)
      simp only [List.take_succ_cons, szR, h2]
      simp [List.getD]
      omega
theorem szR_le {ll : List (List Int)} : ∀ j, szR (ll.take j) ≤ szR ll := by
  induction ll with
  | nil => intro j; simp [szR]
  | cons l ll ih =>
    intro j
    cases j with
    | zero => simp [szR]
    | succ j => have := ih j; simp only [List.take_succ_cons, szR]; omega
theorem szX_take {L : List Sp} : ∀ {j : Nat}, j < L.length → szX (L.take (j + 1)) = szX (L.take j) + (1 + szR (L.getD j (0, [])).2) := by
  induction L with
  | nil => intro j h; simp at h
  | cons p L ih =>
    intro j h
    cases j with
    | zero => simp [szX]
    | succ j =>
      have h2 := ih (j := j) (by simpa using h)
      simp only [List.take_succ_cons, szX, h2]
      simp [List.getD]
      omega
theorem szX_le {L : List Sp} : ∀ j, szX (L.take j) ≤ szX L := by
  induction L with
  | nil => intro j; simp [szX]
  | cons p L ih =>
    intro j
    cases j with
    | zero => simp [szX]
    | succ j => have := ih j; simp only [List.take_succ_cons, szX]; omega
theorem mkR_get {ll : List (List Int)} : ∀ {j : Nat} {k : Int}, j < ll.length → (mkR k ll).getD j [] = marks (k + szR (ll.take j)) (ll.getD j []).length := by
  induction ll with
  | nil => intro j k h; simp at h
  | cons l ll ih =>
    intro j k h
    cases j with
    | zero => simp [mkR, szR]
    | succ j =>
      have h2 := ih (j := j) (k := k + l.length) (by simpa using h)
      simp only [mkR, List.take_succ_cons, szR, List.getD_cons_succ]
      rw [h2]
      have e : k + (l.length : Int) + (szR (ll.take j) : Int) = k + (l.length + szR (ll.take j) : Nat) := by push_cast; omega
      rw [e]
theorem mkX_get {L : List Sp} : ∀ {j : Nat} {k : Int}, j < L.length → (mkX k L).getD j (0, []) = (k + szX (L.take j), mkR (k + szX (L.take j) + 1) (L.getD j (0, [])).2) := by
  induction L with
  | nil => intro j k h; simp at h
  | cons p L ih =>
    intro j k h
    cases j with
    | zero => simp [mkX, szX]
    | succ j =>
      have h2 := ih (j := j) (k := k + (1 + szR p.2 : Nat)) (by simpa using h)
      simp only [mkX, List.take_succ_cons, szX, List.getD_cons_succ]
      rw [h2]
      have e : k + (1 + szR p.2 : Nat) + (szX (L.take j) : Int) = k + (1 + szR p.2 + szX (L.take j) : Nat) := by push_cast; omega
      rw [e]
/-- the rows ahead of j are marked -/
theorem mkR_app (k : Int) : ∀ (A B : List (List Int)), mkR k (A ++ B) = mkR k A ++ mkR (k + szR A) B
  | [], B => by simp [mkR, szR]
  | l :: A, B => by
    rw [List.cons_append, mkR, mkR, mkR_app (k + l.length) A B, szR, List.cons_append]
    congr 3
    push_cast; omega
theorem mkX_app (k : Int) : ∀ (A B : List Sp), mkX k (A ++ B) = mkX k A ++ mkX (k + szX A) B
  | [], B => by simp [mkX, szX]
  | p :: A, B => by
    rw [List.cons_append, mkX, mkX, mkX_app _ A B, szX, List.cons_append]
    congr 3
    push_cast; omega
theorem take_one {α : Type} {l : List α} {j : Nat} (hj : j < l.length) : l.take (j + 1) = l.take j ++ [l[j]] := by
  rw [List.take_add_one, List.getElem?_eq_getElem hj]; rfl
theorem mkR_step {k : Int} {ll : List (List Int)} {j : Nat} (hj : j < ll.length) : (mkR k (ll.take j) ++ ll.drop j).set j (marks (k + szR (ll.take j)) (ll.getD j []).length) = mkR k (ll.take (j + 1)) ++ ll.drop (j + 1) := by
  have hl : (mkR k (ll.take j)).length = j := by rw [mkR_len, List.length_take]; omega
  rw [take_one hj, mkR_app, List.append_assoc, List.drop_eq_getElem_cons hj, List.set_append_right _ _ (by omega), hl, Nat.sub_self, List.set_cons_zero]
  simp [mkR, List.getD, hj]
theorem mkR_at {k : Int} {ll : List (List Int)} {j : Nat} (hj : j < ll.length) : (mkR k (ll.take j) ++ ll.drop j).getD j [] = ll.getD j [] := by
  have hl : (mkR k (ll.take j)).length = j := by rw [mkR_len, List.length_take]; omega
  simp only [List.getD]
  rw [List.getElem?_append_right (by omega), hl, Nat.sub_self, List.getElem?_drop, Nat.add_zero]

/-- one row has been written -/
theorem arR.mark {w w' : World} : ∀ {vs : List Value} {ll : List (List Int)} {j : Nat} {l' : List Int}, arR 0 w vs ll → (∀ i (hi : i < vs.length), i ≠ j → ∀ q, blk vs[i] = some q → w'.heap[q]? = w.heap[q]?) → (∀ hj : j < vs.length, Ints w' vs[j] l') → arR 0 w' vs (ll.set j l')
  | [], [], j, l', _, _, _ => by simp [arR]
  | v :: vs, l :: ll, 0, l', h, hk, hx => ⟨hx (by simp), h.2.1, arR.keepM (fun x hm q hq => by
      obtain ⟨i, hi, rfl⟩ := List.mem_iff_getElem.1 hm
      exact hk (i + 1) (by simpa using hi) (by omega) q (by simpa using hq)) h.2.2⟩
  | v :: vs, l :: ll, j + 1, l', h, hk, hx => ⟨h.1.keep (fun q hq => hk 0 (by simp) (by omega) q (by simpa using hq)), h.2.1, arR.mark h.2.2 (fun i hi hne q hq => hk (i + 1) (by simpa using hi) (by omega) q (by simpa using hq)) (fun hj => hx (by simpa using hj))⟩
  | [], _ :: _, _, _, h, _, _ => h.elim
  | _ :: _, [], _, _, h, _, _ => h.elim
theorem RwV.mark {w w' : World} {u : Value} {vs : List Value} {ll : List (List Int)} {j : Nat} {l' : List Int} (h : RwV w u vs ll) (hd : disV vs) (hj : j < vs.length) (hx : Ints w' vs[j] l') (hc : Chg (fun q => blk vs[j] = some q) w w') : RwV w' u vs (ll.set j l') := by
  have hlen := h.2.len
  have hjl : j < ll.length := by omega
  have hdist : ∀ i (hi : i < vs.length), i ≠ j → ∀ q, blk vs[i] = some q → blk vs[j] ≠ some q := fun i hi hne q hq => by
    rcases Nat.lt_or_ge i j with hij | hij
    · exact (List.pairwise_iff_getElem.1 hd i j hi hj hij) q hq
    · intro e
      exact (List.pairwise_iff_getElem.1 hd j i hj hi (by omega)) q e hq
  have har := h.2.mark (w' := w') (j := j) (l' := l') (fun i hi hne q hq => hc.block q (h.vlt _ (List.getElem_mem hi) q hq) (hdist i hi hne q hq)) (fun _ => hx)
  refine ⟨?_, har⟩
  obtain ⟨⟨a, cap, rfl, h1, h2, h3⟩, hr⟩ := h
  refine ⟨a, cap, by rw [List.length_set], by simpa using h1, h2, ?_⟩
  rcases h3 with rfl | ⟨g, off, cur, rfl, hg, hs, ht⟩
  · simp at hjl
  · refine .inr ⟨g, off, cur, rfl, ?_, by simpa using hs, by rw [List.length_set]; exact ht⟩
    rw [hc.block g (Array.getElem?_eq_some_iff.1 hg).1 (fun e => ?_)]
    · exact hg
    · obtain ⟨a2, c2, e2, _, _, rfl | ⟨g3, o3, cur3, rfl, hg3, _, _⟩⟩ := hx
      · rw [e2] at e; cases a2 <;> simp [blk] at e
      · have hb : blk vs[j] = some g3 := by
          rw [e2] at e ⊢
          cases l' with
          | nil => simp [blk] at e
          | cons y l' => rfl
        have hgg : g3 = g := by rw [hb] at e; simpa using e
        subst hgg
        -- in the old world the row was a row of integers
        have hold : ∃ cs, w.heap[g3]? = some (.cells cs 3 (0, 0)) := by
          have h5 : Ints w vs[j] (ll.getD j []) := by
            obtain ⟨v5, e5, h5, _⟩ := hr.get j hjl
            rw [List.getElem?_eq_getElem hj] at e5
            cases e5
            exact h5
          obtain ⟨a6, c6, e6, _, _, h6 | ⟨g7, o7, cur7, e7, hg7, _, _⟩⟩ := h5
          · rw [e6, h6] at hb; cases a6 <;> simp [blk] at hb
          · rw [e6, e7] at hb
            have : g7 = g3 := by
              cases hll : ll.getD j [] with
              | nil => rw [hll] at hb; simp [blk] at hb
              | cons y z => rw [hll] at hb; simpa [blk] using hb
            subst this
            exact ⟨_, hg7⟩
        obtain ⟨cs, hcs⟩ := hold
        rw [hg] at hcs; simp at hcs
theorem RwV.cell {w : World} {a : Option Addr} {n c : Nat} {vs : List Value} {ll : List (List Int)} (h : RwV w (.slice a n c) vs ll) {i : Nat} (hi : i < ll.length) (hv : i < vs.length) :
    ∃ g off, a = some ⟨g, off, none⟩ ∧ g < w.heap.size ∧ w.cell? ⟨g, off + i, none⟩ = some vs[i] ∧ Ints w vs[i] (ll.getD i []) := by
  obtain ⟨⟨a', cap', e, h1, h2, h3⟩, hr⟩ := h
  simp only [Value.slice.injEq] at e
  obtain ⟨rfl, rfl, rfl⟩ := e
  rcases h3 with rfl | ⟨g, off, cur, rfl, hg, hs, ht⟩
  · simp at hi
  · obtain ⟨v, e5, h5, _⟩ := hr.get i hi
    rw [List.getElem?_eq_getElem hv] at e5
    cases e5
    refine ⟨g, off, rfl, (Array.getElem?_eq_some_iff.1 hg).1, ?_, h5⟩
    rw [cell_of_row w g _ cur _ _ hg]
    have h6 : ((cur.toList.drop off).take ll.length)[i]? = some vs[i] := by rw [ht, List.getElem?_eq_getElem hv]
    rw [List.getElem?_take_of_lt hi, List.getElem?_drop, Array.getElem?_toList] at h6
    exact h6
end Go.Proofs.Ytjcgommdeplbbaa

namespace Go.Proofs.Ytjcgommdeplbbaa
open Go.RowKit
set_option linter.unusedVariables false
set_option linter.unusedSimpArgs false

set_option maxRecDepth 100000 in
set_option maxHeartbeats 2000000 in
theorem l_heldIntSS (v : Value) (ll : List (List Int)) (k : Int) (w : World) (hv : Rws 0 w v (mkR k ll)) (hk0 : 0 ≤ k) (hk1 : k + szR ll ≤ 4611686018427387904) :
    Calls Try.prog 16 #[v, .int .i64 k] w (IntAns (k + szR ll) w) := by
  obtain ⟨a, cap, e, hlc, hcm⟩ := hv.shape
  rw [mkR_len] at e hlc
  subst e
  have HV := Lib.hid hv
  clear hv
  go_enter Try.func16, Try.ntmps16
  go_wp2
  go_loop [1, 5] (fun kk i => ∃ j : Nat, j ≤ ll.length ∧ i = .int .i64 j ∧ kk = .int .i64 (k + szR (ll.take j))) (fun _ i => ll.length - (intOf i).toNat)
  case atStart => exact ⟨0, Nat.zero_le _, rfl, by simp [szR]⟩
  case round =>
    obtain ⟨j, hj, rfl, rfl⟩ := hrel
    by_cases hlt : j < ll.length
    · obtain ⟨g, off, u, rfl, _, hgs, hc0, hu, _⟩ := HV.out.cell (i := j) (by rw [mkR_len]; exact hlt)
      rw [mkR_get hlt] at hu
      have hst := szR_take hlt
      have hle := szR_le (ll := ll) (j + 1)
      obtain ⟨m, hm⟩ : ∃ m, m = (ll.getD j []).length := ⟨_, rfl⟩
      obtain ⟨s, hs⟩ : ∃ s, s = szR (ll.take j) := ⟨_, rfl⟩
      obtain ⟨s2, hs2⟩ : ∃ s2, s2 = szR (ll.take (j + 1)) := ⟨_, rfl⟩
      rw [← hs2] at hst hle
      rw [← hs] at hst
      rw [← hm] at hst
      simp only [← hs, ← hm] at hu
      have HS := Lib.hid hs; have HS2 := Lib.hid hs2
      have HU := Lib.hid hu
      have hush := hu.shape
      rw [marks_len] at hush
      obtain ⟨aU, cU, rfl, _, _⟩ := hush
      have hk2 : (0 : Int) ≤ (j : Int) := by omega
      have hk3 : (j : Int) < (ll.length : Int) := by omega
      have hn : ((k + s : Int) + (m : Int) < 0) = False := by simp; omega
      rw [← hs]
      clear hu hm hs hs2
      go_wp2_with fail
      refine (l_heldIntS _ m _ _ HU.out (by omega) (by omega)).mono ?_; rintro e wz ⟨rfl, rfl⟩
      go_wp2
      go_round
      case rel => exact ⟨j + 1, by omega, by go_num, by rw [← HS2.out]; congr 1; omega⟩
      case measure => simp [intOf]; omega
    · have hj' : j = ll.length := by omega
      have HQ := Lib.hid (show k + (szR (ll.take j) : Int) = k + szR ll by rw [hj', List.take_length])
      clear hj'
      go_wp2
      go_ret
      exact ⟨ret_int HQ.out, rfl⟩

/-- the marks are laid; nothing else turns -/
def MarkRs (v : Value) (vs : List Value) (ll : List (List Int)) (k : Int) (w : World) (e : Ending) (w' : World) : Prop :=
  e = .returned (.int .i64 (k + szR ll)) ∧ RwV w' v vs (mkR k ll) ∧ Chg (fun q => ∃ x, x ∈ vs ∧ blk x = some q) w w'
set_option maxRecDepth 100000 in
set_option maxHeartbeats 2000000 in
theorem l_markIntSS (v : Value) (vs : List Value) (ll : List (List Int)) (k : Int) (w : World) (hv : RwV w v vs ll) (hd : disV vs) (hk0 : 0 ≤ k) (hk1 : k + szR ll ≤ 4611686018427387904) :
    Calls Try.prog 15 #[v, .int .i64 k] w (MarkRs v vs ll k w) := by
  obtain ⟨a, cap, rfl, hlc, hcm⟩ := hv.shape
  have hvl : vs.length = ll.length := hv.2.len
  have HVL := Lib.hid hvl
  have HV := Lib.hid hv
  have HD := Lib.hid hd
  clear hv hd hvl
  go_enter Try.func15, Try.ntmps15
  go_wp2
  go_loopw [1, 5] (fun kk i wr => ∃ j : Nat, j ≤ ll.length ∧ i = .int .i64 j ∧ kk = .int .i64 (k + szR (ll.take j)) ∧ RwV wr (.slice a ll.length cap) vs (mkR k (ll.take j) ++ ll.drop j) ∧ Chg (fun q => ∃ x, x ∈ vs ∧ blk x = some q) w wr) (fun _ i _ => ll.length - (intOf i).toNat)
  case atStart => exact ⟨0, Nat.zero_le _, rfl, by simp [szR], by simpa [mkR] using HV.out, Chg.refl _ _⟩
  case round =>
    obtain ⟨j, hj, rfl, rfl, ho, hch⟩ := hrel
    have HCH := Lib.hid hch
    clear hch
    by_cases hlt : j < ll.length
    · have hlen : j < (mkR k (ll.take j) ++ ll.drop j).length := by rw [List.length_append, mkR_len, List.length_take, List.length_drop]; omega
      have hjv : j < vs.length := by rw [HVL.out]; exact hlt
      obtain ⟨g, off, rfl, hgs, hc0, hu⟩ := ho.cell hlen hjv
      rw [mkR_at hlt] at hu
      have hmark := fun (l' : List Int) (w' : World) (hx : Ints w' vs[j] l') (hc : Chg (fun q => blk vs[j] = some q) wr w') => ho.mark HD.out hjv hx hc
      have hin : vs[j] ∈ vs := List.getElem_mem hjv
      have hst := szR_take hlt
      have hle := szR_le (ll := ll) (j + 1)
      have hstep := mkR_step (k := k) hlt
      obtain ⟨u, hue⟩ : ∃ u, u = vs[j] := ⟨_, rfl⟩
      rw [← hue] at hc0 hu hin
      simp only [← hue] at hmark
      obtain ⟨ar, har⟩ : ∃ ar, ar = ll.getD j [] := ⟨_, rfl⟩
      obtain ⟨s, hs⟩ : ∃ s, s = szR (ll.take j) := ⟨_, rfl⟩
      obtain ⟨s2, hs2⟩ : ∃ s2, s2 = szR (ll.take (j + 1)) := ⟨_, rfl⟩
      rw [← hs2] at hst hle
      rw [← hs] at hst hstep
      rw [← har] at hst hstep hu
      have HS2 := Lib.hid hs2; have HSTEP := Lib.hid hstep; have HM := Lib.hid hmark; have HIN := Lib.hid hin
      obtain ⟨aU, cU, rfl, _, _⟩ := hu.shape
      have HU := Lib.hid hu
      have hk2 : (0 : Int) ≤ (j : Int) := by omega
      have hk3 : (j : Int) < (ll.length : Int) := by omega
      rw [← hs]
      clear hu har hs hs2 ho hmark hlen hstep hue hin hjv
      go_wp2_with fail
      refine (l_markIntS _ ar _ _ HU.out (by omega) (by omega)).mono ?_; rintro e w2 ⟨rfl, hm2, hch2⟩
      have HO2 := HM.out (marks (k + s) ar.length) w2 hm2 hch2
      rw [HSTEP.out] at HO2
      have HO2 := Lib.hid HO2
      have HC2 := Lib.hid (HCH.out.trans (hch2.mono fun q _ hq => ⟨_, HIN.out, hq⟩))
      clear hm2 hch2 hc0
      go_wp2
      go_roundw
      case rel => exact ⟨j + 1, by omega, by go_num, by rw [← HS2.out]; congr 1; omega, HO2.out, HC2.out⟩
      case measure => simp [intOf]; omega
    · have hj' : j = ll.length := by omega
      have HQ := Lib.hid (show k + (szR (ll.take j) : Int) = k + szR ll by rw [hj', List.take_length])
      have HO := Lib.hid (show RwV wr (.slice a ll.length cap) vs (mkR k ll) by have h := ho; rw [hj', List.take_length, List.drop_length, List.append_nil] at h; exact h)
      clear hj' ho
      go_wp2
      go_ret
      exact ⟨ret_int HQ.out, HO.out, HCH.out⟩
end Go.Proofs.Ytjcgommdeplbbaa

namespace Go.Proofs.Ytjcgommdeplbbaa
open Go.RowKit
set_option linter.unusedVariables false
set_option linter.unusedSimpArgs false

def SpaceNew (n : Int) (l : List (List Int)) (w : World) (e : Ending) (w' : World) : Prop :=
  ∃ v, e = .returned (.agg #[.int .i64 n, v]) ∧ IntsS w' v l ∧ FreshV w.heap.size v ∧ Below w.heap.size w w'
def eqSp (n : Int) (l : List (List Int)) (n' : Int) (l' : List (List Int)) : Bool := decide (n = n' ∧ l = l')
theorem eqSp_refl (n : Int) (l : List (List Int)) : eqSp n l n l = true := by simp [eqSp]

set_option maxRecDepth 100000 in
set_option maxHeartbeats 1000000 in
theorem l_eqSpace (n n' : Int) (va vb : Value) (la lb : List (List Int)) (w : World) (ha : IntsS w va la) (hb : IntsS w vb lb) :
    Calls Try.prog 14 #[.agg #[.int .i64 n, va], .agg #[.int .i64 n', vb]] w (BoolAnsB (eqSp n la n' lb) w) := by
  obtain ⟨a, cap, rfl, hlc, hcm⟩ := ha.shape
  obtain ⟨b, capb, rfl, hlcb, hcmb⟩ := hb.shape
  have h2 : Below w.heap.size w ((w.alloc (.cells #[.int .i64 n, .slice a la.length cap] 33)).alloc (.cells #[.int .i64 n', .slice b lb.length capb] 33)) :=
    ((Below.refl _ w).alloc (Nat.le_refl _) _).alloc (by simp) _
  have HA := Lib.hid (ha.below h2)
  have HB := Lib.hid (hb.below h2)
  have H2 := Lib.hid h2
  clear ha hb h2
  by_cases e1 : n = n'
  · have HE := Lib.hid (show eqSp n la n' lb = decide (la = lb) by simp [eqSp, e1])
    subst e1
    go_enter Try.func14, Try.ntmps14
    go_wp2_with fail
    refine (l_eqIntSS _ _ la lb _ HA.out HB.out).mono ?_; rintro e w1 ⟨rfl, b1⟩
    have hb3 := Lib.hid (below_call H2.out b1 H2.out.size)
    by_cases hq : la = lb
    · have hqd : decide (la = lb) = true := by simpa using hq
      have HQ := Lib.hid hq; clear hq
      go_wp2
      go_ret
      exact ⟨ret_bool (by rw [HE.out]; simpa using HQ.out), hb3.out⟩
    · have hqd : decide (la = lb) = false := by simpa using hq
      have HQ := Lib.hid hq; clear hq
      go_wp2
      go_ret
      exact ⟨ret_bool (by rw [HE.out]; simpa using HQ.out), hb3.out⟩
  · have HE := Lib.hid (show eqSp n la n' lb = false by simp [eqSp, e1])
    have hb2 : (n == n') = false := by simpa using e1
    clear e1
    go_enter Try.func14, Try.ntmps14
    go_wp2
    go_ret
    exact ⟨ret_bool HE.out.symm, H2.out⟩





end Go.Proofs.Ytjcgommdeplbbaa

namespace Go.Proofs.Ytjcgommdeplbbaa
open Go.RowKit
set_option linter.unusedVariables false
set_option linter.unusedSimpArgs false

theorem mkX_step {k : Int} {L : List Sp} {j : Nat} (hj : j < L.length) : (mkX k (L.take j) ++ L.drop j).set j (k + szX (L.take j), mkR (k + szX (L.take j) + 1) (L.getD j (0, [])).2) = mkX k (L.take (j + 1)) ++ L.drop (j + 1) := by
  have hl : (mkX k (L.take j)).length = j := by rw [mkX_len, List.length_take]; omega
  rw [take_one hj, mkX_app, List.append_assoc, List.drop_eq_getElem_cons hj, List.set_append_right _ _ (by omega), hl, Nat.sub_self, List.set_cons_zero]
  simp [mkX, List.getD, hj]
theorem mkX_at {k : Int} {L : List Sp} {j : Nat} (hj : j < L.length) : (mkX k (L.take j) ++ L.drop j).getD j (0, []) = L.getD j (0, []) := by
  have hl : (mkX k (L.take j)).length = j := by rw [mkX_len, List.length_take]; omega
  simp only [List.getD]
  rw [List.getElem?_append_right (by omega), hl, Nat.sub_self, List.getElem?_drop, Nat.add_zero]

theorem flatS_set1 {st : Int} {ar : List (List Int)} : ∀ {us : List Value} {L : List Sp} {i : Nat}, us.length = L.length → i < L.length → flatS us (L.set i (st, ar)) = (flatS us L).set (i * 2) (.int .i64 st)
  | u :: us, p :: L, 0, _, _ => by simp [flatS]
  | u :: us, p :: L, i + 1, h, hi => by
    have h2 := flatS_set1 (st := st) (ar := ar) (us := us) (L := L) (i := i) (by simpa using h) (by simpa using hi)
    rw [show (i + 1) * 2 = i * 2 + 1 + 1 by omega]
    simp [flatS, h2]
  | [], [], _, _, hi => by simp at hi
  | [], _ :: _, _, h, _ => by simp at h
  | _ :: _, [], _, h, _ => by simp at h
theorem Ints.inRow {w : World} {y : Value} {l : List Int} (h : Ints w y l) {q : Nat} (hq : blk y = some q) : ∃ cs, w.heap[q]? = some (.cells cs 3 (0, 0)) := by
  obtain ⟨a, c, rfl, _, _, rfl | ⟨g, o, cur, rfl, hg, _, _⟩⟩ := h
  · cases a <;> simp [blk] at hq
  · cases l with
    | nil => simp [blk] at hq
    | cons x l =>
      have : g = q := by simpa [blk] using hq
      subst this
      exact ⟨_, hg⟩
theorem arR.mem {B : Nat} {w : World} : ∀ {vs : List Value} {ll : List (List Int)}, arR B w vs ll → ∀ y ∈ vs, ∃ l, Ints w y l
  | [], [], _, y, hy => by simp at hy
  | v :: vs, l :: ll, h, y, hy => by
    rcases List.mem_cons.1 hy with rfl | hy
    · exact ⟨_, h.1⟩
    · exact arR.mem h.2.2 y hy
  | [], _ :: _, h, _, _ => h.elim
  | _ :: _, [], h, _, _ => h.elim
/-- a row of rows lies in no row of integers -/
theorem RwV.apart {w : World} {u : Value} {vs vs2 : List Value} {ll ll2 : List (List Int)} (h : RwV w u vs ll) (h2 : arR 0 w vs2 ll2) : ∀ q, blk u = some q → ∀ y ∈ vs2, blk y ≠ some q := by
  intro q hq y hy e
  obtain ⟨l, hl⟩ := h2.mem y hy
  obtain ⟨cs, hcs⟩ := hl.inRow e
  obtain ⟨⟨a, cap, rfl, h1, h2, h3⟩, _⟩ := h
  rcases h3 with rfl | ⟨g, off, cur, rfl, hg, hs, ht⟩
  · cases a <;> simp [blk] at hq
  · cases ll with
    | nil => simp [blk] at hq
    | cons l ll =>
      have : g = q := by simpa [blk] using hq
      subst this
      rw [hg] at hcs; simp at hcs
theorem arX.at {P : Nat → Prop} {w : World} : ∀ {us : List Value} {vss : List (List Value)} {L : List Sp} {j : Nat}, arX P w us vss L → j < L.length →
    ∃ u vs, us[j]? = some u ∧ vss[j]? = some vs ∧ RwV w u vs (L.getD j (0, [])).2 ∧ (∀ q, blk u = some q → P q) ∧ (∀ x ∈ vs, ∀ q, blk x = some q → P q)
  | u :: _, vs :: _, _ :: _, 0, h, _ => ⟨u, vs, rfl, rfl, h.1, h.2.1, h.2.2.1⟩
  | _ :: _, _ :: _, _ :: L, j + 1, h, hj => by
    obtain ⟨u, vs, h1, h2, h3, h4, h5⟩ := arX.at h.2.2.2 (j := j) (by simpa using hj)
    exact ⟨u, vs, by simpa using h1, by simpa using h2, by simpa [List.getD] using h3, h4, h5⟩
  | [], [], [], _, _, hj => by simp at hj
  | [], [], _ :: _, _, h, _ => h.elim
  | [], _ :: _, _, _, h, _ => h.elim
  | _ :: _, [], _, _, h, _ => h.elim
  | _ :: _, _ :: _, [], _, h, _ => h.elim
theorem dis_at : ∀ {vss : List (List Value)} {j : Nat} {vs : List Value}, disV vss.flatten → vss[j]? = some vs → disV vs
  | v0 :: vss, 0, vs, hd, e => by
    simp only [List.getElem?_cons_zero, Option.some.injEq] at e
    subst e
    unfold disV at hd ⊢
    rw [List.flatten_cons, List.pairwise_append] at hd
    exact hd.1
  | v0 :: vss, j + 1, vs, hd, e => by
    simp only [List.getElem?_cons_succ] at e
    unfold disV at hd
    rw [List.flatten_cons, List.pairwise_append] at hd
    exact dis_at hd.2.1 e
  | [], _, _, _, e => by simp at e
theorem arX.markS {P : Nat → Prop} {w w' : World} {u : Value} {vs : List Value} {x : Int} {ll' : List (List Int)} (hu : RwV w' u vs ll')
    (hk : ∀ u2 vs2 ll2, RwV w u2 vs2 ll2 → (∀ a ∈ vs2, ∀ q, blk a = some q → ∀ y ∈ vs, blk y ≠ some q) → RwV w' u2 vs2 ll2) :
    ∀ {us : List Value} {vss : List (List Value)} {L : List Sp} {j : Nat}, arX P w us vss L → disV vss.flatten → us[j]? = some u → vss[j]? = some vs → arX P w' us vss (L.set j (x, ll'))
  | u0 :: us, v0 :: vss, p :: L, 0, h, hd, e1, e2 => by
    simp only [List.getElem?_cons_zero, Option.some.injEq] at e1 e2
    subst e1; subst e2
    unfold disV at hd
    rw [List.flatten_cons, List.pairwise_append] at hd
    refine ⟨hu, h.2.1, h.2.2.1, ?_⟩
    have hd3 := hd.2.2
    have ht := h.2.2.2
    clear hd h
    have go : ∀ {us : List Value} {vss : List (List Value)} {L : List Sp}, arX P w us vss L → (∀ a ∈ v0, ∀ b ∈ vss.flatten, ∀ q, blk a = some q → blk b ≠ some q) → arX P w' us vss L := by
      intro us
      induction us with
      | nil => intro vss L h _; cases vss with
        | nil => cases L with
          | nil => trivial
          | cons _ _ => exact h.elim
        | cons _ _ => exact h.elim
      | cons u1 us ih => intro vss L h hb; cases vss with
        | nil => exact h.elim
        | cons v1 vss => cases L with
          | nil => exact h.elim
          | cons p L => exact ⟨hk _ _ _ h.1 (fun a ha q hq y hy e => hb y hy a (by simp [ha]) q e hq), h.2.1, h.2.2.1, ih h.2.2.2 (fun a ha b hb2 => hb a ha b (by rw [List.flatten_cons]; exact List.mem_append_right _ hb2))⟩
    exact go ht hd3
  | u0 :: us, v0 :: vss, p :: L, j + 1, h, hd, e1, e2 => by
    simp only [List.getElem?_cons_succ] at e1 e2
    unfold disV at hd
    rw [List.flatten_cons, List.pairwise_append] at hd
    refine ⟨hk _ _ _ h.1 (fun a ha q hq y hy e => hd.2.2 a ha y (List.mem_flatten.2 ⟨vs, List.mem_of_getElem? e2, hy⟩) q hq e), h.2.1, h.2.2.1, arX.markS hu hk h.2.2.2 hd.2.1 e1 e2⟩
  | [], _, _, _, _, _, e, _ => by simp at e
  | _ :: _, [], _, _, _, _, _, e => by simp at e
  | _ :: _, _ :: _, [], _, h, _, _, _ => h.elim
/-- one space of the row, opened for a mark -/
theorem OwnX.open_ {P : Nat → Prop} {w : World} {a : Option Addr} {n c : Nat} {L : List Sp} (h : OwnX P w (.slice a n c) L) {j : Nat} (hj : j < L.length) :
    ∃ g u vs, a = some ⟨g, 0, none⟩ ∧ P g ∧ g < w.heap.size ∧ (∃ x, w.cell? ⟨g, j * 2, none⟩ = some x) ∧ w.frozen? ⟨g, j * 2, none⟩ = false ∧ w.cell? ⟨g, j * 2 + 1, none⟩ = some u ∧ RwV w u vs (L.getD j (0, [])).2 ∧ disV vs ∧ (∀ x ∈ vs, ∀ q, blk x = some q → P q) ∧
      (∀ z, RwV (w.setCell ⟨g, j * 2, none⟩ z) u vs (L.getD j (0, [])).2) ∧
      ∀ (x : Int) (ll' : List (List Int)) (w' : World), Chg (fun q => ∃ y, y ∈ vs ∧ blk y = some q) (w.setCell ⟨g, j * 2, none⟩ (.int .i64 x)) w' → RwV w' u vs ll' → OwnX P w' (.slice a n c) (L.set j (x, ll')) := by
  have hS := h.owns
  obtain ⟨us, vss, ⟨hl, h2⟩, hP, hr, hd⟩ := h
  obtain ⟨g, u, rfl, _, hlt, hc0, hc1, _⟩ := hS.cell hj
  obtain ⟨u', vs, hu1, hu2, hu3, hu4, hu5⟩ := hr.at hj
  rcases h2 with ⟨_, h0⟩ | ⟨g1, cap, cur, e, hb, hg, hnc, hcm, hcs, htake⟩
  · omega
  simp only [Value.slice.injEq, Option.some.injEq, Addr.mk.injEq, and_true] at e
  obtain ⟨rfl, rfl, rfl⟩ := e
  have hul : us.length = L.length := hr.ars.len
  have huu : u = u' := by
    have h1 : (flatS us L)[j * 2 + 1]? = us[j]? := by
      have go : ∀ {us : List Value} {L : List Sp} {j : Nat}, us.length = L.length → (flatS us L)[j * 2 + 1]? = us[j]? := by
        intro us
        induction us with
        | nil => intro L j h; cases L with
          | nil => simp [flatS]
          | cons _ _ => simp at h
        | cons v us ih => intro L j h; cases L with
          | nil => simp at h
          | cons p L => cases j with
            | zero => simp [flatS]
            | succ j =>
              rw [show (j + 1) * 2 + 1 = j * 2 + 1 + 1 + 1 by omega]
              simpa [flatS] using ih (L := L) (j := j) (by simpa using h)
      exact go hul
    rw [hu1, ← htake, List.getElem?_take_of_lt (by omega), Array.getElem?_toList, ← cell_of_row w g _ cur _ _ hg, hc1] at h1
    simpa using h1
  subst huu
  have hfar := hu3.far hg
  have hset : ∀ z, ∀ q, q ≠ g → (w.setCell ⟨g, j * 2, none⟩ z).heap[q]? = w.heap[q]? := fun z q hq => heap_setCell_other _ ⟨g, j * 2, none⟩ _ _ hq
  refine ⟨g, u, vs, rfl, hP g (by simp [Value.ownBlock]), hlt, ⟨_, hc0⟩, by simp [World.frozen?, hg], hc1, hu3, dis_at hd hu2, hu5, fun z => hu3.keep (fun q hq => hset z q (hfar.1 q hq)) (fun x hx q hq => hset z q (hfar.2 x hx q hq)), fun x ll' w' hch hll' => ?_⟩
  have hg1 := heap_setCell_same w g (j * 2) cur _ (.int .i64 x) hg
  have hg2 : w'.heap[g]? = _ := (hch.block g (by simpa using hlt) (fun ⟨y, hy, e⟩ => hfar.2 y hy g e rfl)).trans hg1
  refine ⟨us, vss, ⟨?_, .inr ⟨g, c, _, ?_, hb, hg2, ?_, hcm, ?_, ?_⟩⟩, fun q hq => hP q (by simpa [Value.ownBlock] using hq), arX.markS hll' (fun u2 vs2 ll2 h2 hdd => ?_) hr hd hu1 hu2, hd⟩
  · rw [flatS_len (by simp [hul])]
  · simp
  · simpa using hnc
  · simpa using hcs
  · rw [flatS_set1 hul hj, ← htake]
    simp only [List.length_set, Array.toList_setIfInBounds]
    rw [List.take_set]
  · have hf2 := h2.far hg
    refine h2.keep (fun q hq => ?_) (fun a ha q hq => ?_)
    · rw [hch.block q (by simpa using h2.ult q hq) (fun ⟨y, hy, e⟩ => h2.apart hu3.2 q hq y hy e), hset _ q (hf2.1 q hq)]
    · rw [hch.block q (by simpa using h2.vlt a ha q hq) (fun ⟨y, hy, e⟩ => hdd a ha q hq y hy e), hset _ q (hf2.2 a ha q hq)]
end Go.Proofs.Ytjcgommdeplbbaa

namespace Go.Proofs.Ytjcgommdeplbbaa
open Go.RowKit
set_option linter.unusedVariables false
set_option linter.unusedSimpArgs false

theorem IntsS.drew {w : World} {v : Value} {ll : List (List Int)} (h : IntsS w v ll) : IntsS w.drew v ll := Rws.keepB h fun _ _ _ _ _ => rfl
set_option maxRecDepth 100000 in
set_option maxHeartbeats 2000000 in
theorem l_heldSpaceS (v : Value) (L : List Sp) (k : Int) (w : World) (hv : OwnS w 0 v (mkX k L)) (hk0 : 0 ≤ k) (hk1 : k + szX L ≤ 4611686018427387904) :
    Calls Try.prog 8 #[v, .int .i64 k] w (IntAns (k + szX L) w) := by
  obtain ⟨a, cap, e, hlc, hcm⟩ := hv.shape
  rw [mkX_len] at e hlc
  subst e
  have HV := Lib.hid hv
  clear hv
  go_enter Try.func8, Try.ntmps8
  go_wp2
  go_loop [1, 5] (fun kk i => ∃ j : Nat, j ≤ L.length ∧ i = .int .i64 j ∧ kk = .int .i64 (k + szX (L.take j))) (fun _ i => L.length - (intOf i).toNat)
  case atStart => exact ⟨0, Nat.zero_le _, rfl, by simp [szX]⟩
  case round =>
    obtain ⟨j, hj, rfl, rfl⟩ := hrel
    by_cases hlt : j < L.length
    · obtain ⟨g, u, rfl, _, hgs, hc0, hc1, hu⟩ := HV.out.cell (i := j) (by rw [mkX_len]; exact hlt)
      rw [mkX_get hlt] at hc0 hu
      have hst := szX_take hlt
      have hle := szX_le (L := L) (j + 1)
      obtain ⟨ll, hm⟩ : ∃ ll, ll = (L.getD j (0, [])).2 := ⟨_, rfl⟩
      obtain ⟨s, hs⟩ : ∃ s, s = szX (L.take j) := ⟨_, rfl⟩
      obtain ⟨s2, hs2⟩ : ∃ s2, s2 = szX (L.take (j + 1)) := ⟨_, rfl⟩
      rw [← hs2] at hst hle
      rw [← hs] at hst
      rw [← hm] at hst
      simp only [← hs, ← hm] at hc0 hu
      obtain ⟨m, hmm⟩ : ∃ m, m = szR ll := ⟨_, rfl⟩
      rw [← hmm] at hst
      have HS := Lib.hid hs; have HS2 := Lib.hid hs2
      have HU := Lib.hid hu
      have HM := Lib.hid hmm
      have hush := hu.shape
      rw [mkR_len] at hush
      obtain ⟨aU, cU, rfl, _, _⟩ := hush
      have hk2 : (0 : Int) ≤ (j : Int) := by omega
      have hk3 : (j : Int) < (L.length : Int) := by omega
      have hn : ((k + s : Int) + 1 + (m : Int) < 0) = False := by simp; omega
      have HC := Lib.hid (l_heldIntSS (.slice aU ll.length cU) ll (k + s + 1) w HU.out (by omega) (by rw [← hmm]; omega))
      rw [← hmm] at HC
      rw [← hs]
      clear hu hm hs hs2 hmm
      go_wp2_with fail
      refine HC.out.mono ?_; rintro e wz ⟨rfl, rfl⟩
      go_wp2
      go_round
      case rel => exact ⟨j + 1, by omega, by go_num, by rw [← HS2.out]; congr 1; omega⟩
      case measure => simp [intOf]; omega
    · have hj' : j = L.length := by omega
      have HQ := Lib.hid (show k + (szX (L.take j) : Int) = k + szX L by rw [hj', List.take_length])
      clear hj'
      go_wp2
      go_ret
      exact ⟨ret_int HQ.out, rfl⟩

/-- the marks are laid -/
def MarkXs (P : Nat → Prop) (v : Value) (L : List Sp) (k : Int) (w : World) (e : Ending) (w' : World) : Prop :=
  e = .returned (.int .i64 (k + szX L)) ∧ OwnX P w' v (mkX k L) ∧ Chg P w w'
set_option maxRecDepth 100000 in
set_option maxHeartbeats 2000000 in
theorem l_markSpaceS (P : Nat → Prop) (v : Value) (L : List Sp) (k : Int) (w : World) (hv : OwnX P w v L) (hk0 : 0 ≤ k) (hk1 : k + szX L ≤ 4611686018427387904) :
    Calls Try.prog 7 #[v, .int .i64 k] w (MarkXs P v L k w) := by
  obtain ⟨a, cap, rfl, hlc, hcm⟩ := hv.shape
  have HV := Lib.hid hv
  clear hv
  go_enter Try.func7, Try.ntmps7
  go_wp2
  go_loopw [1, 5] (fun kk i wr => ∃ j : Nat, j ≤ L.length ∧ i = .int .i64 j ∧ kk = .int .i64 (k + szX (L.take j)) ∧ OwnX P wr (.slice a L.length cap) (mkX k (L.take j) ++ L.drop j) ∧ Chg P w wr) (fun _ i _ => L.length - (intOf i).toNat)
  case atStart => exact ⟨0, Nat.zero_le _, rfl, by simp [szX], by simpa [mkX] using HV.out, Chg.refl _ _⟩
  case round =>
    obtain ⟨j, hj, rfl, rfl, ho, hch⟩ := hrel
    have HCH := Lib.hid hch
    clear hch
    by_cases hlt : j < L.length
    · have hlen : j < (mkX k (L.take j) ++ L.drop j).length := by rw [List.length_append, mkX_len, List.length_take, List.length_drop]; omega
      obtain ⟨g, u, vs, rfl, hPg, hgs, ⟨x0, hc0⟩, hf0, hc1, hu, hd, hPv, hu1, hset⟩ := ho.open_ hlen
      rw [mkX_at hlt] at hu hu1
      have hst := szX_take hlt
      have hle := szX_le (L := L) (j + 1)
      have hstep := mkX_step (k := k) hlt
      obtain ⟨ll, hll⟩ : ∃ ll, ll = (L.getD j (0, [])).2 := ⟨_, rfl⟩
      obtain ⟨s, hs⟩ : ∃ s, s = szX (L.take j) := ⟨_, rfl⟩
      obtain ⟨s2, hs2⟩ : ∃ s2, s2 = szX (L.take (j + 1)) := ⟨_, rfl⟩
      rw [← hs2] at hst hle
      rw [← hs] at hst hstep
      rw [← hll] at hst hstep hu hu1
      obtain ⟨m, hmm⟩ : ∃ m, m = szR ll := ⟨_, rfl⟩
      rw [← hmm] at hst
      have HS2 := Lib.hid hs2; have HSTEP := Lib.hid hstep; have HSET := Lib.hid hset; have HPV := Lib.hid hPv; have HPG := Lib.hid hPg
      have hu2 := hu1 (.int .i64 (k + s))
      obtain ⟨aU, cU, rfl, _, _⟩ := hu.shape
      have hc1' : (wr.setCell ⟨g, j * 2, none⟩ (.int .i64 (k + s))).cell? ⟨g, j * 2 + 1, none⟩ = some (.slice aU ll.length cU) := (World.cell?_setCell_other _ _ _ _ (fun e => by have := congrArg Addr.off e; simp only at this; omega)).trans hc1
      have hk2 : (0 : Int) ≤ (j : Int) := by omega
      have hk3 : (j : Int) < (L.length : Int) := by omega
      have HC := Lib.hid (l_markIntSS (.slice aU ll.length cU) vs ll (k + s + 1) _ hu2 hd (by omega) (by rw [← hmm]; omega))
      have HMM := Lib.hid hmm
      rw [← hs]
      clear hu hu1 hu2 hll hs hs2 ho hset hlen hstep hPv hPg hd hmm
      go_wp2_with fail
      refine HC.out.mono ?_; rintro e w2 ⟨rfl, hm2, hch2⟩
      have HO2 := HSET.out (k + s) (mkR (k + s + 1) ll) w2 hch2 hm2
      rw [HSTEP.out] at HO2
      have HO2 := Lib.hid HO2
      have HC2 := Lib.hid ((HCH.out.setCell (p := ⟨g, j * 2, none⟩) HPG.out (.int .i64 (k + s))).trans (hch2.mono fun q _ ⟨y, hy, hq⟩ => HPV.out y hy q hq))
      rw [← HMM.out]
      clear hm2 hch2 hc1' hc1 hc0
      go_wp2
      go_roundw
      case rel => exact ⟨j + 1, by omega, by go_num, by rw [← HS2.out]; congr 1; omega, HO2.out, HC2.out⟩
      case measure => simp [intOf]; omega
    · have hj' : j = L.length := by omega
      have HQ := Lib.hid (show k + (szX (L.take j) : Int) = k + szX L by rw [hj', List.take_length])
      have HO := Lib.hid (show OwnX P wr (.slice a L.length cap) (mkX k L) by have h := ho; rw [hj', List.take_length, List.drop_length, List.append_nil] at h; exact h)
      clear hj' ho
      go_wp2
      go_ret
      exact ⟨ret_int HQ.out, HO.out, HCH.out⟩

set_option maxRecDepth 100000 in
set_option maxHeartbeats 2000000 in
theorem l_eqSpaceS (B B2 : Nat) (va vb : Value) (L : List Sp) (w : World) (ha : OwnS w B va L) (hb : OwnS w B2 vb L) (hsm : L.length ≤ 1099511627776) :
    Calls Try.prog 6 #[va, vb] w (BoolAnsB true w) := by
  obtain ⟨a, cap, rfl, hlc, hcm⟩ := ha.shape
  obtain ⟨b, cap', rfl, hlc', hcm'⟩ := hb.shape
  have HA := Lib.hid ha; have HB := Lib.hid hb
  have hnb : ((L.length : Int) != (L.length : Int)) = false := by simp
  clear ha hb
  go_enter Try.func6, Try.ntmps6
  go_wp2
  go_loopw [5] (fun i wr => ∃ k : Nat, k ≤ L.length ∧ i = .int .i64 k ∧ Below w.heap.size w wr) (fun i _ => L.length - (intOf i).toNat)
  case atStart => exact ⟨0, Nat.zero_le _, rfl, Below.refl _ _⟩
  case round =>
    obtain ⟨k, hk, rfl, hbel⟩ := hrel
    have HBel := Lib.hid hbel
    by_cases hlt : k < L.length
    · obtain ⟨g, x, rfl, _, hgs, hc0, hc1, hx⟩ := (HA.out.below hbel).cell hlt
      obtain ⟨g', y, rfl, _, hgs', hd0, hd1, hy⟩ := (HB.out.below hbel).cell hlt
      obtain ⟨st, hst⟩ : ∃ st, st = (L.getD k (0, [])).1 := ⟨_, rfl⟩
      obtain ⟨ar, har⟩ : ∃ ar, ar = (L.getD k (0, [])).2 := ⟨_, rfl⟩
      rw [← hst] at hc0 hd0
      rw [← har] at hx hy
      have hx : IntsS _ _ _ := hx.mono (Nat.zero_le _)
      have hy : IntsS _ _ _ := hy.mono (Nat.zero_le _)
      obtain ⟨aX, cX, rfl, _, _⟩ := hx.shape
      obtain ⟨aY, cY, rfl, _, _⟩ := hy.shape
      have HX := Lib.hid hx; have HY := Lib.hid hy
      have hk0 : (0 : Int) ≤ (k : Int) := by omega
      have hk1 : (k : Int) < (L.length : Int) := by omega
      clear hx hy hst har hbel
      go_wp2
      go_region_held3 (fun w' => (w'.cell? ⟨g, k * 2, none⟩ = some (.int .i64 st) ∧ w'.cell? ⟨g, k * 2 + 1, none⟩ = some (.slice aX ar.length cX)) ∧ w'.cell? ⟨g', k * 2, none⟩ = some (.int .i64 st) ∧ w'.cell? ⟨g', k * 2 + 1, none⟩ = some (.slice aY ar.length cY))
        (first
          | exact ⟨⟨hc0, hc1⟩, hd0, hd1⟩
          | exact ⟨⟨(b1.cell (p := ⟨g, k * 2, none⟩) hgs).trans hc0, (b1.cell (p := ⟨g, k * 2 + 1, none⟩) hgs).trans hc1⟩, (b1.cell (p := ⟨g', k * 2, none⟩) hgs').trans hd0, (b1.cell (p := ⟨g', k * 2 + 1, none⟩) hgs').trans hd1⟩)
        (first
          | (go_at_call 14; (with_reducible refine (l_eqSpace st st _ _ ar ar _ (IntsS.drew HX.out) (IntsS.drew HY.out)).mono ?_); rintro e w1 ⟨rfl, b1⟩; rw [eqSp_refl]))
      have HB1 := Lib.hid (HBel.out.trans ((below_of_drew b1).mono HBel.out.size))
      clear b1 hc0 hc1 hd0 hd1
      go_wp2
      go_roundw
      case rel => exact ⟨k + 1, by omega, by go_num, HB1.out⟩
      case measure => simp [intOf]; omega
    · clear hbel
      go_wp2
      go_ret
      exact ⟨rfl, HBel.out⟩
end Go.Proofs.Ytjcgommdeplbbaa
