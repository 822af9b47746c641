/- Slices of slices of integers that came in; the laws' own helpers on them (size, copy, comparison). -/
import Derived.Test.YtjcgommdeplbbaaMg3
import Derived.Test.YtjcgommdeplbbaaMg2
import Derived.Test.YtjcgommdeplbbaaEqual
import Derived.Deep.RegionHeld3
namespace Go.Proofs.Ytjcgommdeplbbaa
open Go.RowKit
set_option linter.unusedVariables false
set_option linter.unusedSimpArgs false

/-- a slice of slices that came in: it can be read -/
def RawS (w : World) (v : Value) (ll : List (List Int)) : Prop :=
  ∃ a cap, v = .slice a ll.length cap ∧ ll.length ≤ cap ∧ cap ≤ 9223372036854775807 ∧
    (ll = [] ∨ ∃ b off, a = some ⟨b, off, none⟩ ∧ b < w.heap.size ∧ ∀ i, i < ll.length → ∃ u, w.cell? ⟨b, off + i, none⟩ = some u ∧ Raw w u (ll.getD i []))
theorem RawS.shape {w : World} {v : Value} {ll : List (List Int)} (h : RawS w v ll) : ∃ a cap, v = .slice a ll.length cap ∧ ll.length ≤ cap ∧ cap ≤ 9223372036854775807 := by
  obtain ⟨a, cap, rfl, h1, h2, _⟩ := h; exact ⟨a, cap, rfl, h1, h2⟩
theorem RawS.below {w w' : World} {v : Value} {ll : List (List Int)} (h : RawS w v ll) (b : Below w.heap.size w w') : RawS w' v ll := by
  obtain ⟨a, cap, rfl, h1, h2, h3 | ⟨g, off, rfl, hb, hc⟩⟩ := h
  · exact ⟨a, cap, rfl, h1, h2, .inl h3⟩
  · refine ⟨_, cap, rfl, h1, h2, .inr ⟨g, off, rfl, Nat.lt_of_lt_of_le hb b.size, fun i hi => ?_⟩⟩
    obtain ⟨u, hu, hr⟩ := hc i hi
    exact ⟨u, by rw [b.cell (p := ⟨g, off + i, none⟩) hb]; exact hu, hr.below b⟩
theorem RawS.drew {w : World} {v : Value} {ll : List (List Int)} (h : RawS w v ll) : RawS w.drew v ll := h
theorem RawS.cell {w : World} {a : Option Addr} {n cap : Nat} {ll : List (List Int)} (h : RawS w (.slice a n cap) ll) {i : Nat} (hi : i < ll.length) :
    ∃ b off u, a = some ⟨b, off, none⟩ ∧ b < w.heap.size ∧ w.cell? ⟨b, off + i, none⟩ = some u ∧ Raw w u (ll.getD i []) := by
  obtain ⟨a', cap', e, h1, h2, h3⟩ := h
  simp only [Value.slice.injEq] at e
  obtain ⟨rfl, rfl, rfl⟩ := e
  rcases h3 with rfl | ⟨g, off, rfl, hg, hc⟩
  · simp at hi
  · obtain ⟨u, hu, hr⟩ := hc i hi; exact ⟨g, off, u, rfl, hg, hu, hr⟩
theorem RawS.nil (w : World) : RawS w (.slice none 0 0) [] := ⟨none, 0, rfl, Nat.le_refl _, by omega, .inl rfl⟩

def BdS (ll : List (List Int)) : Prop := True
theorem RawS.mk {W : World} {base : Nat} {a : Addr} {len cap : Nat} {A : Nat → Option Addr} {L C : Nat → Nat} {Z : Nat → List Int} (hl : len ≤ cap) (hm : cap ≤ maxLen)
    (hr : ∀ r, r < cap → W.cell? (a.add r) = some (.slice (A r) (L r) (C r)) ∧ L r ≤ C r ∧ C r ≤ maxLen ∧ (Z r).length = C r ∧ (∀ n ∈ Z r, (Lit.int .i64 n).wf = true) ∧ (A r = none → C r = 0) ∧
      ∀ a', A r = some a' → base ≤ a'.block ∧ ∀ c, c < C r → W.cell? (a'.add c) = some (.int .i64 ((Z r).getD c 0))) :
    RawS W (.slice (some a) len cap) ((List.range len).map fun r => (Z r).take (L r)) := by
  have hlen : ((List.range len).map fun r => (Z r).take (L r)).length = len := by simp
  refine ⟨some a, cap, by rw [hlen], by omega, by simpa [maxLen] using hm, ?_⟩
  by_cases h0 : len = 0
  · left; simp [h0]
  · right
    obtain ⟨b, off, spot⟩ := a
    have hc0 := (hr 0 (by omega)).1
    obtain rfl : spot = none := by simpa [Addr.add] using World.cell?_spot hc0
    have hadd : ∀ i, (⟨b, off, none⟩ : Addr).add i = ⟨b, off + i, none⟩ := fun i => by unfold Addr.add; split <;> simp_all
    rw [hadd] at hc0
    refine ⟨b, off, rfl, World.block_lt_of_cell? W _ hc0, fun i hi => ?_⟩
    rw [hlen] at hi
    obtain ⟨h1, h2, h3, h4, h5, h6, h7⟩ := hr i (by omega)
    rw [hadd] at h1
    refine ⟨_, h1, ?_⟩
    have hg : ((List.range len).map fun r => (Z r).take (L r)).getD i [] = (Z i).take (L i) := by simp [List.getD, hi]
    rw [hg]
    cases hA : A i with
    | none =>
      have hC := h6 hA
      have hL : L i = 0 := by omega
      rw [hL, hC, List.take_zero]
      exact Raw.nil W
    | some a' =>
      obtain ⟨_, hcell⟩ := h7 a' hA
      exact Raw.mk h2 h3 h4 (fun c hc => hcell c (by omega))

/-- what a call made -/
def IntsS (w : World) (v : Value) (ll : List (List Int)) : Prop := Rws 0 w v ll
theorem IntsS.shape {w : World} {v : Value} {ll : List (List Int)} (h : IntsS w v ll) : ∃ a cap, v = .slice a ll.length cap ∧ ll.length ≤ cap ∧ cap ≤ 9223372036854775807 := Rws.shape h
theorem IntsS.below {w w' : World} {v : Value} {ll : List (List Int)} (h : IntsS w v ll) (b : Below w.heap.size w w') : IntsS w' v ll := Rws.below h b
theorem IntsS.cell {w : World} {a : Option Addr} {n cap : Nat} {ll : List (List Int)} (h : IntsS w (.slice a n cap) ll) {i : Nat} (hi : i < ll.length) :
    ∃ g off v, a = some ⟨g, off, none⟩ ∧ g < w.heap.size ∧ w.cell? ⟨g, off + i, none⟩ = some v ∧ Ints w v (ll.getD i []) := by
  obtain ⟨g, off, v, h1, _, h2, h3, h4, _⟩ := Rws.cell h hi; exact ⟨g, off, v, h1, h2, h3, h4⟩
theorem IntsS.lt {w : World} {v : Value} {ll : List (List Int)} (h : IntsS w v ll) : ∀ k, blk v = some k → k < w.heap.size := by
  intro k hk
  obtain ⟨a, cap, rfl, _, _, rfl | ⟨g, off, cur, rfl, _, hg, _, _⟩⟩ := h
  · cases a <;> simp [blk] at hk
  · have : g = k := by
      cases ll with
      | nil => simp [blk] at hk
      | cons x l => simpa [blk] using hk
    subst this
    exact (Array.getElem?_eq_some_iff.1 hg).1
theorem sep_newS {w : World} {u v : Value} {l : List (List Int)} (hu : IntsS w u l) (hf : FreshV w.heap.size v) : ∀ k, blk u = some k → ¬ blk v = some k :=
  fun k hk hk' => by have := hu.lt k hk; have := hf k hk'; omega
theorem sep_blk_oldS {w : World} {u : Value} {l : List (List Int)} (hu : IntsS w u l) : ¬ blk u = some w.heap.size :=
  fun h => by have := hu.lt _ h; omega
theorem Ints.setTag {w : World} {u : Value} {l : List Int} (h : Ints w u l) {b i : Nat} {cs : Array Value} {T : TypeId} {x : Value} (hb : Blk w b cs T) (hT : T ≠ 3) : Ints (w.setCell ⟨b, i, none⟩ x) u l :=
  h.keep fun k hk => heap_setCell_other w ⟨b, i, none⟩ k x (fun e => by
    obtain ⟨a, cap, rfl, _, _, rfl | ⟨g, off, cur, rfl, hg, _, _⟩⟩ := h
    · cases a <;> simp [blk] at hk
    · have hgk : g = k := by
        cases l with
        | nil => simp [blk] at hk
        | cons y l => simpa [blk] using hk
      have e' : k = b := e
      subst hgk; subst e'
      unfold Blk at hb
      rw [hg] at hb
      simp at hb
      exact hT hb.2.symm)
theorem IntsS.setTag {w : World} {v : Value} {ll : List (List Int)} (h : IntsS w v ll) {b i : Nat} {cs : Array Value} {T : TypeId} {x : Value} (hb : Blk w b cs T) (hT : T ≠ 3) (hT2 : T ≠ 37) : IntsS (w.setCell ⟨b, i, none⟩ x) v ll := by
  obtain ⟨a, cap, rfl, h1, h2, rfl | ⟨g, off, cur, rfl, hB, hg, hs, hr⟩⟩ := h
  · exact ⟨_, cap, rfl, h1, h2, .inl rfl⟩
  · refine ⟨_, cap, rfl, h1, h2, .inr ⟨g, off, cur, rfl, hB, ?_, hs, hr.keep fun u l hu _ => hu.setTag hb hT⟩⟩
    rw [heap_setCell_other w ⟨b, i, none⟩ g x (fun e => ?_)]
    · exact hg
    · have e' : g = b := e
      subst e'
      unfold Blk at hb
      rw [hg] at hb
      simp at hb
      exact hT2 hb.2.symm
def IntsNewS (l : List (List Int)) (w : World) (e : Ending) (w' : World) : Prop := ∃ v, e = .returned v ∧ IntsS w' v l ∧ FreshV w.heap.size v ∧ Below w.heap.size w w'

/-- how many values a slice of slices holds, its own headers among them -/
def szU (ll : List (List Int)) (k : Nat) : Nat := ((ll.take k).map List.length).sum
def szT (ll : List (List Int)) : Nat := ll.length + szU ll ll.length
def szII (left : Int) (ll : List (List Int)) : Int := if left < szT ll then -1 else left - szT ll
theorem szU_succ {ll : List (List Int)} {k : Nat} (h : k < ll.length) : szU ll (k + 1) = szU ll k + (ll.getD k []).length := by
  unfold szU
  rw [List.take_succ_eq_append_getElem h, List.map_append, List.sum_append, List.getD_eq_getElem?_getD, List.getElem?_eq_getElem h]; simp
theorem szU_le {ll : List (List Int)} : ∀ j k, j ≤ k → k ≤ ll.length → szU ll j ≤ szU ll k := by
  intro j k hjk hk
  induction k with
  | zero =>
    obtain rfl : j = 0 := by omega
    exact Nat.le_refl _
  | succ k ih =>
    by_cases e : j = k + 1
    · rw [e]; exact Nat.le_refl _
    · have := ih (by omega) (by omega); rw [szU_succ (show k < ll.length by omega)]; omega
theorem szT_row {ll : List (List Int)} {k : Nat} (h : k < ll.length) : (ll.getD k []).length ≤ szT ll ∧ ll.length ≤ szT ll := by
  have h1 := szU_succ h
  have h2 := szU_le (ll := ll) (k + 1) ll.length (by omega) (Nat.le_refl _)
  unfold szT; omega


/-- make of n rows -/
theorem mk_rows {ops : Array Oper} {rest : List Oper} {o : Oper} {a : Act} {Q : Exit → Act → World → Prop} (w0 w : World) (hgd : o.guard = none) (l c : Operand) (ho : o.op = Op.makeSlice 31 l c)
    (B n : Nat) (hl : a.eval l = .int .i64 n) (hc : a.eval c = .int .i64 n) (hbel : Below B w0 w) (hB : B ≤ w.heap.size) (hn : n ≤ 1048576)
    (hK : ∀ w', OwnR w' B (.slice (some ⟨w.heap.size, 0, none⟩) n n) (List.replicate n []) → Below B w0 w' → B ≤ w'.heap.size → wpList Try.prog ops Q rest (a.put o.dst (.slice (some ⟨w.heap.size, 0, none⟩) n n)) w') :
    wpList Try.prog ops Q (o :: rest) a w := by
  obtain ⟨i, hi, h0, h1, h2⟩ := info_parts infoRow
  refine wpList_make_full w hgd l c 31 ho B 37 i (.slice none 0 0) 1 Try.underlying31 hi h0 h1 .i64 .i64 n n n hl hc rfl rfl (by rw [h2]; omega) (by unfold maxLen; omega) hB ?_
  intro w' ho' hg
  refine hK w' ?_ (hbel.grown hg hB (fun k hk => by cases hk)) (by have := hg.size; omega)
  simp only [Nat.mul_one] at ho'
  rw [show (Value.slice none 0 0).cells = #[.slice none 0 0] from rfl, toList_madeCells_one] at ho'
  refine ⟨List.replicate n (.slice none 0 0), by simpa using ho', ?_⟩
  have : ∀ m, arR B w' (List.replicate m (.slice none 0 0)) (List.replicate m []) := by
    intro m
    induction m with
    | zero => trivial
    | succ m ih => exact ⟨Ints.nil w', FreshV.nil B, ih⟩
  exact this n
theorem arR.set {B : Nat} {w : World} {u : Value} {l : List Int} (hu : Ints w u l) (hf : FreshV B u) : ∀ {vs : List Value} {ll : List (List Int)} (j : Nat), arR B w vs ll → arR B w (vs.set j u) (ll.set j l)
  | [], [], _, _ => trivial
  | _ :: _, _ :: _, 0, h => ⟨hu, hf, h.2.2⟩
  | _ :: _, _ :: _, j + 1, h => ⟨h.1, h.2.1, arR.set hu hf j h.2.2⟩
  | [], _ :: _, _, h => h.elim
  | _ :: _, [], _, h => h.elim
theorem OwnR.store {w : World} {B g n c : Nat} {ll : List (List Int)} (h : OwnR w B (.slice (some ⟨g, 0, none⟩) n c) ll) (j : Nat) {u : Value} {l : List Int} (hu : Ints w u l) (hf : FreshV B u) :
    OwnR (w.setCell ⟨g, j, none⟩ u) B (.slice (some ⟨g, 0, none⟩) n c) (ll.set j l) := by
  obtain ⟨vs, ho, hr⟩ := h
  have hk : ∀ v l, Ints w v l → Ints (w.setCell ⟨g, j, none⟩ u) v l := fun v l hv => hv.keep fun k hk => heap_setCell_other w ⟨g, j, none⟩ k u (by
    have := hv.far ho k hk; simp [Value.ownBlock] at this; exact fun e => this e)
  have hl : n = ll.length := by
    rcases ho.2 with ⟨e, _⟩ | ⟨_, _, _, e, _⟩
    · cases e
    · simp only [Value.slice.injEq] at e; exact e.2.1
  subst hl
  have h2 := (World.ownsRow.stored ho j u).1
  refine ⟨vs.set j u, ?_, (hr.keep fun v l hv _ => hk v l hv).set (hk u l hu) hf j⟩
  rw [List.length_set]
  exact h2
theorem set_fillS (F : List (List Int)) (N k : Nat) (hF : F.length = N) (hk : k < N) :
    (F.take k ++ List.replicate (N - k) []).set k (F.getD k []) = F.take (k + 1) ++ List.replicate (N - (k + 1)) [] := by
  have e1 : N - k = (N - (k + 1)) + 1 := by omega
  have e2 : (F.take k).length = k := by rw [List.length_take]; omega
  have e3 : F.take (k + 1) = F.take k ++ [F.getD k []] := by
    rw [List.take_succ_eq_append_getElem (by omega)]
    congr 2
    simp [List.getD, List.getElem?_eq_getElem (show k < F.length by omega)]
  rw [e1, List.replicate_succ, List.set_append_right _ _ (by omega), e2, Nat.sub_self, List.set_cons_zero, e3, List.append_assoc]
  rfl

end Go.Proofs.Ytjcgommdeplbbaa
