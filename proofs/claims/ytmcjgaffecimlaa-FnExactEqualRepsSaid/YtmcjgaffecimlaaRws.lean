/- Slices of slices of integers: what reads as a list of lists; append of one row. Rows and columns of a matrix. -/
import Derived.Test.YtmcjgaffecimlaaVecOps
import Derived.Test.YtmcjgaffecimlaaMB
import Derived.Test.YtmcjgaffecimlaaMatL
import Derived.Maps.AppendAt
namespace Go.Proofs.Ytmcjgaffecimlaa
open Go.RowKit
set_option linter.unusedVariables false
set_option linter.unusedSimpArgs false

theorem infoRow : (Try.prog.info? 22).map (fun i => (i.zero, i.size, i.bytes)) = some (some (.slice none 0 0), 1, 24) := by kernel_rfl

/-- all the values read as the lists, in blocks from B on -/
def arR (B : Nat) (w : World) : List Value → List (List Int) → Prop
  | [], [] => True
  | v :: vs, l :: ll => Ints w v l ∧ FreshV B v ∧ arR B w vs ll
  | _, _ => False
theorem arR.len {B : Nat} {w : World} : ∀ {vs : List Value} {ll : List (List Int)}, arR B w vs ll → vs.length = ll.length
  | [], [], _ => rfl
  | _ :: _, _ :: _, h => by simp [arR.len h.2.2]
  | [], _ :: _, h => h.elim
  | _ :: _, [], h => h.elim
theorem arR.keep {B : Nat} {w w' : World} (hk : ∀ v l, Ints w v l → FreshV B v → Ints w' v l) : ∀ {vs : List Value} {ll : List (List Int)}, arR B w vs ll → arR B w' vs ll
  | [], [], _ => trivial
  | _ :: _, _ :: _, h => ⟨hk _ _ h.1 h.2.1, h.2.1, arR.keep hk h.2.2⟩
  | [], _ :: _, h => h.elim
  | _ :: _, [], h => h.elim
theorem arR.mono {B B' : Nat} {w : World} (hB : B' ≤ B) : ∀ {vs : List Value} {ll : List (List Int)}, arR B w vs ll → arR B' w vs ll
  | [], [], _ => trivial
  | _ :: _, _ :: _, h => ⟨h.1, h.2.1.mono hB, arR.mono hB h.2.2⟩
  | [], _ :: _, h => h.elim
  | _ :: _, [], h => h.elim
theorem arR.snoc {B : Nat} {w : World} {v : Value} {l : List Int} (hv : Ints w v l) (hf : FreshV B v) : ∀ {vs : List Value} {ll : List (List Int)}, arR B w vs ll → arR B w (vs ++ [v]) (ll ++ [l])
  | [], [], _ => ⟨hv, hf, trivial⟩
  | _ :: _, _ :: _, h => ⟨h.1, h.2.1, arR.snoc hv hf h.2.2⟩
  | [], _ :: _, h => h.elim
  | _ :: _, [], h => h.elim
theorem arR.get {B : Nat} {w : World} : ∀ {vs : List Value} {ll : List (List Int)}, arR B w vs ll → ∀ i, i < ll.length → ∃ v, vs[i]? = some v ∧ Ints w v (ll.getD i []) ∧ FreshV B v
  | [], [], _, i, hi => by simp at hi
  | v :: _, l :: _, h, 0, _ => ⟨v, rfl, h.1, h.2.1⟩
  | _ :: _, _ :: ll, h, i + 1, hi => by
    obtain ⟨v, e, h1, h2⟩ := arR.get h.2.2 i (by simpa using hi)
    exact ⟨v, by simpa using e, by simpa [List.getD] using h1, h2⟩
  | [], _ :: _, h, _, _ => h.elim
  | _ :: _, [], h, _, _ => h.elim

/-- The slice value v reads as the rows ll, all of it in blocks from B on. -/
def Rws (B : Nat) (w : World) (v : Value) (ll : List (List Int)) : Prop :=
  ∃ a cap, v = .slice a ll.length cap ∧ ll.length ≤ cap ∧ cap ≤ maxLen ∧
    (ll = [] ∨ ∃ g off cur, a = some ⟨g, off, none⟩ ∧ B ≤ g ∧ w.heap[g]? = some (.cells cur 22 (0, 0)) ∧ off + ll.length ≤ cur.size ∧ arR B w ((cur.toList.drop off).take ll.length) ll)
theorem Rws.nil (B : Nat) (w : World) : Rws B w (.slice none 0 0) [] := ⟨none, 0, rfl, Nat.le_refl _, by decide, .inl rfl⟩
theorem Rws.shape {B : Nat} {w : World} {v : Value} {ll : List (List Int)} (h : Rws B w v ll) : ∃ a cap, v = .slice a ll.length cap ∧ ll.length ≤ cap ∧ cap ≤ 9223372036854775807 := by
  obtain ⟨a, cap, rfl, h1, h2, _⟩ := h
  exact ⟨a, cap, rfl, h1, by simpa [maxLen] using h2⟩
theorem Rws.below {B : Nat} {w w' : World} {v : Value} {ll : List (List Int)} (h : Rws B w v ll) (b : Below w.heap.size w w') : Rws B w' v ll := by
  obtain ⟨a, cap, rfl, h1, h2, rfl | ⟨g, off, cur, rfl, hB, hg, hs, hr⟩⟩ := h
  · exact ⟨_, cap, rfl, h1, h2, .inl rfl⟩
  · exact ⟨_, cap, rfl, h1, h2, .inr ⟨g, off, cur, rfl, hB, by rw [b.block g (Array.getElem?_eq_some_iff.1 hg).1]; exact hg, hs, hr.keep fun _ _ hv _ => hv.below b⟩⟩
theorem Rws.mono {B B' : Nat} {w : World} {v : Value} {ll : List (List Int)} (h : Rws B w v ll) (hB : B' ≤ B) : Rws B' w v ll := by
  obtain ⟨a, cap, rfl, h1, h2, rfl | ⟨g, off, cur, rfl, hB2, hg, hs, hr⟩⟩ := h
  · exact ⟨_, cap, rfl, h1, h2, .inl rfl⟩
  · exact ⟨_, cap, rfl, h1, h2, .inr ⟨g, off, cur, rfl, Nat.le_trans hB hB2, hg, hs, hr.mono hB⟩⟩
/-- one row, in the walk's words -/
theorem Rws.cell {B : Nat} {w : World} {a : Option Addr} {n cap : Nat} {ll : List (List Int)} (h : Rws B w (.slice a n cap) ll) {i : Nat} (hi : i < ll.length) :
    ∃ g off v, a = some ⟨g, off, none⟩ ∧ B ≤ g ∧ g < w.heap.size ∧ w.cell? ⟨g, off + i, none⟩ = some v ∧ Ints w v (ll.getD i []) ∧ FreshV B v := by
  obtain ⟨a', cap', e, h1, h2, h3⟩ := h
  simp only [Value.slice.injEq] at e
  obtain ⟨rfl, rfl, rfl⟩ := e
  rcases h3 with rfl | ⟨g, off, cur, rfl, hB, hg, hs, hr⟩
  · simp at hi
  · obtain ⟨v, e, h4, h5⟩ := hr.get i hi
    refine ⟨g, off, v, rfl, hB, (Array.getElem?_eq_some_iff.1 hg).1, ?_, h4, h5⟩
    rw [cell_of_row w g _ cur _ _ hg, ← e, List.getElem?_take, if_pos hi, List.getElem?_drop, Array.getElem?_toList]

/-- a row of rows that the call owns -/
def OwnR (w : World) (B : Nat) (v : Value) (ll : List (List Int)) : Prop := ∃ vs, w.ownsRow B 22 1 v ll.length vs ∧ arR B w vs ll
theorem OwnR.nil (w : World) (B : Nat) : OwnR w B (.slice none 0 0) [] := ⟨[], World.ownsRow_nil w B _ 1, trivial⟩
theorem OwnR.below {w w' : World} {B : Nat} {v : Value} {ll : List (List Int)} (h : OwnR w B v ll) (b : Below w.heap.size w w') : OwnR w' B v ll := by
  obtain ⟨vs, h1, h2⟩ := h
  refine ⟨vs, World.ownsRow.kept h1 (row := none) ⟨b.os, b.tape, b.output, b.size, fun i hi _ => b.block i hi⟩ ?_, h2.keep fun _ _ hv _ => hv.below b⟩
  cases v.ownBlock <;> simp
theorem OwnR.rws {w : World} {B : Nat} {v : Value} {ll : List (List Int)} (h : OwnR w B v ll) : Rws B w v ll := by
  obtain ⟨vs, ⟨hl, h2⟩, hr⟩ := h
  rcases h2 with ⟨rfl, h0⟩ | ⟨g, cap, cur, rfl, hb, hg, hnc, hcm, hcs, htake⟩
  · have : ll = [] := List.length_eq_zero_iff.1 h0
    subst this
    exact Rws.nil _ w
  · refine ⟨_, cap, rfl, hnc, hcm, ?_⟩
    by_cases h0 : ll = []
    · exact .inl h0
    · exact .inr ⟨g, 0, cur, rfl, hb, hg, by omega, by
        rw [List.drop_zero, show ll.length = ll.length * 1 by omega, htake]; exact hr⟩

/-- a slice of integers lies in no row of rows -/
theorem Ints.far {w : World} {B : Nat} {v : Value} {n : Nat} {xs : List Value} {u : Value} {l : List Int} (h : Ints w u l) (ho : w.ownsRow B 22 1 v n xs) : ∀ k, blk u = some k → some k ≠ v.ownBlock := by
  intro k hk e
  obtain ⟨a, cap, rfl, _, _, rfl | ⟨g, off, cur, rfl, hg, _, _⟩⟩ := h
  · cases a <;> simp [blk] at hk
  · have hgk : g = k := by
      cases l with
      | nil => simp [blk] at hk
      | cons x l => simpa [blk] using hk
    subst hgk
    rcases ho.2 with ⟨rfl, _⟩ | ⟨g', cap', cur', rfl, _, hh, _⟩
    · simp [Value.ownBlock] at e
    · have : g = g' := by simpa [Value.ownBlock] using e
      subst this
      rw [hg] at hh
      simp at hh
theorem Ints.grownR {w w' : World} {B : Nat} {v : Value} {n : Nat} {xs : List Value} {u : Value} {l : List Int} (h : Ints w u l) (ho : w.ownsRow B 22 1 v n xs) (hg : w.grownBy w' v.ownBlock) : Ints w' u l :=
  h.keep fun k hk => hg.block k (h.lt k hk) (h.far ho k hk)

/-- append of one row, which lies in the block just made -/
theorem app_row {ops : Array Oper} {rest : List Oper} {o : Oper} {a : Act} {Q : Exit → Act → World → Prop} {c : Value} (w0 w : World) (hgd : o.guard = none) (s x : Operand)
    (ho : o.op = .call { callee := .builtin .append, args := #[s, x], argTypes := #[35, 35] }) (B : Nat) (v : Value) (ll : List (List Int)) (l : List Int)
    (hs : a.eval s = v) (hx : a.eval x = .slice (some ⟨w.heap.size, 0, none⟩) 1 1) (hone : c.oneCell' = true) (hc : Ints w c l) (hf : FreshV B c) (hown : OwnR w B v ll) (hbel : Below B w0 w) (hB : B ≤ w.heap.size) (hl : ll.length + 1 ≤ 1048576)
    (hK : ∀ v' w', OwnR w' B v' (ll ++ [l]) → Below B w0 w' → B ≤ w'.heap.size → wpList Try.prog ops Q rest (a.put o.dst v') w') :
    wpList Try.prog ops Q (o :: rest) a (w.alloc (.cells #[c] 22)) := by
  obtain ⟨i, hi, h0, h1, h2⟩ := info_parts infoRow
  obtain ⟨vs, hown, hr⟩ := hown
  have hown2 := World.ownsRow.alloc hown (.cells #[c] 22)
  refine wpList_append_own _ hgd s x 35 ho B 22 i (.slice none 0 0) 1 24 Try.underlying35 hi h0 h1 h2 rfl (by decide) v ll.length vs hs hown2
    ⟨w.heap.size, 0, none⟩ 1 1 [c] hx rfl (news_cells w _ [c]) (by simpa using hone) (by unfold maxLen; omega) (by omega) (by simp; omega) ?_
  intro v' w' ho' hg _
  have hb : Below B w0 w' := (hbel.alloc hB _).grown hg (by simp; omega) (fun k hk => (World.ownsRow.lt hown k hk).1)
  have hal : Below w.heap.size w (w.alloc (.cells #[c] 22)) := (Below.refl _ w).alloc (Nat.le_refl _) _
  refine hK v' w' ⟨vs ++ [c], by simpa using ho', ?_⟩ hb ?_
  · exact (hr.keep fun _ _ h _ => (h.below hal).grownR hown2 hg).snoc ((hc.below hal).grownR hown2 hg) hf
  · have := hg.size; simp at this; omega

/-- a row of a matrix of c columns -/
def rowL (c i : Nat) (l : List Int) : List Int := (l.drop (i * c)).take c
theorem rowL_len {r c i : Nat} {l : List Int} (hl : l.length = r * c) (hi : i < r) : (rowL c i l).length = c := by
  have : (i + 1) * c ≤ r * c := Nat.mul_le_mul_right c (by omega)
  rw [Nat.add_mul] at this
  simp [rowL]; omega
theorem rowL_get {c i k : Nat} {l : List Int} (hk : k < c) : (rowL c i l).getD k 0 = l.getD (i * c + k) 0 := by
  simp [rowL, List.getD, List.getElem?_take, hk, List.getElem?_drop]

end Go.Proofs.Ytmcjgaffecimlaa
