/- Append of many rows to a row of rows that the call owns. -/
import Derived.Test.YtjcgommdeplbbaaMg3
namespace Go.Proofs.Ytjcgommdeplbbaa
open Go.RowKit
set_option linter.unusedVariables false
set_option linter.unusedSimpArgs false

theorem arR.append {B : Nat} {w : World} {us : List Value} {ls : List (List Int)} (hu : arR B w us ls) : ∀ {vs : List Value} {ll : List (List Int)}, arR B w vs ll → arR B w (vs ++ us) (ll ++ ls)
  | [], [], _ => hu
  | _ :: _, _ :: _, h => ⟨h.1, h.2.1, arR.append hu h.2.2⟩
  | [], _ :: _, h => h.elim
  | _ :: _, [], h => h.elim
theorem arR.one {B : Nat} {w : World} : ∀ {vs : List Value} {ll : List (List Int)}, arR B w vs ll → ∀ u ∈ vs, u.oneCell' = true
  | [], [], _, _, hu => by simp at hu
  | v :: vs, l :: ll, h, u, hu => by
    rcases List.mem_cons.1 hu with rfl | hu
    · obtain ⟨a, cap, rfl, _, _⟩ := h.1.shape
      rfl
    · exact arR.one h.2.2 u hu
  | [], _ :: _, h, _, _ => h.elim
  | _ :: _, [], h, _, _ => h.elim

theorem OwnR.mono {w : World} {B B' : Nat} {v : Value} {ll : List (List Int)} (h : OwnR w B v ll) (hB : B' ≤ B) : OwnR w B' v ll := by
  obtain ⟨vs, ⟨hl, h2⟩, hr⟩ := h
  refine ⟨vs, ⟨hl, ?_⟩, hr.mono hB⟩
  rcases h2 with h | ⟨g, cap, cur, e, hb, rest⟩
  · exact .inl h
  · exact .inr ⟨g, cap, cur, e, Nat.le_trans hB hb, rest⟩

theorem run_app_rows (ty : TypeId) (B : Nat) (v vx : Value) (ll ls : List (List Int)) (w : World) (hown : OwnR w B v ll) (hx : Rws B w vx ls) (hB : B ≤ w.heap.size) (hl : ll.length + ls.length ≤ 1048576) :
    ∃ v' w', (Builtin.append_ #[31, 31] ty #[v, vx]).run Try.prog w = .ok v' w' ∧ OwnR w' B v' (ll ++ ls) ∧ w.grownBy w' v.ownBlock := by
  obtain ⟨i, hi, h0, h1, h2⟩ := info_parts infoRow
  have ht := Try.underlying31
  obtain ⟨vs, hown, hr⟩ := hown
  obtain ⟨a, cap, rfl, hlc, hcm, hcells⟩ := hx
  have hnil : ∀ a, ls = [] → (a = none → ∃ v' w', (Builtin.append_ #[31, 31] ty #[v, .slice a ls.length cap]).run Try.prog w = .ok v' w' ∧ OwnR w' B v' (ll ++ ls) ∧ w.grownBy w' v.ownBlock) := by
    intro a hne ha
    subst hne; subst ha
    refine ⟨v, w, ?_, ⟨vs, by simpa using hown, by simpa using hr⟩, World.grownBy.refl w _⟩
    rcases hown.2 with ⟨rfl, _⟩ | ⟨g, cap', cur, rfl, _, _, hnc, _⟩
    · simp [Builtin.append_, run_underlying ht, sizeOf, typeInfo, hi, Builtin.lenOf, Builtin.firstCells]
    · simp [Builtin.append_, run_underlying ht, sizeOf, typeInfo, hi, Builtin.lenOf, Builtin.firstCells, hnc, storeCells]
  cases a with
  | none =>
    rcases hcells with h | ⟨_, _, _, h, _⟩
    · exact hnil none h rfl
    · cases h
  | some ad =>
    obtain ⟨us, hus⟩ : ∃ us, (ls = [] ∧ us = []) ∨ (∃ g off cur, ad = ⟨g, off, none⟩ ∧ w.heap[g]? = some (.cells cur 37 (0, 0)) ∧ us = (cur.toList.drop off).take ls.length ∧ arR B w us ls) := by
      rcases hcells with h | ⟨g, off, cur, e, _, hg, _, hr2⟩
      · exact ⟨[], .inl ⟨h, rfl⟩⟩
      · exact ⟨_, .inr ⟨g, off, cur, by simpa using e, hg, rfl, hr2⟩⟩
    have har : arR B w us ls := by
      rcases hus with ⟨rfl, rfl⟩ | ⟨_, _, _, _, _, _, h⟩
      · trivial
      · exact h
    have hulen := har.len
    obtain ⟨v', w', hrun, h3, h4, _, h5⟩ := run_append_own_at (P := Try.prog) w B 31 ty 37 i (.slice none 0 0) 1 24 ht hi h0 h1 h2 rfl (by decide) v ll.length vs hown
      ad ls.length cap us (by omega) (fun j u hj => by
        rcases hus with ⟨rfl, rfl⟩ | ⟨g, off, cur, rfl, hg, hu2, _⟩
        · simp at hj
        · have hadd : (⟨g, off, none⟩ : Addr).add j = ⟨g, off + j, none⟩ := by unfold Addr.add; split <;> simp_all
          have hjl : j < us.length := (List.getElem?_eq_some_iff.1 hj).1
          rw [hadd, cell_of_row w g _ cur _ _ hg, ← hj, hu2, List.getElem?_take, if_pos (by omega), List.getElem?_drop, Array.getElem?_toList]) har.one (by unfold maxLen; omega) (by omega) hB
    refine ⟨v', w', hrun, ⟨vs ++ us, by simpa using h3, ?_⟩, h4⟩
    exact (har.keep fun _ _ h _ => h.grownR hown h4).append (hr.keep fun _ _ h _ => h.grownR hown h4)

/-- in a region that draws -/
theorem step_app_rows {ops : Array Oper} {o : Oper} {a : Act} {K : Act → World → Prop} {Q : Exit → Act → World → Prop} {E : Prop} (w0 w : World) (hgd : o.guard = none) (s x : Operand)
    (ho : o.op = .call { callee := .builtin .append, args := #[s, x], argTypes := #[31, 31] }) (v vx : Value) (ll ls : List (List Int))
    (hs : a.eval s = v) (hx : a.eval x = vx) (hsrc : Rws w0.heap.size w vx ls) (hown : OwnR w w0.heap.size v ll) (hbel : Below w0.heap.size w0 w) (hl : ll.length + ls.length ≤ 1048576)
    (hK : ∀ v' w', OwnR w' w0.heap.size v' (ll ++ ls) → Below w0.heap.size w0 w' → K (a.put o.dst v') w') :
    if Region.wanted o (yielded ops a.tmps) = true then Oper.wp Try.prog o a w K Q else E := by
  have hw : Region.wanted o (yielded ops a.tmps) = true := by simp [Region.wanted, hgd]
  rw [if_pos hw]
  obtain ⟨v', w', hrun, h1, h2⟩ := run_app_rows o.type w0.heap.size v vx ll ls w hown hsrc hbel.size hl
  unfold Oper.wp
  simp [execOp, ho, resolve, invoke, builtin, hs, hx, hrun, Result.andThen]
  obtain ⟨vs, hown2, _⟩ := hown
  exact hK v' w' h1 (hbel.grown h2 hbel.size (fun k hk => (World.ownsRow.lt hown2 k hk).1))

end Go.Proofs.Ytjcgommdeplbbaa
