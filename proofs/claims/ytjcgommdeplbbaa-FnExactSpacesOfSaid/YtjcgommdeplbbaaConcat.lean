/- slices.Grow at nil and slices.Concat, at integers. -/
import Derived.Test.YtjcgommdeplbbaaMg3
import Derived.Lib.AppendZerosOnto
import Derived.Deep.RegionHeld3
namespace Go.Proofs.Ytjcgommdeplbbaa
open Go.RowKit
set_option linter.unusedVariables false
set_option linter.unusedSimpArgs false

/-- append of any slice that reads as ls to one that the call owns -/
theorem run_app_any (ty : TypeId) (B : Nat) (v vx : Value) (l ls : List Int) (w : World) (hown : Own w B 3 .i64 v l) (hx : Ints w vx ls) (hB : B ≤ w.heap.size) (hl : l.length + ls.length ≤ 17592186044416) :
    ∃ v' w', (Builtin.append_ #[37, 37] ty #[v, vx]).run Try.prog w = .ok v' w' ∧ Own w' B 3 .i64 v' (l ++ ls) ∧ w.grownBy w' v.ownBlock ∧ (v'.ownBlock = v.ownBlock ∨ v'.ownBlock = some w.heap.size) := by
  obtain ⟨i, hi, h0, h1, h2⟩ := info_parts infoInt
  have ht := Try.underlying37
  obtain ⟨a, cap, rfl, hlc, hcm, hcells⟩ := hx
  cases a with
  | none =>
    have hne : ls = [] := by
      rcases hcells with h | ⟨_, _, _, h, _⟩
      · exact h
      · cases h
    subst hne
    refine ⟨v, w, ?_, by simpa using hown, World.grownBy.refl w _, .inl rfl⟩
    rcases hown.2 with ⟨rfl, _⟩ | ⟨g, cap', cur, rfl, _, _, hnc, _⟩
    · simp [Builtin.append_, run_underlying ht, sizeOf, typeInfo, hi, Builtin.lenOf, Builtin.firstCells]
    · simp [Builtin.append_, run_underlying ht, sizeOf, typeInfo, hi, Builtin.lenOf, Builtin.firstCells, hnc, storeCells]
  | some ad =>
    obtain ⟨v', w', hrun, h3, h4, _, h5⟩ := run_append_own_at (P := Try.prog) w B 37 ty 3 i (.int .i64 0) 1 8 ht hi h0 h1 h2 rfl (by decide) v l.length (l.map (Value.int .i64)) hown
      ad ls.length cap (ls.map (Value.int .i64)) (by simp) (fun j u hj => by
        have hjl : j < ls.length := by
          rcases Nat.lt_or_ge j ls.length with h | h
          · exact h
          · rw [List.getElem?_eq_none (show (ls.map (Value.int .i64)).length ≤ j by simpa using h)] at hj; cases hj
        rcases hcells with h | ⟨g', off, cur, e, hg, hs, hc⟩
        · subst h; simp at hjl
        · simp only [Option.some.injEq] at e
          subst e
          have hadd : (⟨g', off, none⟩ : Addr).add j = ⟨g', off + j, none⟩ := by unfold Addr.add; split <;> simp_all
          rw [hadd, cell_of_row w g' _ cur _ _ hg, hc j hjl, ← hj]
          simp [List.getD, hjl]) (ints_oneCell _ _) (by unfold maxLen; omega) (by omega) hB
    exact ⟨v', w', hrun, by unfold Own; simpa using h3, h4, h5⟩
/-- in a plain region -/
theorem app_any {ops : Array Oper} {rest : List Oper} {o : Oper} {a : Act} {Q : Exit → Act → World → Prop} (w0 w : World) (hgd : o.guard = none) (s x : Operand)
    (ho : o.op = .call { callee := .builtin .append, args := #[s, x], argTypes := #[37, 37] }) (B : Nat) (v vx : Value) (l ls : List Int)
    (hs : a.eval s = v) (hx : a.eval x = vx) (hsrc : Ints w vx ls) (hown : Own w B 3 .i64 v l) (hbel : Below B w0 w) (hB : B ≤ w.heap.size) (hl : l.length + ls.length ≤ 17592186044416)
    (hK : ∀ v' w', Own w' B 3 .i64 v' (l ++ ls) → Below B w0 w' → B ≤ w'.heap.size → wpList Try.prog ops Q rest (a.put o.dst v') w') :
    wpList Try.prog ops Q (o :: rest) a w :=
  wpList_plain hgd fun _ hK' => by
    obtain ⟨v', w', hrun, h1, h2, _⟩ := run_app_any o.type B v vx l ls w hown hsrc hB hl
    unfold Oper.wp execOp
    simp only [ho, resolve, invoke, builtin, Sem.run_bind, Sem.run_pure, Result.andThen_ok, List.map_toArray, List.map_cons, List.map_nil, hs, hx, hrun]
    exact hK' _ _ (hK v' w' h1 (hbel.grown h2 hB (fun k hk => (World.ownsRow.lt hown k hk).1)) (Nat.le_trans hB h2.size))


theorem flat_succ {ll : List (List Int)} {k : Nat} (h : k < ll.length) : (ll.take (k + 1)).flatten = (ll.take k).flatten ++ ll.getD k [] := by
  rw [List.take_succ_eq_append_getElem h, List.flatten_append]
  simp [List.getD, h]
theorem flat_le (ll : List (List Int)) (k : Nat) : (ll.take k).flatten.length ≤ ll.flatten.length := by
  have h : ll.flatten = (ll.take k).flatten ++ (ll.drop k).flatten := by rw [← List.flatten_append, List.take_append_drop]
  rw [h, List.length_append]; omega


end Go.Proofs.Ytjcgommdeplbbaa
