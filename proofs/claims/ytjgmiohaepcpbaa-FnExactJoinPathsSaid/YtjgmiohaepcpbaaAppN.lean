/- append to a new empty slice: what is appended lies in a new block. -/
import Derived.Test.YtjgmiohaepcpbaaMB
import Derived.Deep.RegionLawGrows
namespace Go.Proofs.Ytjgmiohaepcpbaa
open Go.RowKit
set_option linter.unusedVariables false
set_option linter.unusedSimpArgs false

theorem run_app_new (ty : TypeId) (g : Nat) (vx : Value) (lx : List Int) (w : World) (hx : Ints w vx lx) (hl : lx.length ≤ 17592186044416) :
    ∃ v' w', (Builtin.append_ #[22, 22] ty #[.slice (some ⟨g, 0, none⟩) 0 0, vx]).run Try.prog w = .ok v' w' ∧ Ints w' v' lx ∧ FreshV w.heap.size v' ∧ Below w.heap.size w w' := by
  obtain ⟨i, hi, h0, h1, h2⟩ := info_parts infoInt
  have ht := Try.underlying22
  obtain ⟨a, cap, rfl, hlc, hcm, hcells⟩ := hx
  by_cases hne : lx = []
  · subst hne
    refine ⟨.slice (some ⟨g, 0, none⟩) 0 0, w, ?_, ⟨_, 0, rfl, Nat.le_refl _, by decide, .inl rfl⟩, fun k hk => by simp [blk] at hk, Below.refl _ _⟩
    cases a with
    | none => simp [Builtin.append_, run_underlying ht, sizeOf, typeInfo, hi, Builtin.lenOf, Builtin.firstCells, storeCells]
    | some ad => simp [Builtin.append_, run_underlying ht, sizeOf, typeInfo, hi, Builtin.lenOf, Builtin.firstCells, storeCells, loadCells, loadCellsFrom]
  · rcases hcells with h | ⟨g', off, cur, rfl, hg, hs, hc⟩
    · exact absurd h hne
    · have hadd : ∀ j, (⟨g', off, none⟩ : Addr).add j = ⟨g', off + j, none⟩ := fun j => by unfold Addr.add; split <;> simp_all
      obtain ⟨v', w', hrun, r1, r2⟩ := run_append_arg_grows (P := Try.prog) w 22 ty 3 i (.int .i64 0) 1 8 ht hi h0 h1 h2 rfl (by decide) ⟨g, 0, none⟩ 0 0 [] rfl (fun j u h => by simp at h)
        ⟨g', off, none⟩ lx.length cap (lx.map (Value.int .i64)) (by simp) (fun j u hj => by
          have hjl : j < lx.length := by
            rcases Nat.lt_or_ge j lx.length with h | h
            · exact h
            · rw [List.getElem?_eq_none (show (lx.map (Value.int .i64)).length ≤ j by simpa using h)] at hj; cases hj
          rw [hadd, cell_of_row w g' _ cur _ _ hg, hc j hjl, ← hj]
          simp [List.getD, hjl]) (by have : 0 < lx.length := List.length_pos_iff.2 hne; omega) (by unfold maxLen; omega) (by omega)
      have hq := Ints.of_own (show Own w' w.heap.size 3 .i64 v' lx by unfold Own; simpa using r1)
      exact ⟨v', w', hrun, hq.1, hq.2, (Below.refl _ w).grown r2 (Nat.le_refl _) (fun k hk => by cases hk)⟩

/-- inside a region that draws its order -/
theorem step_app_new {ops : Array Oper} {o : Oper} {a : Act} {K : Act → World → Prop} {Q : Exit → Act → World → Prop} {E : Prop} (w : World) (hgd : o.guard = none) (s x : Operand)
    (ho : o.op = .call { callee := .builtin .append, args := #[s, x], argTypes := #[22, 22] }) (g : Nat) (vx : Value) (lx : List Int)
    (hs : a.eval s = .slice (some ⟨g, 0, none⟩) 0 0) (hx : a.eval x = vx) (hsrc : Ints w vx lx) (hl : lx.length ≤ 17592186044416)
    (hK : ∀ v' w', Ints w' v' lx → FreshV w.heap.size v' → Below w.heap.size w w' → K (a.put o.dst v') w') :
    if Region.wanted o (yielded ops a.tmps) = true then Oper.wp Try.prog o a w K Q else E := by
  have hw : Region.wanted o (yielded ops a.tmps) = true := by simp [Region.wanted, hgd]
  rw [if_pos hw]
  obtain ⟨v', w', hrun, h1, h2, h3⟩ := run_app_new o.type g vx lx w hsrc hl
  unfold Oper.wp
  simp [execOp, ho, resolve, invoke, builtin, hs, hx, hrun, Result.andThen]
  exact hK v' w' h1 h2 h3
/-- in a plain region -/
theorem app_new {ops : Array Oper} {rest : List Oper} {o : Oper} {a : Act} {Q : Exit → Act → World → Prop} (w : World) (hgd : o.guard = none) (s x : Operand)
    (ho : o.op = .call { callee := .builtin .append, args := #[s, x], argTypes := #[22, 22] }) (g : Nat) (vx : Value) (lx : List Int)
    (hs : a.eval s = .slice (some ⟨g, 0, none⟩) 0 0) (hx : a.eval x = vx) (hsrc : Ints w vx lx) (hl : lx.length ≤ 17592186044416)
    (hK : ∀ v' w', Ints w' v' lx → FreshV w.heap.size v' → Below w.heap.size w w' → wpList Try.prog ops Q rest (a.put o.dst v') w') :
    wpList Try.prog ops Q (o :: rest) a w :=
  wpList_plain hgd fun _ hK' => by
    obtain ⟨v', w', hrun, h1, h2, h3⟩ := run_app_new o.type g vx lx w hsrc hl
    unfold Oper.wp execOp
    simp only [ho, resolve, invoke, builtin, Sem.run_bind, Sem.run_pure, Result.andThen_ok, List.map_toArray, List.map_cons, List.map_nil, hs, hx, hrun]
    exact hK' _ _ (hK v' w' h1 h2 h3)

end Go.Proofs.Ytjgmiohaepcpbaa
