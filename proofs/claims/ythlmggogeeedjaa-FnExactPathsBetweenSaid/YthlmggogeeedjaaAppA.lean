/- append of any slice of integers to one that the call owns (as in XConcat, for seats without rows of rows). -/
import Derived.Test.YthlmggogeeedjaaVecOps
import Derived.Test.YthlmggogeeedjaaMB
import Derived.Maps.AppendAt
namespace Go.Proofs.Ythlmggogeeedjaa
open Go.RowKit
set_option linter.unusedVariables false
set_option linter.unusedSimpArgs false

/-- append of any slice that reads as ls to one that the call owns -/
theorem run_app_any2 (ty : TypeId) (B : Nat) (v vx : Value) (l ls : List Int) (w : World) (hown : Own w B 3 .i64 v l) (hx : Ints w vx ls) (hB : B ≤ w.heap.size) (hl : l.length + ls.length ≤ 17592186044416) :
    ∃ v' w', (Builtin.append_ #[22, 22] ty #[v, vx]).run Try.prog w = .ok v' w' ∧ Own w' B 3 .i64 v' (l ++ ls) ∧ w.grownBy w' v.ownBlock ∧ (v'.ownBlock = v.ownBlock ∨ v'.ownBlock = some w.heap.size) := by
  obtain ⟨i, hi, h0, h1, h2⟩ := info_parts infoInt
  have ht := Try.underlying22
  obtain ⟨a, cap, rfl, hlc, hcm, hcells⟩ := hx
  cases a with
  | none =>
    have hne : ls = [] := by
      rcases hcells with h | ⟨_, _, _, h, _⟩
      · exact h
      · cases h
    subst hne
    refine ⟨v, w, ?_, by simpa using hown, World.grownBy.refl w _, .inl rfl⟩
    rcases hown.2 with ⟨rfl, _⟩ | ⟨g, cap', cur, rfl, _, _, hnc, _⟩
    · simp [Builtin.append_, run_underlying ht, sizeOf, typeInfo, hi, Builtin.lenOf, Builtin.firstCells]
    · simp [Builtin.append_, run_underlying ht, sizeOf, typeInfo, hi, Builtin.lenOf, Builtin.firstCells, hnc, storeCells]
  | some ad =>
    obtain ⟨v', w', hrun, h3, h4, _, h5⟩ := run_append_own_at (P := Try.prog) w B 22 ty 3 i (.int .i64 0) 1 8 ht hi h0 h1 h2 rfl (by decide) v l.length (l.map (Value.int .i64)) hown
      ad ls.length cap (ls.map (Value.int .i64)) (by simp) (fun j u hj => by
        have hjl : j < ls.length := by
          rcases Nat.lt_or_ge j ls.length with h | h
          · exact h
          · rw [List.getElem?_eq_none (show (ls.map (Value.int .i64)).length ≤ j by simpa using h)] at hj; cases hj
        rcases hcells with h | ⟨g', off, cur, e, hg, hs, hc⟩
        · subst h; simp at hjl
        · simp only [Option.some.injEq] at e
          subst e
          have hadd : (⟨g', off, none⟩ : Addr).add j = ⟨g', off + j, none⟩ := by unfold Addr.add; split <;> simp_all
          rw [hadd, cell_of_row w g' _ cur _ _ hg, hc j hjl, ← hj]
          simp [List.getD, hjl]) (ints_oneCell _ _) (by unfold maxLen; omega) (by omega) hB
    exact ⟨v', w', hrun, by unfold Own; simpa using h3, h4, h5⟩
end Go.Proofs.Ythlmggogeeedjaa
