/- append to a slice that the call owns, inside a region that draws its order; a slice of two slices just made. -/
import Derived.Test.YtjcgommdeplbbaaConcat
import Derived.Test.YtjcgommdeplbbaaLawR
namespace Go.Proofs.Ytjcgommdeplbbaa
open Go.RowKit
set_option linter.unusedVariables false
set_option linter.unusedSimpArgs false

theorem step_app_own {ops : Array Oper} {o : Oper} {a : Act} {K : Act → World → Prop} {Q : Exit → Act → World → Prop} {E : Prop} (w0 w : World) (hgd : o.guard = none) (s x : Operand)
    (ho : o.op = .call { callee := .builtin .append, args := #[s, x], argTypes := #[37, 37] }) (v vx : Value) (l ls : List Int)
    (hs : a.eval s = v) (hx : a.eval x = vx) (hsrc : Ints w vx ls) (hown : Own w w0.heap.size 3 .i64 v l) (hbel : Below w0.heap.size w0 w) (hl : l.length + ls.length ≤ 17592186044416)
    (hK : ∀ v' w', Own w' w0.heap.size 3 .i64 v' (l ++ ls) → Below w0.heap.size w0 w' → K (a.put o.dst v') w') :
    if Region.wanted o (yielded ops a.tmps) = true then Oper.wp Try.prog o a w K Q else E := by
  have hw : Region.wanted o (yielded ops a.tmps) = true := by simp [Region.wanted, hgd]
  rw [if_pos hw]
  obtain ⟨v', w', hrun, h1, h2, _⟩ := run_app_any o.type w0.heap.size v vx l ls w hown hsrc hbel.size hl
  unfold Oper.wp
  simp [execOp, ho, resolve, invoke, builtin, hs, hx, hrun, Result.andThen]
  exact hK v' w' h1 (hbel.grown h2 hbel.size (fun k hk => (World.ownsRow.lt hown k hk).1))
theorem rws_two {W : World} {g : Nat} {va vb : Value} {la lb : List Int} (hg : W.heap[g]? = some (.cells #[va, vb] 37 (0, 0))) (ha : Ints W va la) (hb : Ints W vb lb) :
    Rws 0 W (.slice (some ⟨g, 0, none⟩) 2 2) [la, lb] :=
  ⟨_, 2, rfl, Nat.le_refl _, by decide, .inr ⟨g, 0, _, rfl, Nat.zero_le _, hg, by simp, ⟨ha, fun k hk => Nat.zero_le _, hb, fun k hk => Nat.zero_le _, trivial⟩⟩⟩
theorem rws_one {W : World} {g : Nat} {va : Value} {la : List Int} (hg : W.heap[g]? = some (.cells #[va] 37 (0, 0))) (ha : Ints W va la) :
    Rws 0 W (.slice (some ⟨g, 0, none⟩) 1 1) [la] :=
  ⟨_, 1, rfl, Nat.le_refl _, by decide, .inr ⟨g, 0, _, rfl, Nat.zero_le _, hg, by simp, ⟨ha, fun k hk => Nat.zero_le _, trivial⟩⟩⟩

end Go.Proofs.Ytjcgommdeplbbaa
