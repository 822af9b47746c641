/- The law FnExactEqualSpaces, for every input: its row's step, out of the walk law_FnExactEqualSpaces. -/
import Derived.Test.YtmcjgaffecimlaaLawsSp
import Derived.WalkKit
import Derived.ProofKit
import Derived.OpenShut
import Derived.ShutString
import Derived.ChangeOld
import Derived.Below
import Derived.Lib.SmallJoins
import Derived.Deep.Matrix
namespace Go.Proofs.Ytmcjgaffecimlaa.fnExactEqualSpaces
open Go.ChangeShapes Go.WideShapes Go.ChangeAt Go.RowKit
open Go.ChangeMaps (open_string shut_string)
set_option linter.unusedVariables false
set_option linter.unusedSimpArgs false

theorem own : ownKnob Try.prog.godebug = none := by kernel_rfl
theorem laidOut : laidOutB Try.prog = true := by kernel_rfl

set_option maxRecDepth 100000 in
theorem lifted (os : Os) (started : os.Started) (H : Type) (enc : TypeId × Value → H) :
    ReturnsInHanded {} Try.checked os 5 .any (Rows.fnExactEqualSpacesSpec.pre6 enc Try.prog Try.f5 Rows.fnExactEqualSpacesRow.domain false) (Rows.fnExactEqualSpacesSpec.post enc Try.prog Try.f5 false true false false) := by
  refine returnsInHanded_of_change (C := Try.checked) own started (by kernel_rfl) Try.func5
    (ChangeSpec.witness6 (enc := enc) (C := Try.checked) false ⟨#[], #[.agg #[.int .i64 0, .slice none 0 0], .agg #[.int .i64 0, .slice none 0 0]], []⟩ 8 (by kernel_rfl) (by kernel_rfl) (by kernel_rfl) (by kernel_rfl)) ?_
  intro W base args ds gs before hval0 hW hcnd _
  have hval : ∀ (j : Nat) t v, Try.f5.params[j]? = some t → args[j]? = some v → Value.okWide Try.prog W .any base t v := hval0
  have hW' := hW
  obtain ⟨p, q, hA0, hV, rfl, hfz, hnd⟩ := hW
  have hA : DataW.TrodAll enc Try.prog W 0 (fun _ => true) true Try.f5.params.toList args.toList ds p := hA0
  rw [Try.params5] at hA hval
  obtain ⟨v0, vs0, d0, ds0, p0, q0, hargs, rfl, rfl, h0, r0⟩ := trodAll_cons hA
  obtain ⟨v1, vs1, d1, ds1, p1, q1, rfl, rfl, rfl, h1, r1⟩ := trodAll_cons r0
  obtain ⟨rfl, rfl, rfl⟩ := trodAll_nil r1
  obtain rfl : args = #[v0, v1] := by cases args; simp_all
  obtain ⟨rfl, rfl⟩ := trodVars_none hV
  have k0 := h0
  have lt0 : ∀ x ∈ p0, x.block < W.heap.size := by obtain ⟨m, hm⟩ := k0; exact DataW.trod_lt m _ _ _ hm
  obtain ⟨c0_0, c0_1, y0_0, y0_1, m0, rfl, hd0, hp0, hy0_0, hy0_1⟩ := Go.Joins.open_agg2 Try.underlying37 (by kernel_rfl) (by kernel_rfl) (hval 0 37 v0 rfl rfl) h0
  obtain ⟨a0_0, ee0_0, _, w0_0⟩ := DataW.trod_int Try.underlying3 hy0_0
  simp at ee0_0; subst ee0_0
  obtain ⟨z0_1, w0_1, bd0_1⟩ : ∃ zs, RawS W c0_1 zs ∧ BdS zs := by
    rcases Go.Deep.open_int_rows Try.underlying35 Try.underlying22 Try.underlying3 (by kernel_rfl) (by kernel_rfl) hy0_1 with ⟨hcs, _⟩ | ⟨x, l, c, A, L, C, Z, hcs, _, hl, hm, _, hr⟩
    · simp at hcs; subst hcs
      exact ⟨[], RawS.nil W, trivial⟩
    · simp at hcs; subst hcs
      exact ⟨_, RawS.mk hl hm hr, trivial⟩
  have k1 := h1
  have lt1 : ∀ x ∈ p1, x.block < W.heap.size := by obtain ⟨m, hm⟩ := k1; exact DataW.trod_lt m _ _ _ hm
  obtain ⟨c1_0, c1_1, y1_0, y1_1, m1, rfl, hd1, hp1, hy1_0, hy1_1⟩ := Go.Joins.open_agg2 Try.underlying37 (by kernel_rfl) (by kernel_rfl) (hval 1 37 v1 rfl rfl) h1
  obtain ⟨a1_0, ee1_0, _, w1_0⟩ := DataW.trod_int Try.underlying3 hy1_0
  simp at ee1_0; subst ee1_0
  obtain ⟨z1_1, w1_1, bd1_1⟩ : ∃ zs, RawS W c1_1 zs ∧ BdS zs := by
    rcases Go.Deep.open_int_rows Try.underlying35 Try.underlying22 Try.underlying3 (by kernel_rfl) (by kernel_rfl) hy1_1 with ⟨hcs, _⟩ | ⟨x, l, c, A, L, C, Z, hcs, _, hl, hm, _, hr⟩
    · simp at hcs; subst hcs
      exact ⟨[], RawS.nil W, trivial⟩
    · simp at hcs; subst hcs
      exact ⟨_, RawS.mk hl hm hr, trivial⟩
  clear hA0 hval0
  refine (law_FnExactEqualSpaces a0_0 c0_1 z0_1 a1_0 c1_1 z1_1 W w0_0 w0_1 bd0_1 w1_0 w1_1 bd1_1).mono fun e W' ⟨he, bel⟩ => ?_
  subst he
  exact ⟨_, rfl, _, _, _, [], _, [], hW', trodAll_mk1 (shut_bool Try.underlying4 _), (trodAll_cons_mk (Below.trod laidOut (by kernel_rfl) (of_decide_eq_true (by kernel_rfl)) k0 bel lt0) (trodAll_cons_mk (Below.trod laidOut (by kernel_rfl) (of_decide_eq_true (by kernel_rfl)) k1 bel lt1) trodAll_mk0)), rfl, bel.frame _, fun h => by cases h⟩

theorem over : Rows.fnExactEqualSpacesRow.holds Try.pinned (OpenSpec.ofChange Rows.fnExactEqualSpacesSpec) :=
  OpenClaim.holds_of_wide 5 Try.f5 rfl rfl rfl rfl rfl rfl rfl ⟨rfl, rfl, rfl, rfl, rfl⟩ rfl rfl rfl rfl rfl (by kernel_rfl) Try.func5 (by kernel_rfl)
    (of_decide_eq_true (by kernel_rfl)) (by unfold Func.isWrapper; first | (rw [if_pos (by decide +kernel)]; kernel_rfl) | (rw [if_neg (by decide +kernel)]; exact ⟨rfl, rfl⟩))
    (fun os started H enc _ => lifted os started H enc)

theorem proved : Rows.FnExactEqualSpacesSaid := over
#print axioms proved
end Go.Proofs.Ytmcjgaffecimlaa.fnExactEqualSpaces
