/-
  No cell of these rows narrows 'for every input' (looked for: loops, veiled, ifaces, maps, wideKeys, modest, calm, conditions, laid).
  DERIVED. THE GIVEN ROWS OF THIS SEAT. 4 by the template 'for every input the law returns true; each argument reads behind the call as it read before'; 0 by the template 'total and deterministic' (their statements: YtmcjgaffecimlaaTotals.lean).
  GIVEN WITH THE SEED: the statements are not yours to turn. If you find one false, say at which input.
  Laid BY PROGRAM, IN A SANDBOX (cutbox-rows.mjs): the forced cells as the released guide's own fill.sh prints them over the translation bb51a6837464596d… (all of the seat's roots in one cut). By AI agents, Wed Nov 11 2026. No macro, syntax, notation, axiom, sorry.
-/
import Derived.Test.YtmcjgaffecimlaaChecked
import GoSem.Claim
import GoSem.ClaimJoined
import GoSem.ClaimMapViews
import Derived.JoinedTies
import Derived.KernelRfl
namespace Go.Proofs.Ytmcjgaffecimlaa
/- THE CELL 'sum', in the pinned program and in every row, IS THE sha256 OF THE DUMP (.gsa) THAT YtmcjgaffecimlaaProg.lean LOADS. Nothing in Lean hashes anything: it is a label: what it is worth is what the hold of that sum in a sandbox is worth. -/
noncomputable def Try.pinned : Pinned := { name := "ytmcjgaffecimlaa", sum := "bb51a6837464596d95aaebf7acf40f88128bdd591818874f51b0cfa24d7579f1", checked := Try.checked }
namespace Rows
def none {H : Type} : Left H := { results := [], args := [] }

/-- 'laws.FnExactBlockSum': WHATEVER THE INPUT: true; the input reads as it did. -/
def fnExactBlockSumSpec : ChangeSpec := { name := "fnExactBlockSum", fn := fun _ => fun
  | [d1, d2, d3] => { results := [.lit (.bool true)], args := [d1, d2, d3] }
  | _ => none }
def fnExactBlockSumRow : OpenClaim := { program := "ytmcjgaffecimlaa", sum := "bb51a6837464596d95aaebf7acf40f88128bdd591818874f51b0cfa24d7579f1", func := "loop.example/g03404/laws.FnExactBlockSum", spec := "fnExactBlockSum", unfollowed := true, recurses := true, apart := false }
def FnExactBlockSumSaid : Prop := fnExactBlockSumRow.holds Try.pinned (OpenSpec.ofChange fnExactBlockSumSpec)

/-- ITS FALSE NEIGHBOUR: 'it returns false'. Refute it at one input. -/
def fnExactBlockSumWrong : ChangeSpec := { name := "fnExactBlockSum", fn := fun _ => fun
  | [d1, d2, d3] => { results := [.lit (.bool false)], args := [d1, d2, d3] }
  | _ => none }
def FnExactBlockSumWrongFalsely : Prop := fnExactBlockSumRow.holds Try.pinned (OpenSpec.ofChange fnExactBlockSumWrong)

/-- 'laws.FnExactIsNilpotent': WHATEVER THE INPUT: true; the input reads as it did. -/
def fnExactIsNilpotentSpec : ChangeSpec := { name := "fnExactIsNilpotent", fn := fun _ => fun
  | [d1, d2] => { results := [.lit (.bool true)], args := [d1, d2] }
  | _ => none }
def fnExactIsNilpotentRow : OpenClaim := { program := "ytmcjgaffecimlaa", sum := "bb51a6837464596d95aaebf7acf40f88128bdd591818874f51b0cfa24d7579f1", func := "loop.example/g03404/laws.FnExactIsNilpotent", spec := "fnExactIsNilpotent", unfollowed := true, recurses := true, apart := false }
def FnExactIsNilpotentSaid : Prop := fnExactIsNilpotentRow.holds Try.pinned (OpenSpec.ofChange fnExactIsNilpotentSpec)

/-- ITS FALSE NEIGHBOUR: 'it returns false'. Refute it at one input. -/
def fnExactIsNilpotentWrong : ChangeSpec := { name := "fnExactIsNilpotent", fn := fun _ => fun
  | [d1, d2] => { results := [.lit (.bool false)], args := [d1, d2] }
  | _ => none }
def FnExactIsNilpotentWrongFalsely : Prop := fnExactIsNilpotentRow.holds Try.pinned (OpenSpec.ofChange fnExactIsNilpotentWrong)

/-- 'laws.FnExactEqualSpaces': WHATEVER THE INPUT: true; the input reads as it did. -/
def fnExactEqualSpacesSpec : ChangeSpec := { name := "fnExactEqualSpaces", fn := fun _ => fun
  | [d1, d2] => { results := [.lit (.bool true)], args := [d1, d2] }
  | _ => none }
def fnExactEqualSpacesRow : OpenClaim := { program := "ytmcjgaffecimlaa", sum := "bb51a6837464596d95aaebf7acf40f88128bdd591818874f51b0cfa24d7579f1", func := "loop.example/g03404/laws.FnExactEqualSpaces", spec := "fnExactEqualSpaces", unfollowed := true, recurses := true, apart := false }
def FnExactEqualSpacesSaid : Prop := fnExactEqualSpacesRow.holds Try.pinned (OpenSpec.ofChange fnExactEqualSpacesSpec)

/-- ITS FALSE NEIGHBOUR: 'it returns false'. Refute it at one input. -/
def fnExactEqualSpacesWrong : ChangeSpec := { name := "fnExactEqualSpaces", fn := fun _ => fun
  | [d1, d2] => { results := [.lit (.bool false)], args := [d1, d2] }
  | _ => none }
def FnExactEqualSpacesWrongFalsely : Prop := fnExactEqualSpacesRow.holds Try.pinned (OpenSpec.ofChange fnExactEqualSpacesWrong)

/-- 'laws.FnExactEqualReps': WHATEVER THE INPUT: true; the input reads as it did. -/
def fnExactEqualRepsSpec : ChangeSpec := { name := "fnExactEqualReps", fn := fun _ => fun
  | [d1, d2] => { results := [.lit (.bool true)], args := [d1, d2] }
  | _ => none }
def fnExactEqualRepsRow : OpenClaim := { program := "ytmcjgaffecimlaa", sum := "bb51a6837464596d95aaebf7acf40f88128bdd591818874f51b0cfa24d7579f1", func := "loop.example/g03404/laws.FnExactEqualReps", spec := "fnExactEqualReps", unfollowed := true, recurses := true, apart := false }
def FnExactEqualRepsSaid : Prop := fnExactEqualRepsRow.holds Try.pinned (OpenSpec.ofChange fnExactEqualRepsSpec)

/-- ITS FALSE NEIGHBOUR: 'it returns false'. Refute it at one input. -/
def fnExactEqualRepsWrong : ChangeSpec := { name := "fnExactEqualReps", fn := fun _ => fun
  | [d1, d2] => { results := [.lit (.bool false)], args := [d1, d2] }
  | _ => none }
def FnExactEqualRepsWrongFalsely : Prop := fnExactEqualRepsRow.holds Try.pinned (OpenSpec.ofChange fnExactEqualRepsWrong)

/- THE SECOND FORM. 'bulk': how many values and letters a reading holds, each counted each time it is reached (what is shared counts as often as it is met; a slice's spare places count too). A statement '..UptoSaid' is the law's where the arguments, and the package variables that the reading takes, are together of bulk at most 1048576: NARROWER than '..Said'. Prove '..Said' where nothing that the law and all that it calls make is longer than what came in: it says more and counts as full. Else prove '..UptoSaid'. A law counts once. -/
mutual
def uptoBulk {H : Type} : DataW H → Nat
  | .lit (.string bytes) => bytes.length + 1
  | .lit _ => 1
  | .nil => 1
  | .ptr d => uptoBulk d + 1
  | .slice elems spare => uptoBulkAll elems + uptoBulkAll spare + 1
  | .agg parts => uptoBulkAll parts + 1
  | .iface _ d => uptoBulk d + 1
  | .map entries => uptoBulkEntries entries + 1
  | .held _ => 1
def uptoBulkAll {H : Type} : List (DataW H) → Nat
  | [] => 0
  | d :: r => uptoBulk d + uptoBulkAll r
def uptoBulkEntries {H : Type} : List (Lit × DataW H) → Nat
  | [] => 0
  | x :: r => uptoBulkEntry x + uptoBulkEntries r
def uptoBulkEntry {H : Type} : Lit × DataW H → Nat
  | (.string bytes, d) => bytes.length + uptoBulk d + 1
  | (_, d) => uptoBulk d + 1
 end
def uptoSmall : (H : Type) → List (DataW H) → Bool := fun _ ds => decide (uptoBulkAll ds ≤ 1048576)
def OpenSpec.upto (s : _root_.Go.ChangeSpec) : _root_.Go.OpenSpec := { _root_.Go.OpenSpec.ofChange s with cond := some uptoSmall }

/-- 'laws.FnExactBlockSum', WHERE WHAT IT READS IS OF BULK AT MOST 1048576: true; the input reads as it did. -/
def fnExactBlockSumUptoRow : OpenClaim := { program := "ytmcjgaffecimlaa", sum := "bb51a6837464596d95aaebf7acf40f88128bdd591818874f51b0cfa24d7579f1", func := "loop.example/g03404/laws.FnExactBlockSum", spec := "fnExactBlockSum", unfollowed := true, recurses := true, apart := false, narrowed := true }
def FnExactBlockSumUptoSaid : Prop := fnExactBlockSumUptoRow.holds Try.pinned (OpenSpec.upto fnExactBlockSumSpec)

/-- 'laws.FnExactIsNilpotent', WHERE WHAT IT READS IS OF BULK AT MOST 1048576: true; the input reads as it did. -/
def fnExactIsNilpotentUptoRow : OpenClaim := { program := "ytmcjgaffecimlaa", sum := "bb51a6837464596d95aaebf7acf40f88128bdd591818874f51b0cfa24d7579f1", func := "loop.example/g03404/laws.FnExactIsNilpotent", spec := "fnExactIsNilpotent", unfollowed := true, recurses := true, apart := false, narrowed := true }
def FnExactIsNilpotentUptoSaid : Prop := fnExactIsNilpotentUptoRow.holds Try.pinned (OpenSpec.upto fnExactIsNilpotentSpec)

/-- 'laws.FnExactEqualSpaces', WHERE WHAT IT READS IS OF BULK AT MOST 1048576: true; the input reads as it did. -/
def fnExactEqualSpacesUptoRow : OpenClaim := { program := "ytmcjgaffecimlaa", sum := "bb51a6837464596d95aaebf7acf40f88128bdd591818874f51b0cfa24d7579f1", func := "loop.example/g03404/laws.FnExactEqualSpaces", spec := "fnExactEqualSpaces", unfollowed := true, recurses := true, apart := false, narrowed := true }
def FnExactEqualSpacesUptoSaid : Prop := fnExactEqualSpacesUptoRow.holds Try.pinned (OpenSpec.upto fnExactEqualSpacesSpec)

/-- 'laws.FnExactEqualReps', WHERE WHAT IT READS IS OF BULK AT MOST 1048576: true; the input reads as it did. -/
def fnExactEqualRepsUptoRow : OpenClaim := { program := "ytmcjgaffecimlaa", sum := "bb51a6837464596d95aaebf7acf40f88128bdd591818874f51b0cfa24d7579f1", func := "loop.example/g03404/laws.FnExactEqualReps", spec := "fnExactEqualReps", unfollowed := true, recurses := true, apart := false, narrowed := true }
def FnExactEqualRepsUptoSaid : Prop := fnExactEqualRepsUptoRow.holds Try.pinned (OpenSpec.upto fnExactEqualRepsSpec)

end Rows
end Go.Proofs.Ytmcjgaffecimlaa
