/-
  No cell of these rows narrows 'for every input' (looked for: loops, veiled, ifaces, maps, wideKeys, modest, calm, conditions, laid).
  DERIVED. THE GIVEN ROWS OF THIS SEAT. 4 by the template 'for every input the law returns true; each argument reads behind the call as it read before'; 0 by the template 'total and deterministic' (their statements: YtammomoncjpgnaaTotals.lean).
  GIVEN WITH THE SEED: the statements are not yours to turn. If you find one false, say at which input.
  Laid BY PROGRAM, IN A SANDBOX (cutbox-rows.mjs): the forced cells as the released guide's own fill.sh prints them over the translation 63392f539d36d8f2… (all of the seat's roots in one cut). By AI agents, Wed Nov 11 2026. No macro, syntax, notation, axiom, sorry.
-/
import Derived.Test.YtammomoncjpgnaaChecked
import GoSem.Claim
import GoSem.ClaimJoined
import GoSem.ClaimMapViews
import Derived.JoinedTies
import Derived.KernelRfl
namespace Go.Proofs.Ytammomoncjpgnaa
/- THE CELL 'sum', in the pinned program and in every row, IS THE sha256 OF THE DUMP (.gsa) THAT YtammomoncjpgnaaProg.lean LOADS. Nothing in Lean hashes anything: it is a label: what it is worth is what the hold of that sum in a sandbox is worth. -/
noncomputable def Try.pinned : Pinned := { name := "ytammomoncjpgnaa", sum := "63392f539d36d8f2cd1b117746f2683116bf4ba20a193b9d5c4b021da8d72de2", checked := Try.checked }
namespace Rows
def none {H : Type} : Left H := { results := [], args := [] }

/-- 'laws.FnExactAllPaths': WHATEVER THE INPUT: true; the input reads as it did. -/
def fnExactAllPathsSpec : ChangeSpec := { name := "fnExactAllPaths", fn := fun _ => fun
  | [d] => { results := [.lit (.bool true)], args := [d] }
  | _ => none }
def fnExactAllPathsRow : OpenClaim := { program := "ytammomoncjpgnaa", sum := "63392f539d36d8f2cd1b117746f2683116bf4ba20a193b9d5c4b021da8d72de2", func := "loop.example/g03404/laws.FnExactAllPaths", spec := "fnExactAllPaths", unfollowed := true, recurses := true, apart := false }
def FnExactAllPathsSaid : Prop := fnExactAllPathsRow.holds Try.pinned (OpenSpec.ofChange fnExactAllPathsSpec)

/-- ITS FALSE NEIGHBOUR: 'it returns false'. Refute it at one input. -/
def fnExactAllPathsWrong : ChangeSpec := { name := "fnExactAllPaths", fn := fun _ => fun
  | [d] => { results := [.lit (.bool false)], args := [d] }
  | _ => none }
def FnExactAllPathsWrongFalsely : Prop := fnExactAllPathsRow.holds Try.pinned (OpenSpec.ofChange fnExactAllPathsWrong)

/-- 'laws.FnExactPathsBetween': WHATEVER THE INPUT: true; the input reads as it did. -/
def fnExactPathsBetweenSpec : ChangeSpec := { name := "fnExactPathsBetween", fn := fun _ => fun
  | [d1, d2, d3] => { results := [.lit (.bool true)], args := [d1, d2, d3] }
  | _ => none }
def fnExactPathsBetweenRow : OpenClaim := { program := "ytammomoncjpgnaa", sum := "63392f539d36d8f2cd1b117746f2683116bf4ba20a193b9d5c4b021da8d72de2", func := "loop.example/g03404/laws.FnExactPathsBetween", spec := "fnExactPathsBetween", unfollowed := true, recurses := true, apart := false }
def FnExactPathsBetweenSaid : Prop := fnExactPathsBetweenRow.holds Try.pinned (OpenSpec.ofChange fnExactPathsBetweenSpec)

/-- ITS FALSE NEIGHBOUR: 'it returns false'. Refute it at one input. -/
def fnExactPathsBetweenWrong : ChangeSpec := { name := "fnExactPathsBetween", fn := fun _ => fun
  | [d1, d2, d3] => { results := [.lit (.bool false)], args := [d1, d2, d3] }
  | _ => none }
def FnExactPathsBetweenWrongFalsely : Prop := fnExactPathsBetweenRow.holds Try.pinned (OpenSpec.ofChange fnExactPathsBetweenWrong)

/-- 'laws.FnExactLongestPath': WHATEVER THE INPUT: true; the input reads as it did. -/
def fnExactLongestPathSpec : ChangeSpec := { name := "fnExactLongestPath", fn := fun _ => fun
  | [d] => { results := [.lit (.bool true)], args := [d] }
  | _ => none }
def fnExactLongestPathRow : OpenClaim := { program := "ytammomoncjpgnaa", sum := "63392f539d36d8f2cd1b117746f2683116bf4ba20a193b9d5c4b021da8d72de2", func := "loop.example/g03404/laws.FnExactLongestPath", spec := "fnExactLongestPath", unfollowed := true, recurses := true, apart := false }
def FnExactLongestPathSaid : Prop := fnExactLongestPathRow.holds Try.pinned (OpenSpec.ofChange fnExactLongestPathSpec)

/-- ITS FALSE NEIGHBOUR: 'it returns false'. Refute it at one input. -/
def fnExactLongestPathWrong : ChangeSpec := { name := "fnExactLongestPath", fn := fun _ => fun
  | [d] => { results := [.lit (.bool false)], args := [d] }
  | _ => none }
def FnExactLongestPathWrongFalsely : Prop := fnExactLongestPathRow.holds Try.pinned (OpenSpec.ofChange fnExactLongestPathWrong)

/-- 'laws.FnExactCountPaths': WHATEVER THE INPUT: true; the input reads as it did. -/
def fnExactCountPathsSpec : ChangeSpec := { name := "fnExactCountPaths", fn := fun _ => fun
  | [d1, d2, d3] => { results := [.lit (.bool true)], args := [d1, d2, d3] }
  | _ => none }
def fnExactCountPathsRow : OpenClaim := { program := "ytammomoncjpgnaa", sum := "63392f539d36d8f2cd1b117746f2683116bf4ba20a193b9d5c4b021da8d72de2", func := "loop.example/g03404/laws.FnExactCountPaths", spec := "fnExactCountPaths", unfollowed := true, recurses := true, apart := false }
def FnExactCountPathsSaid : Prop := fnExactCountPathsRow.holds Try.pinned (OpenSpec.ofChange fnExactCountPathsSpec)

/-- ITS FALSE NEIGHBOUR: 'it returns false'. Refute it at one input. -/
def fnExactCountPathsWrong : ChangeSpec := { name := "fnExactCountPaths", fn := fun _ => fun
  | [d1, d2, d3] => { results := [.lit (.bool false)], args := [d1, d2, d3] }
  | _ => none }
def FnExactCountPathsWrongFalsely : Prop := fnExactCountPathsRow.holds Try.pinned (OpenSpec.ofChange fnExactCountPathsWrong)

/- THE SECOND FORM. 'bulk': how many values and letters a reading holds, each counted each time it is reached (what is shared counts as often as it is met; a slice's spare places count too). A statement '..UptoSaid' is the law's where the arguments, and the package variables that the reading takes, are together of bulk at most 1048576: NARROWER than '..Said'. Prove '..Said' where nothing that the law and all that it calls make is longer than what came in: it says more and counts as full. Else prove '..UptoSaid'. A law counts once. -/
mutual
def uptoBulk {H : Type} : DataW H → Nat
  | .lit (.string bytes) => bytes.length + 1
  | .lit _ => 1
  | .nil => 1
  | .ptr d => uptoBulk d + 1
  | .slice elems spare => uptoBulkAll elems + uptoBulkAll spare + 1
  | .agg parts => uptoBulkAll parts + 1
  | .iface _ d => uptoBulk d + 1
  | .map entries => uptoBulkEntries entries + 1
  | .held _ => 1
def uptoBulkAll {H : Type} : List (DataW H) → Nat
  | [] => 0
  | d :: r => uptoBulk d + uptoBulkAll r
def uptoBulkEntries {H : Type} : List (Lit × DataW H) → Nat
  | [] => 0
  | x :: r => uptoBulkEntry x + uptoBulkEntries r
def uptoBulkEntry {H : Type} : Lit × DataW H → Nat
  | (.string bytes, d) => bytes.length + uptoBulk d + 1
  | (_, d) => uptoBulk d + 1
 end
def uptoSmall : (H : Type) → List (DataW H) → Bool := fun _ ds => decide (uptoBulkAll ds ≤ 1048576)
def OpenSpec.upto (s : _root_.Go.ChangeSpec) : _root_.Go.OpenSpec := { _root_.Go.OpenSpec.ofChange s with cond := some uptoSmall }

/-- 'laws.FnExactAllPaths', WHERE WHAT IT READS IS OF BULK AT MOST 1048576: true; the input reads as it did. -/
def fnExactAllPathsUptoRow : OpenClaim := { program := "ytammomoncjpgnaa", sum := "63392f539d36d8f2cd1b117746f2683116bf4ba20a193b9d5c4b021da8d72de2", func := "loop.example/g03404/laws.FnExactAllPaths", spec := "fnExactAllPaths", unfollowed := true, recurses := true, apart := false, narrowed := true }
def FnExactAllPathsUptoSaid : Prop := fnExactAllPathsUptoRow.holds Try.pinned (OpenSpec.upto fnExactAllPathsSpec)

/-- 'laws.FnExactPathsBetween', WHERE WHAT IT READS IS OF BULK AT MOST 1048576: true; the input reads as it did. -/
def fnExactPathsBetweenUptoRow : OpenClaim := { program := "ytammomoncjpgnaa", sum := "63392f539d36d8f2cd1b117746f2683116bf4ba20a193b9d5c4b021da8d72de2", func := "loop.example/g03404/laws.FnExactPathsBetween", spec := "fnExactPathsBetween", unfollowed := true, recurses := true, apart := false, narrowed := true }
def FnExactPathsBetweenUptoSaid : Prop := fnExactPathsBetweenUptoRow.holds Try.pinned (OpenSpec.upto fnExactPathsBetweenSpec)

/-- 'laws.FnExactLongestPath', WHERE WHAT IT READS IS OF BULK AT MOST 1048576: true; the input reads as it did. -/
def fnExactLongestPathUptoRow : OpenClaim := { program := "ytammomoncjpgnaa", sum := "63392f539d36d8f2cd1b117746f2683116bf4ba20a193b9d5c4b021da8d72de2", func := "loop.example/g03404/laws.FnExactLongestPath", spec := "fnExactLongestPath", unfollowed := true, recurses := true, apart := false, narrowed := true }
def FnExactLongestPathUptoSaid : Prop := fnExactLongestPathUptoRow.holds Try.pinned (OpenSpec.upto fnExactLongestPathSpec)

/-- 'laws.FnExactCountPaths', WHERE WHAT IT READS IS OF BULK AT MOST 1048576: true; the input reads as it did. -/
def fnExactCountPathsUptoRow : OpenClaim := { program := "ytammomoncjpgnaa", sum := "63392f539d36d8f2cd1b117746f2683116bf4ba20a193b9d5c4b021da8d72de2", func := "loop.example/g03404/laws.FnExactCountPaths", spec := "fnExactCountPaths", unfollowed := true, recurses := true, apart := false, narrowed := true }
def FnExactCountPathsUptoSaid : Prop := fnExactCountPathsUptoRow.holds Try.pinned (OpenSpec.upto fnExactCountPathsSpec)

end Rows
end Go.Proofs.Ytammomoncjpgnaa
