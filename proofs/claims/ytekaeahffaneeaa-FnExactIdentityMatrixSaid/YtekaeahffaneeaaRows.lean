/-
  No cell of these rows narrows 'for every input' (looked for: loops, veiled, ifaces, maps, wideKeys, modest, calm, conditions, laid).
  DERIVED. THE GIVEN ROWS OF THIS SEAT. 12 by the template 'for every input the law returns true; each argument reads behind the call as it read before'; 0 by the template 'total and deterministic' (their statements: YtekaeahffaneeaaTotals.lean).
  GIVEN WITH THE SEED: the statements are not yours to turn. If you find one false, say at which input.
  Laid BY PROGRAM, IN A SANDBOX (cutbox-rows.mjs): the forced cells as the released guide's own fill.sh prints them over the translation e8c19b471db7e084… (all of the seat's roots in one cut). By AI agents, Wed Nov 11 2026. No macro, syntax, notation, axiom, sorry.
-/
import Derived.Test.YtekaeahffaneeaaChecked
import GoSem.Claim
import GoSem.ClaimJoined
import GoSem.ClaimMapViews
import Derived.JoinedTies
import Derived.KernelRfl
namespace Go.Proofs.Ytekaeahffaneeaa
/- THE CELL 'sum', in the pinned program and in every row, IS THE sha256 OF THE DUMP (.gsa) THAT YtekaeahffaneeaaProg.lean LOADS. Nothing in Lean hashes anything: it is a label: what it is worth is what the hold of that sum in a sandbox is worth. -/
noncomputable def Try.pinned : Pinned := { name := "ytekaeahffaneeaa", sum := "e8c19b471db7e084efb4fe00eb781a8511cf6db818d28956decb9e6cd7a4103c", checked := Try.checked }
namespace Rows
def none {H : Type} : Left H := { results := [], args := [] }

/-- 'laws.FnExactPowerMod': WHATEVER THE INPUT: true; the input reads as it did. -/
def fnExactPowerModSpec : ChangeSpec := { name := "fnExactPowerMod", fn := fun _ => fun
  | [d1, d2, d3] => { results := [.lit (.bool true)], args := [d1, d2, d3] }
  | _ => none }
def fnExactPowerModRow : OpenClaim := { program := "ytekaeahffaneeaa", sum := "e8c19b471db7e084efb4fe00eb781a8511cf6db818d28956decb9e6cd7a4103c", func := "loop.example/g03404/laws.FnExactPowerMod", spec := "fnExactPowerMod", apart := false }
def FnExactPowerModSaid : Prop := fnExactPowerModRow.holds Try.pinned (OpenSpec.ofChange fnExactPowerModSpec)

/-- ITS FALSE NEIGHBOUR: 'it returns false'. Refute it at one input. -/
def fnExactPowerModWrong : ChangeSpec := { name := "fnExactPowerMod", fn := fun _ => fun
  | [d1, d2, d3] => { results := [.lit (.bool false)], args := [d1, d2, d3] }
  | _ => none }
def FnExactPowerModWrongFalsely : Prop := fnExactPowerModRow.holds Try.pinned (OpenSpec.ofChange fnExactPowerModWrong)

/-- 'laws.FnExactCountSpaces': WHATEVER THE INPUT: true; the input reads as it did. -/
def fnExactCountSpacesSpec : ChangeSpec := { name := "fnExactCountSpaces", fn := fun _ => fun
  | [d1, d2, d3] => { results := [.lit (.bool true)], args := [d1, d2, d3] }
  | _ => none }
def fnExactCountSpacesRow : OpenClaim := { program := "ytekaeahffaneeaa", sum := "e8c19b471db7e084efb4fe00eb781a8511cf6db818d28956decb9e6cd7a4103c", func := "loop.example/g03404/laws.FnExactCountSpaces", spec := "fnExactCountSpaces", apart := false }
def FnExactCountSpacesSaid : Prop := fnExactCountSpacesRow.holds Try.pinned (OpenSpec.ofChange fnExactCountSpacesSpec)

/-- ITS FALSE NEIGHBOUR: 'it returns false'. Refute it at one input. -/
def fnExactCountSpacesWrong : ChangeSpec := { name := "fnExactCountSpaces", fn := fun _ => fun
  | [d1, d2, d3] => { results := [.lit (.bool false)], args := [d1, d2, d3] }
  | _ => none }
def FnExactCountSpacesWrongFalsely : Prop := fnExactCountSpacesRow.holds Try.pinned (OpenSpec.ofChange fnExactCountSpacesWrong)

/-- 'laws.FnExactInverseMod': WHATEVER THE INPUT: true; the input reads as it did. -/
def fnExactInverseModSpec : ChangeSpec := { name := "fnExactInverseMod", fn := fun _ => fun
  | [d1, d2] => { results := [.lit (.bool true)], args := [d1, d2] }
  | _ => none }
def fnExactInverseModRow : OpenClaim := { program := "ytekaeahffaneeaa", sum := "e8c19b471db7e084efb4fe00eb781a8511cf6db818d28956decb9e6cd7a4103c", func := "loop.example/g03404/laws.FnExactInverseMod", spec := "fnExactInverseMod", apart := false }
def FnExactInverseModSaid : Prop := fnExactInverseModRow.holds Try.pinned (OpenSpec.ofChange fnExactInverseModSpec)

/-- ITS FALSE NEIGHBOUR: 'it returns false'. Refute it at one input. -/
def fnExactInverseModWrong : ChangeSpec := { name := "fnExactInverseMod", fn := fun _ => fun
  | [d1, d2] => { results := [.lit (.bool false)], args := [d1, d2] }
  | _ => none }
def FnExactInverseModWrongFalsely : Prop := fnExactInverseModRow.holds Try.pinned (OpenSpec.ofChange fnExactInverseModWrong)

/-- 'laws.FnExactDecodeVarint': WHATEVER THE INPUT: true; the input reads as it did. -/
def fnExactDecodeVarintSpec : ChangeSpec := { name := "fnExactDecodeVarint", fn := fun _ => fun
  | [d] => { results := [.lit (.bool true)], args := [d] }
  | _ => none }
def fnExactDecodeVarintRow : OpenClaim := { program := "ytekaeahffaneeaa", sum := "e8c19b471db7e084efb4fe00eb781a8511cf6db818d28956decb9e6cd7a4103c", func := "loop.example/g03404/laws.FnExactDecodeVarint", spec := "fnExactDecodeVarint", apart := false }
def FnExactDecodeVarintSaid : Prop := fnExactDecodeVarintRow.holds Try.pinned (OpenSpec.ofChange fnExactDecodeVarintSpec)

/-- ITS FALSE NEIGHBOUR: 'it returns false'. Refute it at one input. -/
def fnExactDecodeVarintWrong : ChangeSpec := { name := "fnExactDecodeVarint", fn := fun _ => fun
  | [d] => { results := [.lit (.bool false)], args := [d] }
  | _ => none }
def FnExactDecodeVarintWrongFalsely : Prop := fnExactDecodeVarintRow.holds Try.pinned (OpenSpec.ofChange fnExactDecodeVarintWrong)

/-- 'laws.FnExactIsVector': WHATEVER THE INPUT: true; the input reads as it did. -/
def fnExactIsVectorSpec : ChangeSpec := { name := "fnExactIsVector", fn := fun _ => fun
  | [d1, d2] => { results := [.lit (.bool true)], args := [d1, d2] }
  | _ => none }
def fnExactIsVectorRow : OpenClaim := { program := "ytekaeahffaneeaa", sum := "e8c19b471db7e084efb4fe00eb781a8511cf6db818d28956decb9e6cd7a4103c", func := "loop.example/g03404/laws.FnExactIsVector", spec := "fnExactIsVector", unfollowed := true, recurses := true, apart := false }
def FnExactIsVectorSaid : Prop := fnExactIsVectorRow.holds Try.pinned (OpenSpec.ofChange fnExactIsVectorSpec)

/-- ITS FALSE NEIGHBOUR: 'it returns false'. Refute it at one input. -/
def fnExactIsVectorWrong : ChangeSpec := { name := "fnExactIsVector", fn := fun _ => fun
  | [d1, d2] => { results := [.lit (.bool false)], args := [d1, d2] }
  | _ => none }
def FnExactIsVectorWrongFalsely : Prop := fnExactIsVectorRow.holds Try.pinned (OpenSpec.ofChange fnExactIsVectorWrong)

/-- 'laws.FnExactVectorOf': WHATEVER THE INPUT: true; the input reads as it did. -/
def fnExactVectorOfSpec : ChangeSpec := { name := "fnExactVectorOf", fn := fun _ => fun
  | [d1, d2, d3] => { results := [.lit (.bool true)], args := [d1, d2, d3] }
  | _ => none }
def fnExactVectorOfRow : OpenClaim := { program := "ytekaeahffaneeaa", sum := "e8c19b471db7e084efb4fe00eb781a8511cf6db818d28956decb9e6cd7a4103c", func := "loop.example/g03404/laws.FnExactVectorOf", spec := "fnExactVectorOf", apart := false }
def FnExactVectorOfSaid : Prop := fnExactVectorOfRow.holds Try.pinned (OpenSpec.ofChange fnExactVectorOfSpec)

/-- ITS FALSE NEIGHBOUR: 'it returns false'. Refute it at one input. -/
def fnExactVectorOfWrong : ChangeSpec := { name := "fnExactVectorOf", fn := fun _ => fun
  | [d1, d2, d3] => { results := [.lit (.bool false)], args := [d1, d2, d3] }
  | _ => none }
def FnExactVectorOfWrongFalsely : Prop := fnExactVectorOfRow.holds Try.pinned (OpenSpec.ofChange fnExactVectorOfWrong)

/-- 'laws.FnExactZeroMatrix': WHATEVER THE INPUT: true; the input reads as it did. -/
def fnExactZeroMatrixSpec : ChangeSpec := { name := "fnExactZeroMatrix", fn := fun _ => fun
  | [d1, d2] => { results := [.lit (.bool true)], args := [d1, d2] }
  | _ => none }
def fnExactZeroMatrixRow : OpenClaim := { program := "ytekaeahffaneeaa", sum := "e8c19b471db7e084efb4fe00eb781a8511cf6db818d28956decb9e6cd7a4103c", func := "loop.example/g03404/laws.FnExactZeroMatrix", spec := "fnExactZeroMatrix", apart := false }
def FnExactZeroMatrixSaid : Prop := fnExactZeroMatrixRow.holds Try.pinned (OpenSpec.ofChange fnExactZeroMatrixSpec)

/-- ITS FALSE NEIGHBOUR: 'it returns false'. Refute it at one input. -/
def fnExactZeroMatrixWrong : ChangeSpec := { name := "fnExactZeroMatrix", fn := fun _ => fun
  | [d1, d2] => { results := [.lit (.bool false)], args := [d1, d2] }
  | _ => none }
def FnExactZeroMatrixWrongFalsely : Prop := fnExactZeroMatrixRow.holds Try.pinned (OpenSpec.ofChange fnExactZeroMatrixWrong)

/-- 'laws.FnExactCodeOf': WHATEVER THE INPUT: true; the input reads as it did. -/
def fnExactCodeOfSpec : ChangeSpec := { name := "fnExactCodeOf", fn := fun _ => fun
  | [d1, d2] => { results := [.lit (.bool true)], args := [d1, d2] }
  | _ => none }
def fnExactCodeOfRow : OpenClaim := { program := "ytekaeahffaneeaa", sum := "e8c19b471db7e084efb4fe00eb781a8511cf6db818d28956decb9e6cd7a4103c", func := "loop.example/g03404/laws.FnExactCodeOf", spec := "fnExactCodeOf", unfollowed := true, recurses := true, apart := false }
def FnExactCodeOfSaid : Prop := fnExactCodeOfRow.holds Try.pinned (OpenSpec.ofChange fnExactCodeOfSpec)

/-- ITS FALSE NEIGHBOUR: 'it returns false'. Refute it at one input. -/
def fnExactCodeOfWrong : ChangeSpec := { name := "fnExactCodeOf", fn := fun _ => fun
  | [d1, d2] => { results := [.lit (.bool false)], args := [d1, d2] }
  | _ => none }
def FnExactCodeOfWrongFalsely : Prop := fnExactCodeOfRow.holds Try.pinned (OpenSpec.ofChange fnExactCodeOfWrong)

/-- 'laws.FnExactIdentityMatrix': WHATEVER THE INPUT: true; the input reads as it did. -/
def fnExactIdentityMatrixSpec : ChangeSpec := { name := "fnExactIdentityMatrix", fn := fun _ => fun
  | [d] => { results := [.lit (.bool true)], args := [d] }
  | _ => none }
def fnExactIdentityMatrixRow : OpenClaim := { program := "ytekaeahffaneeaa", sum := "e8c19b471db7e084efb4fe00eb781a8511cf6db818d28956decb9e6cd7a4103c", func := "loop.example/g03404/laws.FnExactIdentityMatrix", spec := "fnExactIdentityMatrix", apart := false }
def FnExactIdentityMatrixSaid : Prop := fnExactIdentityMatrixRow.holds Try.pinned (OpenSpec.ofChange fnExactIdentityMatrixSpec)

/-- ITS FALSE NEIGHBOUR: 'it returns false'. Refute it at one input. -/
def fnExactIdentityMatrixWrong : ChangeSpec := { name := "fnExactIdentityMatrix", fn := fun _ => fun
  | [d] => { results := [.lit (.bool false)], args := [d] }
  | _ => none }
def FnExactIdentityMatrixWrongFalsely : Prop := fnExactIdentityMatrixRow.holds Try.pinned (OpenSpec.ofChange fnExactIdentityMatrixWrong)

/-- 'laws.FnExactScaleVector': WHATEVER THE INPUT: true; the input reads as it did. -/
def fnExactScaleVectorSpec : ChangeSpec := { name := "fnExactScaleVector", fn := fun _ => fun
  | [d1, d2, d3] => { results := [.lit (.bool true)], args := [d1, d2, d3] }
  | _ => none }
def fnExactScaleVectorRow : OpenClaim := { program := "ytekaeahffaneeaa", sum := "e8c19b471db7e084efb4fe00eb781a8511cf6db818d28956decb9e6cd7a4103c", func := "loop.example/g03404/laws.FnExactScaleVector", spec := "fnExactScaleVector", unfollowed := true, recurses := true, apart := false }
def FnExactScaleVectorSaid : Prop := fnExactScaleVectorRow.holds Try.pinned (OpenSpec.ofChange fnExactScaleVectorSpec)

/-- ITS FALSE NEIGHBOUR: 'it returns false'. Refute it at one input. -/
def fnExactScaleVectorWrong : ChangeSpec := { name := "fnExactScaleVector", fn := fun _ => fun
  | [d1, d2, d3] => { results := [.lit (.bool false)], args := [d1, d2, d3] }
  | _ => none }
def FnExactScaleVectorWrongFalsely : Prop := fnExactScaleVectorRow.holds Try.pinned (OpenSpec.ofChange fnExactScaleVectorWrong)

/-- 'laws.FnExactAddVectors': WHATEVER THE INPUT: true; the input reads as it did. -/
def fnExactAddVectorsSpec : ChangeSpec := { name := "fnExactAddVectors", fn := fun _ => fun
  | [d1, d2, d3] => { results := [.lit (.bool true)], args := [d1, d2, d3] }
  | _ => none }
def fnExactAddVectorsRow : OpenClaim := { program := "ytekaeahffaneeaa", sum := "e8c19b471db7e084efb4fe00eb781a8511cf6db818d28956decb9e6cd7a4103c", func := "loop.example/g03404/laws.FnExactAddVectors", spec := "fnExactAddVectors", unfollowed := true, recurses := true, apart := false }
def FnExactAddVectorsSaid : Prop := fnExactAddVectorsRow.holds Try.pinned (OpenSpec.ofChange fnExactAddVectorsSpec)

/-- ITS FALSE NEIGHBOUR: 'it returns false'. Refute it at one input. -/
def fnExactAddVectorsWrong : ChangeSpec := { name := "fnExactAddVectors", fn := fun _ => fun
  | [d1, d2, d3] => { results := [.lit (.bool false)], args := [d1, d2, d3] }
  | _ => none }
def FnExactAddVectorsWrongFalsely : Prop := fnExactAddVectorsRow.holds Try.pinned (OpenSpec.ofChange fnExactAddVectorsWrong)

/-- 'laws.FnFields': WHATEVER THE INPUT: true; the input reads as it did. -/
def fnFieldsSpec : ChangeSpec := { name := "fnFields", fn := fun _ => fun
  | [d] => { results := [.lit (.bool true)], args := [d] }
  | _ => none }
def fnFieldsRow : OpenClaim := { program := "ytekaeahffaneeaa", sum := "e8c19b471db7e084efb4fe00eb781a8511cf6db818d28956decb9e6cd7a4103c", func := "loop.example/g03404/laws.FnFields", spec := "fnFields", unfollowed := true, recurses := true, apart := false }
def FnFieldsSaid : Prop := fnFieldsRow.holds Try.pinned (OpenSpec.ofChange fnFieldsSpec)

/-- ITS FALSE NEIGHBOUR: 'it returns false'. Refute it at one input. -/
def fnFieldsWrong : ChangeSpec := { name := "fnFields", fn := fun _ => fun
  | [d] => { results := [.lit (.bool false)], args := [d] }
  | _ => none }
def FnFieldsWrongFalsely : Prop := fnFieldsRow.holds Try.pinned (OpenSpec.ofChange fnFieldsWrong)

/- THE SECOND FORM. 'bulk': how many values and letters a reading holds, each counted each time it is reached (what is shared counts as often as it is met; a slice's spare places count too). A statement '..UptoSaid' is the law's where the arguments, and the package variables that the reading takes, are together of bulk at most 1048576: NARROWER than '..Said'. Prove '..Said' where nothing that the law and all that it calls make is longer than what came in: it says more and counts as full. Else prove '..UptoSaid'. A law counts once. -/
mutual
def uptoBulk {H : Type} : DataW H → Nat
  | .lit (.string bytes) => bytes.length + 1
  | .lit _ => 1
  | .nil => 1
  | .ptr d => uptoBulk d + 1
  | .slice elems spare => uptoBulkAll elems + uptoBulkAll spare + 1
  | .agg parts => uptoBulkAll parts + 1
  | .iface _ d => uptoBulk d + 1
  | .map entries => uptoBulkEntries entries + 1
  | .held _ => 1
def uptoBulkAll {H : Type} : List (DataW H) → Nat
  | [] => 0
  | d :: r => uptoBulk d + uptoBulkAll r
def uptoBulkEntries {H : Type} : List (Lit × DataW H) → Nat
  | [] => 0
  | x :: r => uptoBulkEntry x + uptoBulkEntries r
def uptoBulkEntry {H : Type} : Lit × DataW H → Nat
  | (.string bytes, d) => bytes.length + uptoBulk d + 1
  | (_, d) => uptoBulk d + 1
 end
def uptoSmall : (H : Type) → List (DataW H) → Bool := fun _ ds => decide (uptoBulkAll ds ≤ 1048576)
def OpenSpec.upto (s : _root_.Go.ChangeSpec) : _root_.Go.OpenSpec := { _root_.Go.OpenSpec.ofChange s with cond := some uptoSmall }

/-- 'laws.FnExactPowerMod', WHERE WHAT IT READS IS OF BULK AT MOST 1048576: true; the input reads as it did. -/
def fnExactPowerModUptoRow : OpenClaim := { program := "ytekaeahffaneeaa", sum := "e8c19b471db7e084efb4fe00eb781a8511cf6db818d28956decb9e6cd7a4103c", func := "loop.example/g03404/laws.FnExactPowerMod", spec := "fnExactPowerMod", apart := false, narrowed := true }
def FnExactPowerModUptoSaid : Prop := fnExactPowerModUptoRow.holds Try.pinned (OpenSpec.upto fnExactPowerModSpec)

/-- 'laws.FnExactCountSpaces', WHERE WHAT IT READS IS OF BULK AT MOST 1048576: true; the input reads as it did. -/
def fnExactCountSpacesUptoRow : OpenClaim := { program := "ytekaeahffaneeaa", sum := "e8c19b471db7e084efb4fe00eb781a8511cf6db818d28956decb9e6cd7a4103c", func := "loop.example/g03404/laws.FnExactCountSpaces", spec := "fnExactCountSpaces", apart := false, narrowed := true }
def FnExactCountSpacesUptoSaid : Prop := fnExactCountSpacesUptoRow.holds Try.pinned (OpenSpec.upto fnExactCountSpacesSpec)

/-- 'laws.FnExactInverseMod', WHERE WHAT IT READS IS OF BULK AT MOST 1048576: true; the input reads as it did. -/
def fnExactInverseModUptoRow : OpenClaim := { program := "ytekaeahffaneeaa", sum := "e8c19b471db7e084efb4fe00eb781a8511cf6db818d28956decb9e6cd7a4103c", func := "loop.example/g03404/laws.FnExactInverseMod", spec := "fnExactInverseMod", apart := false, narrowed := true }
def FnExactInverseModUptoSaid : Prop := fnExactInverseModUptoRow.holds Try.pinned (OpenSpec.upto fnExactInverseModSpec)

/-- 'laws.FnExactDecodeVarint', WHERE WHAT IT READS IS OF BULK AT MOST 1048576: true; the input reads as it did. -/
def fnExactDecodeVarintUptoRow : OpenClaim := { program := "ytekaeahffaneeaa", sum := "e8c19b471db7e084efb4fe00eb781a8511cf6db818d28956decb9e6cd7a4103c", func := "loop.example/g03404/laws.FnExactDecodeVarint", spec := "fnExactDecodeVarint", apart := false, narrowed := true }
def FnExactDecodeVarintUptoSaid : Prop := fnExactDecodeVarintUptoRow.holds Try.pinned (OpenSpec.upto fnExactDecodeVarintSpec)

/-- 'laws.FnExactIsVector', WHERE WHAT IT READS IS OF BULK AT MOST 1048576: true; the input reads as it did. -/
def fnExactIsVectorUptoRow : OpenClaim := { program := "ytekaeahffaneeaa", sum := "e8c19b471db7e084efb4fe00eb781a8511cf6db818d28956decb9e6cd7a4103c", func := "loop.example/g03404/laws.FnExactIsVector", spec := "fnExactIsVector", unfollowed := true, recurses := true, apart := false, narrowed := true }
def FnExactIsVectorUptoSaid : Prop := fnExactIsVectorUptoRow.holds Try.pinned (OpenSpec.upto fnExactIsVectorSpec)

/-- 'laws.FnExactVectorOf', WHERE WHAT IT READS IS OF BULK AT MOST 1048576: true; the input reads as it did. -/
def fnExactVectorOfUptoRow : OpenClaim := { program := "ytekaeahffaneeaa", sum := "e8c19b471db7e084efb4fe00eb781a8511cf6db818d28956decb9e6cd7a4103c", func := "loop.example/g03404/laws.FnExactVectorOf", spec := "fnExactVectorOf", apart := false, narrowed := true }
def FnExactVectorOfUptoSaid : Prop := fnExactVectorOfUptoRow.holds Try.pinned (OpenSpec.upto fnExactVectorOfSpec)

/-- 'laws.FnExactZeroMatrix', WHERE WHAT IT READS IS OF BULK AT MOST 1048576: true; the input reads as it did. -/
def fnExactZeroMatrixUptoRow : OpenClaim := { program := "ytekaeahffaneeaa", sum := "e8c19b471db7e084efb4fe00eb781a8511cf6db818d28956decb9e6cd7a4103c", func := "loop.example/g03404/laws.FnExactZeroMatrix", spec := "fnExactZeroMatrix", apart := false, narrowed := true }
def FnExactZeroMatrixUptoSaid : Prop := fnExactZeroMatrixUptoRow.holds Try.pinned (OpenSpec.upto fnExactZeroMatrixSpec)

/-- 'laws.FnExactCodeOf', WHERE WHAT IT READS IS OF BULK AT MOST 1048576: true; the input reads as it did. -/
def fnExactCodeOfUptoRow : OpenClaim := { program := "ytekaeahffaneeaa", sum := "e8c19b471db7e084efb4fe00eb781a8511cf6db818d28956decb9e6cd7a4103c", func := "loop.example/g03404/laws.FnExactCodeOf", spec := "fnExactCodeOf", unfollowed := true, recurses := true, apart := false, narrowed := true }
def FnExactCodeOfUptoSaid : Prop := fnExactCodeOfUptoRow.holds Try.pinned (OpenSpec.upto fnExactCodeOfSpec)

/-- 'laws.FnExactIdentityMatrix', WHERE WHAT IT READS IS OF BULK AT MOST 1048576: true; the input reads as it did. -/
def fnExactIdentityMatrixUptoRow : OpenClaim := { program := "ytekaeahffaneeaa", sum := "e8c19b471db7e084efb4fe00eb781a8511cf6db818d28956decb9e6cd7a4103c", func := "loop.example/g03404/laws.FnExactIdentityMatrix", spec := "fnExactIdentityMatrix", apart := false, narrowed := true }
def FnExactIdentityMatrixUptoSaid : Prop := fnExactIdentityMatrixUptoRow.holds Try.pinned (OpenSpec.upto fnExactIdentityMatrixSpec)

/-- 'laws.FnExactScaleVector', WHERE WHAT IT READS IS OF BULK AT MOST 1048576: true; the input reads as it did. -/
def fnExactScaleVectorUptoRow : OpenClaim := { program := "ytekaeahffaneeaa", sum := "e8c19b471db7e084efb4fe00eb781a8511cf6db818d28956decb9e6cd7a4103c", func := "loop.example/g03404/laws.FnExactScaleVector", spec := "fnExactScaleVector", unfollowed := true, recurses := true, apart := false, narrowed := true }
def FnExactScaleVectorUptoSaid : Prop := fnExactScaleVectorUptoRow.holds Try.pinned (OpenSpec.upto fnExactScaleVectorSpec)

/-- 'laws.FnExactAddVectors', WHERE WHAT IT READS IS OF BULK AT MOST 1048576: true; the input reads as it did. -/
def fnExactAddVectorsUptoRow : OpenClaim := { program := "ytekaeahffaneeaa", sum := "e8c19b471db7e084efb4fe00eb781a8511cf6db818d28956decb9e6cd7a4103c", func := "loop.example/g03404/laws.FnExactAddVectors", spec := "fnExactAddVectors", unfollowed := true, recurses := true, apart := false, narrowed := true }
def FnExactAddVectorsUptoSaid : Prop := fnExactAddVectorsUptoRow.holds Try.pinned (OpenSpec.upto fnExactAddVectorsSpec)

/-- 'laws.FnFields', WHERE WHAT IT READS IS OF BULK AT MOST 1048576: true; the input reads as it did. -/
def fnFieldsUptoRow : OpenClaim := { program := "ytekaeahffaneeaa", sum := "e8c19b471db7e084efb4fe00eb781a8511cf6db818d28956decb9e6cd7a4103c", func := "loop.example/g03404/laws.FnFields", spec := "fnFields", unfollowed := true, recurses := true, apart := false, narrowed := true }
def FnFieldsUptoSaid : Prop := fnFieldsUptoRow.holds Try.pinned (OpenSpec.upto fnFieldsSpec)

end Rows
end Go.Proofs.Ytekaeahffaneeaa
