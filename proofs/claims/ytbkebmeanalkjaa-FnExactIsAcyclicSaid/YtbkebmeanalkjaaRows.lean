/-
  No cell of these rows narrows 'for every input' (looked for: loops, veiled, ifaces, maps, wideKeys, modest, calm, conditions, laid).
  DERIVED. THE GIVEN ROWS OF THIS SEAT. 12 by the template 'for every input the law returns true; each argument reads behind the call as it read before'; 0 by the template 'total and deterministic' (their statements: YtbkebmeanalkjaaTotals.lean).
  GIVEN WITH THE SEED: the statements are not yours to turn. If you find one false, say at which input.
  Laid BY PROGRAM, IN A SANDBOX (cutbox-rows.mjs): the forced cells as the released guide's own fill.sh prints them over the translation 4dc571c3d620125d… (all of the seat's roots in one cut). By AI agents, Wed Nov 11 2026. No macro, syntax, notation, axiom, sorry.
-/
import Derived.Test.YtbkebmeanalkjaaChecked
import GoSem.Claim
import GoSem.ClaimJoined
import GoSem.ClaimMapViews
import Derived.JoinedTies
import Derived.KernelRfl
namespace Go.Proofs.Ytbkebmeanalkjaa
/- THE CELL 'sum', in the pinned program and in every row, IS THE sha256 OF THE DUMP (.gsa) THAT YtbkebmeanalkjaaProg.lean LOADS. Nothing in Lean hashes anything: it is a label: what it is worth is what the hold of that sum in a sandbox is worth. -/
noncomputable def Try.pinned : Pinned := { name := "ytbkebmeanalkjaa", sum := "4dc571c3d620125d4f789ba76964e0317b8cde1166d274a288dfbb99699c3479", checked := Try.checked }
namespace Rows
def none {H : Type} : Left H := { results := [], args := [] }

/-- 'laws.FnExactEqualPaths': WHATEVER THE INPUT: true; the input reads as it did. -/
def fnExactEqualPathsSpec : ChangeSpec := { name := "fnExactEqualPaths", fn := fun _ => fun
  | [d1, d2] => { results := [.lit (.bool true)], args := [d1, d2] }
  | _ => none }
def fnExactEqualPathsRow : OpenClaim := { program := "ytbkebmeanalkjaa", sum := "4dc571c3d620125d4f789ba76964e0317b8cde1166d274a288dfbb99699c3479", func := "loop.example/g03404/laws.FnExactEqualPaths", spec := "fnExactEqualPaths", apart := false }
def FnExactEqualPathsSaid : Prop := fnExactEqualPathsRow.holds Try.pinned (OpenSpec.ofChange fnExactEqualPathsSpec)

/-- ITS FALSE NEIGHBOUR: 'it returns false'. Refute it at one input. -/
def fnExactEqualPathsWrong : ChangeSpec := { name := "fnExactEqualPaths", fn := fun _ => fun
  | [d1, d2] => { results := [.lit (.bool false)], args := [d1, d2] }
  | _ => none }
def FnExactEqualPathsWrongFalsely : Prop := fnExactEqualPathsRow.holds Try.pinned (OpenSpec.ofChange fnExactEqualPathsWrong)

/-- 'laws.FnExactEqualQuivers': WHATEVER THE INPUT: true; the input reads as it did. -/
def fnExactEqualQuiversSpec : ChangeSpec := { name := "fnExactEqualQuivers", fn := fun _ => fun
  | [d1, d2] => { results := [.lit (.bool true)], args := [d1, d2] }
  | _ => none }
def fnExactEqualQuiversRow : OpenClaim := { program := "ytbkebmeanalkjaa", sum := "4dc571c3d620125d4f789ba76964e0317b8cde1166d274a288dfbb99699c3479", func := "loop.example/g03404/laws.FnExactEqualQuivers", spec := "fnExactEqualQuivers", apart := false }
def FnExactEqualQuiversSaid : Prop := fnExactEqualQuiversRow.holds Try.pinned (OpenSpec.ofChange fnExactEqualQuiversSpec)

/-- ITS FALSE NEIGHBOUR: 'it returns false'. Refute it at one input. -/
def fnExactEqualQuiversWrong : ChangeSpec := { name := "fnExactEqualQuivers", fn := fun _ => fun
  | [d1, d2] => { results := [.lit (.bool false)], args := [d1, d2] }
  | _ => none }
def FnExactEqualQuiversWrongFalsely : Prop := fnExactEqualQuiversRow.holds Try.pinned (OpenSpec.ofChange fnExactEqualQuiversWrong)

/-- 'laws.FnExactIsQuiver': WHATEVER THE INPUT: true; the input reads as it did. -/
def fnExactIsQuiverSpec : ChangeSpec := { name := "fnExactIsQuiver", fn := fun _ => fun
  | [d] => { results := [.lit (.bool true)], args := [d] }
  | _ => none }
def fnExactIsQuiverRow : OpenClaim := { program := "ytbkebmeanalkjaa", sum := "4dc571c3d620125d4f789ba76964e0317b8cde1166d274a288dfbb99699c3479", func := "loop.example/g03404/laws.FnExactIsQuiver", spec := "fnExactIsQuiver", unfollowed := true, recurses := true, apart := false }
def FnExactIsQuiverSaid : Prop := fnExactIsQuiverRow.holds Try.pinned (OpenSpec.ofChange fnExactIsQuiverSpec)

/-- ITS FALSE NEIGHBOUR: 'it returns false'. Refute it at one input. -/
def fnExactIsQuiverWrong : ChangeSpec := { name := "fnExactIsQuiver", fn := fun _ => fun
  | [d] => { results := [.lit (.bool false)], args := [d] }
  | _ => none }
def FnExactIsQuiverWrongFalsely : Prop := fnExactIsQuiverRow.holds Try.pinned (OpenSpec.ofChange fnExactIsQuiverWrong)

/-- 'laws.FnExactAreDims': WHATEVER THE INPUT: true; the input reads as it did. -/
def fnExactAreDimsSpec : ChangeSpec := { name := "fnExactAreDims", fn := fun _ => fun
  | [d1, d2] => { results := [.lit (.bool true)], args := [d1, d2] }
  | _ => none }
def fnExactAreDimsRow : OpenClaim := { program := "ytbkebmeanalkjaa", sum := "4dc571c3d620125d4f789ba76964e0317b8cde1166d274a288dfbb99699c3479", func := "loop.example/g03404/laws.FnExactAreDims", spec := "fnExactAreDims", unfollowed := true, recurses := true, apart := false }
def FnExactAreDimsSaid : Prop := fnExactAreDimsRow.holds Try.pinned (OpenSpec.ofChange fnExactAreDimsSpec)

/-- ITS FALSE NEIGHBOUR: 'it returns false'. Refute it at one input. -/
def fnExactAreDimsWrong : ChangeSpec := { name := "fnExactAreDims", fn := fun _ => fun
  | [d1, d2] => { results := [.lit (.bool false)], args := [d1, d2] }
  | _ => none }
def FnExactAreDimsWrongFalsely : Prop := fnExactAreDimsRow.holds Try.pinned (OpenSpec.ofChange fnExactAreDimsWrong)

/-- 'laws.FnExactIsConnectedQuiver': WHATEVER THE INPUT: true; the input reads as it did. -/
def fnExactIsConnectedQuiverSpec : ChangeSpec := { name := "fnExactIsConnectedQuiver", fn := fun _ => fun
  | [d] => { results := [.lit (.bool true)], args := [d] }
  | _ => none }
def fnExactIsConnectedQuiverRow : OpenClaim := { program := "ytbkebmeanalkjaa", sum := "4dc571c3d620125d4f789ba76964e0317b8cde1166d274a288dfbb99699c3479", func := "loop.example/g03404/laws.FnExactIsConnectedQuiver", spec := "fnExactIsConnectedQuiver", unfollowed := true, recurses := true, apart := false }
def FnExactIsConnectedQuiverSaid : Prop := fnExactIsConnectedQuiverRow.holds Try.pinned (OpenSpec.ofChange fnExactIsConnectedQuiverSpec)

/-- ITS FALSE NEIGHBOUR: 'it returns false'. Refute it at one input. -/
def fnExactIsConnectedQuiverWrong : ChangeSpec := { name := "fnExactIsConnectedQuiver", fn := fun _ => fun
  | [d] => { results := [.lit (.bool false)], args := [d] }
  | _ => none }
def FnExactIsConnectedQuiverWrongFalsely : Prop := fnExactIsConnectedQuiverRow.holds Try.pinned (OpenSpec.ofChange fnExactIsConnectedQuiverWrong)

/-- 'laws.FnExactIsPath': WHATEVER THE INPUT: true; the input reads as it did. -/
def fnExactIsPathSpec : ChangeSpec := { name := "fnExactIsPath", fn := fun _ => fun
  | [d1, d2] => { results := [.lit (.bool true)], args := [d1, d2] }
  | _ => none }
def fnExactIsPathRow : OpenClaim := { program := "ytbkebmeanalkjaa", sum := "4dc571c3d620125d4f789ba76964e0317b8cde1166d274a288dfbb99699c3479", func := "loop.example/g03404/laws.FnExactIsPath", spec := "fnExactIsPath", unfollowed := true, recurses := true, apart := false }
def FnExactIsPathSaid : Prop := fnExactIsPathRow.holds Try.pinned (OpenSpec.ofChange fnExactIsPathSpec)

/-- ITS FALSE NEIGHBOUR: 'it returns false'. Refute it at one input. -/
def fnExactIsPathWrong : ChangeSpec := { name := "fnExactIsPath", fn := fun _ => fun
  | [d1, d2] => { results := [.lit (.bool false)], args := [d1, d2] }
  | _ => none }
def FnExactIsPathWrongFalsely : Prop := fnExactIsPathRow.holds Try.pinned (OpenSpec.ofChange fnExactIsPathWrong)

/-- 'laws.FnExactOppositeOf': WHATEVER THE INPUT: true; the input reads as it did. -/
def fnExactOppositeOfSpec : ChangeSpec := { name := "fnExactOppositeOf", fn := fun _ => fun
  | [d] => { results := [.lit (.bool true)], args := [d] }
  | _ => none }
def fnExactOppositeOfRow : OpenClaim := { program := "ytbkebmeanalkjaa", sum := "4dc571c3d620125d4f789ba76964e0317b8cde1166d274a288dfbb99699c3479", func := "loop.example/g03404/laws.FnExactOppositeOf", spec := "fnExactOppositeOf", unfollowed := true, recurses := true, apart := false }
def FnExactOppositeOfSaid : Prop := fnExactOppositeOfRow.holds Try.pinned (OpenSpec.ofChange fnExactOppositeOfSpec)

/-- ITS FALSE NEIGHBOUR: 'it returns false'. Refute it at one input. -/
def fnExactOppositeOfWrong : ChangeSpec := { name := "fnExactOppositeOf", fn := fun _ => fun
  | [d] => { results := [.lit (.bool false)], args := [d] }
  | _ => none }
def FnExactOppositeOfWrongFalsely : Prop := fnExactOppositeOfRow.holds Try.pinned (OpenSpec.ofChange fnExactOppositeOfWrong)

/-- 'laws.FnExactSinksOf': WHATEVER THE INPUT: true; the input reads as it did. -/
def fnExactSinksOfSpec : ChangeSpec := { name := "fnExactSinksOf", fn := fun _ => fun
  | [d] => { results := [.lit (.bool true)], args := [d] }
  | _ => none }
def fnExactSinksOfRow : OpenClaim := { program := "ytbkebmeanalkjaa", sum := "4dc571c3d620125d4f789ba76964e0317b8cde1166d274a288dfbb99699c3479", func := "loop.example/g03404/laws.FnExactSinksOf", spec := "fnExactSinksOf", unfollowed := true, recurses := true, apart := false }
def FnExactSinksOfSaid : Prop := fnExactSinksOfRow.holds Try.pinned (OpenSpec.ofChange fnExactSinksOfSpec)

/-- ITS FALSE NEIGHBOUR: 'it returns false'. Refute it at one input. -/
def fnExactSinksOfWrong : ChangeSpec := { name := "fnExactSinksOf", fn := fun _ => fun
  | [d] => { results := [.lit (.bool false)], args := [d] }
  | _ => none }
def FnExactSinksOfWrongFalsely : Prop := fnExactSinksOfRow.holds Try.pinned (OpenSpec.ofChange fnExactSinksOfWrong)

/-- 'laws.FnExactSourcesOf': WHATEVER THE INPUT: true; the input reads as it did. -/
def fnExactSourcesOfSpec : ChangeSpec := { name := "fnExactSourcesOf", fn := fun _ => fun
  | [d] => { results := [.lit (.bool true)], args := [d] }
  | _ => none }
def fnExactSourcesOfRow : OpenClaim := { program := "ytbkebmeanalkjaa", sum := "4dc571c3d620125d4f789ba76964e0317b8cde1166d274a288dfbb99699c3479", func := "loop.example/g03404/laws.FnExactSourcesOf", spec := "fnExactSourcesOf", unfollowed := true, recurses := true, apart := false }
def FnExactSourcesOfSaid : Prop := fnExactSourcesOfRow.holds Try.pinned (OpenSpec.ofChange fnExactSourcesOfSpec)

/-- ITS FALSE NEIGHBOUR: 'it returns false'. Refute it at one input. -/
def fnExactSourcesOfWrong : ChangeSpec := { name := "fnExactSourcesOf", fn := fun _ => fun
  | [d] => { results := [.lit (.bool false)], args := [d] }
  | _ => none }
def FnExactSourcesOfWrongFalsely : Prop := fnExactSourcesOfRow.holds Try.pinned (OpenSpec.ofChange fnExactSourcesOfWrong)

/-- 'laws.FnExactEndOf': WHATEVER THE INPUT: true; the input reads as it did. -/
def fnExactEndOfSpec : ChangeSpec := { name := "fnExactEndOf", fn := fun _ => fun
  | [d1, d2] => { results := [.lit (.bool true)], args := [d1, d2] }
  | _ => none }
def fnExactEndOfRow : OpenClaim := { program := "ytbkebmeanalkjaa", sum := "4dc571c3d620125d4f789ba76964e0317b8cde1166d274a288dfbb99699c3479", func := "loop.example/g03404/laws.FnExactEndOf", spec := "fnExactEndOf", unfollowed := true, recurses := true, apart := false }
def FnExactEndOfSaid : Prop := fnExactEndOfRow.holds Try.pinned (OpenSpec.ofChange fnExactEndOfSpec)

/-- ITS FALSE NEIGHBOUR: 'it returns false'. Refute it at one input. -/
def fnExactEndOfWrong : ChangeSpec := { name := "fnExactEndOf", fn := fun _ => fun
  | [d1, d2] => { results := [.lit (.bool false)], args := [d1, d2] }
  | _ => none }
def FnExactEndOfWrongFalsely : Prop := fnExactEndOfRow.holds Try.pinned (OpenSpec.ofChange fnExactEndOfWrong)

/-- 'laws.FnExactIsAcyclic': WHATEVER THE INPUT: true; the input reads as it did. -/
def fnExactIsAcyclicSpec : ChangeSpec := { name := "fnExactIsAcyclic", fn := fun _ => fun
  | [d] => { results := [.lit (.bool true)], args := [d] }
  | _ => none }
def fnExactIsAcyclicRow : OpenClaim := { program := "ytbkebmeanalkjaa", sum := "4dc571c3d620125d4f789ba76964e0317b8cde1166d274a288dfbb99699c3479", func := "loop.example/g03404/laws.FnExactIsAcyclic", spec := "fnExactIsAcyclic", unfollowed := true, recurses := true, apart := false }
def FnExactIsAcyclicSaid : Prop := fnExactIsAcyclicRow.holds Try.pinned (OpenSpec.ofChange fnExactIsAcyclicSpec)

/-- ITS FALSE NEIGHBOUR: 'it returns false'. Refute it at one input. -/
def fnExactIsAcyclicWrong : ChangeSpec := { name := "fnExactIsAcyclic", fn := fun _ => fun
  | [d] => { results := [.lit (.bool false)], args := [d] }
  | _ => none }
def FnExactIsAcyclicWrongFalsely : Prop := fnExactIsAcyclicRow.holds Try.pinned (OpenSpec.ofChange fnExactIsAcyclicWrong)

/-- 'laws.FnExactOrderOf': WHATEVER THE INPUT: true; the input reads as it did. -/
def fnExactOrderOfSpec : ChangeSpec := { name := "fnExactOrderOf", fn := fun _ => fun
  | [d] => { results := [.lit (.bool true)], args := [d] }
  | _ => none }
def fnExactOrderOfRow : OpenClaim := { program := "ytbkebmeanalkjaa", sum := "4dc571c3d620125d4f789ba76964e0317b8cde1166d274a288dfbb99699c3479", func := "loop.example/g03404/laws.FnExactOrderOf", spec := "fnExactOrderOf", unfollowed := true, recurses := true, apart := false }
def FnExactOrderOfSaid : Prop := fnExactOrderOfRow.holds Try.pinned (OpenSpec.ofChange fnExactOrderOfSpec)

/-- ITS FALSE NEIGHBOUR: 'it returns false'. Refute it at one input. -/
def fnExactOrderOfWrong : ChangeSpec := { name := "fnExactOrderOf", fn := fun _ => fun
  | [d] => { results := [.lit (.bool false)], args := [d] }
  | _ => none }
def FnExactOrderOfWrongFalsely : Prop := fnExactOrderOfRow.holds Try.pinned (OpenSpec.ofChange fnExactOrderOfWrong)

/- THE SECOND FORM. 'bulk': how many values and letters a reading holds, each counted each time it is reached (what is shared counts as often as it is met; a slice's spare places count too). A statement '..UptoSaid' is the law's where the arguments, and the package variables that the reading takes, are together of bulk at most 1048576: NARROWER than '..Said'. Prove '..Said' where nothing that the law and all that it calls make is longer than what came in: it says more and counts as full. Else prove '..UptoSaid'. A law counts once. -/
mutual
def uptoBulk {H : Type} : DataW H → Nat
  | .lit (.string bytes) => bytes.length + 1
  | .lit _ => 1
  | .nil => 1
  | .ptr d => uptoBulk d + 1
  | .slice elems spare => uptoBulkAll elems + uptoBulkAll spare + 1
  | .agg parts => uptoBulkAll parts + 1
  | .iface _ d => uptoBulk d + 1
  | .map entries => uptoBulkEntries entries + 1
  | .held _ => 1
def uptoBulkAll {H : Type} : List (DataW H) → Nat
  | [] => 0
  | d :: r => uptoBulk d + uptoBulkAll r
def uptoBulkEntries {H : Type} : List (Lit × DataW H) → Nat
  | [] => 0
  | x :: r => uptoBulkEntry x + uptoBulkEntries r
def uptoBulkEntry {H : Type} : Lit × DataW H → Nat
  | (.string bytes, d) => bytes.length + uptoBulk d + 1
  | (_, d) => uptoBulk d + 1
 end
def uptoSmall : (H : Type) → List (DataW H) → Bool := fun _ ds => decide (uptoBulkAll ds ≤ 1048576)
def OpenSpec.upto (s : _root_.Go.ChangeSpec) : _root_.Go.OpenSpec := { _root_.Go.OpenSpec.ofChange s with cond := some uptoSmall }

/-- 'laws.FnExactEqualPaths', WHERE WHAT IT READS IS OF BULK AT MOST 1048576: true; the input reads as it did. -/
def fnExactEqualPathsUptoRow : OpenClaim := { program := "ytbkebmeanalkjaa", sum := "4dc571c3d620125d4f789ba76964e0317b8cde1166d274a288dfbb99699c3479", func := "loop.example/g03404/laws.FnExactEqualPaths", spec := "fnExactEqualPaths", apart := false, narrowed := true }
def FnExactEqualPathsUptoSaid : Prop := fnExactEqualPathsUptoRow.holds Try.pinned (OpenSpec.upto fnExactEqualPathsSpec)

/-- 'laws.FnExactEqualQuivers', WHERE WHAT IT READS IS OF BULK AT MOST 1048576: true; the input reads as it did. -/
def fnExactEqualQuiversUptoRow : OpenClaim := { program := "ytbkebmeanalkjaa", sum := "4dc571c3d620125d4f789ba76964e0317b8cde1166d274a288dfbb99699c3479", func := "loop.example/g03404/laws.FnExactEqualQuivers", spec := "fnExactEqualQuivers", apart := false, narrowed := true }
def FnExactEqualQuiversUptoSaid : Prop := fnExactEqualQuiversUptoRow.holds Try.pinned (OpenSpec.upto fnExactEqualQuiversSpec)

/-- 'laws.FnExactIsQuiver', WHERE WHAT IT READS IS OF BULK AT MOST 1048576: true; the input reads as it did. -/
def fnExactIsQuiverUptoRow : OpenClaim := { program := "ytbkebmeanalkjaa", sum := "4dc571c3d620125d4f789ba76964e0317b8cde1166d274a288dfbb99699c3479", func := "loop.example/g03404/laws.FnExactIsQuiver", spec := "fnExactIsQuiver", unfollowed := true, recurses := true, apart := false, narrowed := true }
def FnExactIsQuiverUptoSaid : Prop := fnExactIsQuiverUptoRow.holds Try.pinned (OpenSpec.upto fnExactIsQuiverSpec)

/-- 'laws.FnExactAreDims', WHERE WHAT IT READS IS OF BULK AT MOST 1048576: true; the input reads as it did. -/
def fnExactAreDimsUptoRow : OpenClaim := { program := "ytbkebmeanalkjaa", sum := "4dc571c3d620125d4f789ba76964e0317b8cde1166d274a288dfbb99699c3479", func := "loop.example/g03404/laws.FnExactAreDims", spec := "fnExactAreDims", unfollowed := true, recurses := true, apart := false, narrowed := true }
def FnExactAreDimsUptoSaid : Prop := fnExactAreDimsUptoRow.holds Try.pinned (OpenSpec.upto fnExactAreDimsSpec)

/-- 'laws.FnExactIsConnectedQuiver', WHERE WHAT IT READS IS OF BULK AT MOST 1048576: true; the input reads as it did. -/
def fnExactIsConnectedQuiverUptoRow : OpenClaim := { program := "ytbkebmeanalkjaa", sum := "4dc571c3d620125d4f789ba76964e0317b8cde1166d274a288dfbb99699c3479", func := "loop.example/g03404/laws.FnExactIsConnectedQuiver", spec := "fnExactIsConnectedQuiver", unfollowed := true, recurses := true, apart := false, narrowed := true }
def FnExactIsConnectedQuiverUptoSaid : Prop := fnExactIsConnectedQuiverUptoRow.holds Try.pinned (OpenSpec.upto fnExactIsConnectedQuiverSpec)

/-- 'laws.FnExactIsPath', WHERE WHAT IT READS IS OF BULK AT MOST 1048576: true; the input reads as it did. -/
def fnExactIsPathUptoRow : OpenClaim := { program := "ytbkebmeanalkjaa", sum := "4dc571c3d620125d4f789ba76964e0317b8cde1166d274a288dfbb99699c3479", func := "loop.example/g03404/laws.FnExactIsPath", spec := "fnExactIsPath", unfollowed := true, recurses := true, apart := false, narrowed := true }
def FnExactIsPathUptoSaid : Prop := fnExactIsPathUptoRow.holds Try.pinned (OpenSpec.upto fnExactIsPathSpec)

/-- 'laws.FnExactOppositeOf', WHERE WHAT IT READS IS OF BULK AT MOST 1048576: true; the input reads as it did. -/
def fnExactOppositeOfUptoRow : OpenClaim := { program := "ytbkebmeanalkjaa", sum := "4dc571c3d620125d4f789ba76964e0317b8cde1166d274a288dfbb99699c3479", func := "loop.example/g03404/laws.FnExactOppositeOf", spec := "fnExactOppositeOf", unfollowed := true, recurses := true, apart := false, narrowed := true }
def FnExactOppositeOfUptoSaid : Prop := fnExactOppositeOfUptoRow.holds Try.pinned (OpenSpec.upto fnExactOppositeOfSpec)

/-- 'laws.FnExactSinksOf', WHERE WHAT IT READS IS OF BULK AT MOST 1048576: true; the input reads as it did. -/
def fnExactSinksOfUptoRow : OpenClaim := { program := "ytbkebmeanalkjaa", sum := "4dc571c3d620125d4f789ba76964e0317b8cde1166d274a288dfbb99699c3479", func := "loop.example/g03404/laws.FnExactSinksOf", spec := "fnExactSinksOf", unfollowed := true, recurses := true, apart := false, narrowed := true }
def FnExactSinksOfUptoSaid : Prop := fnExactSinksOfUptoRow.holds Try.pinned (OpenSpec.upto fnExactSinksOfSpec)

/-- 'laws.FnExactSourcesOf', WHERE WHAT IT READS IS OF BULK AT MOST 1048576: true; the input reads as it did. -/
def fnExactSourcesOfUptoRow : OpenClaim := { program := "ytbkebmeanalkjaa", sum := "4dc571c3d620125d4f789ba76964e0317b8cde1166d274a288dfbb99699c3479", func := "loop.example/g03404/laws.FnExactSourcesOf", spec := "fnExactSourcesOf", unfollowed := true, recurses := true, apart := false, narrowed := true }
def FnExactSourcesOfUptoSaid : Prop := fnExactSourcesOfUptoRow.holds Try.pinned (OpenSpec.upto fnExactSourcesOfSpec)

/-- 'laws.FnExactEndOf', WHERE WHAT IT READS IS OF BULK AT MOST 1048576: true; the input reads as it did. -/
def fnExactEndOfUptoRow : OpenClaim := { program := "ytbkebmeanalkjaa", sum := "4dc571c3d620125d4f789ba76964e0317b8cde1166d274a288dfbb99699c3479", func := "loop.example/g03404/laws.FnExactEndOf", spec := "fnExactEndOf", unfollowed := true, recurses := true, apart := false, narrowed := true }
def FnExactEndOfUptoSaid : Prop := fnExactEndOfUptoRow.holds Try.pinned (OpenSpec.upto fnExactEndOfSpec)

/-- 'laws.FnExactIsAcyclic', WHERE WHAT IT READS IS OF BULK AT MOST 1048576: true; the input reads as it did. -/
def fnExactIsAcyclicUptoRow : OpenClaim := { program := "ytbkebmeanalkjaa", sum := "4dc571c3d620125d4f789ba76964e0317b8cde1166d274a288dfbb99699c3479", func := "loop.example/g03404/laws.FnExactIsAcyclic", spec := "fnExactIsAcyclic", unfollowed := true, recurses := true, apart := false, narrowed := true }
def FnExactIsAcyclicUptoSaid : Prop := fnExactIsAcyclicUptoRow.holds Try.pinned (OpenSpec.upto fnExactIsAcyclicSpec)

/-- 'laws.FnExactOrderOf', WHERE WHAT IT READS IS OF BULK AT MOST 1048576: true; the input reads as it did. -/
def fnExactOrderOfUptoRow : OpenClaim := { program := "ytbkebmeanalkjaa", sum := "4dc571c3d620125d4f789ba76964e0317b8cde1166d274a288dfbb99699c3479", func := "loop.example/g03404/laws.FnExactOrderOf", spec := "fnExactOrderOf", unfollowed := true, recurses := true, apart := false, narrowed := true }
def FnExactOrderOfUptoSaid : Prop := fnExactOrderOfUptoRow.holds Try.pinned (OpenSpec.upto fnExactOrderOfSpec)

end Rows
end Go.Proofs.Ytbkebmeanalkjaa
