/- That values made one after the other lie in blocks of their own. -/
import Derived.Test.YteaiikbebleiiaaMem
namespace Go.Proofs.Yteaiikbebleiiaa
open Go.RowKit
set_option linter.unusedVariables false

theorem sep_new {w : World} {u v : Value} {l : List Int} (hu : Ints w u l) (hf : FreshV w.heap.size v) : ∀ k, blk u = some k → ¬ blk v = some k :=
  fun k hk hk' => by have := hu.lt k hk; have := hf k hk'; omega
theorem sep_symm {u v : Value} (h : ∀ k, blk u = some k → ¬ blk v = some k) : ∀ k, blk v = some k → ¬ blk u = some k := fun k hk hk' => h k hk' hk
theorem sep_blk_new {w : World} {b : Nat} {cs : Array Value} {T : TypeId} {v : Value} (p : Blk w b cs T) (hf : FreshV w.heap.size v) : ¬ blk v = some b :=
  fun h => by have := p.lt; have := hf b h; omega
theorem sep_blk_old {w : World} {u : Value} {l : List Int} (hu : Ints w u l) : ¬ blk u = some w.heap.size :=
  fun h => by have := hu.lt _ h; omega
theorem blk3 {w : World} {b : Nat} {x y z : Value} {T : TypeId} (p : Blk w b #[x, y, z] T) : w.cell? ⟨b, 0, none⟩ = some x ∧ w.cell? ⟨b, 1, none⟩ = some y ∧ w.cell? ⟨b, 2, none⟩ = some z :=
  ⟨p.cell 0, p.cell 1, p.cell 2⟩

theorem below_of_drew {w w' : World} (h : Below w.drew.heap.size w.drew w') : Below w.heap.size w w' := ⟨h.os, h.tape, h.output, h.size, h.block⟩

end Go.Proofs.Yteaiikbebleiiaa
