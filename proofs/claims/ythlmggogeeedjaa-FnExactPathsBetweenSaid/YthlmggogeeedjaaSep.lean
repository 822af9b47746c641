/- That values made one after the other lie in blocks of their own. -/
import Derived.Test.YthlmggogeeedjaaMem
namespace Go.Proofs.Ythlmggogeeedjaa
open Go.RowKit
set_option linter.unusedVariables false
set_option linter.unusedSimpArgs false

theorem sep_new {w : World} {u v : Value} {l : List Int} (hu : Ints w u l) (hf : FreshV w.heap.size v) : ∀ k, blk u = some k → ¬ blk v = some k :=
  fun k hk hk' => by have := hu.lt k hk; have := hf k hk'; omega
theorem sep_symm {u v : Value} (h : ∀ k, blk u = some k → ¬ blk v = some k) : ∀ k, blk v = some k → ¬ blk u = some k := fun k hk hk' => h k hk' hk
theorem sep_blk_new {w : World} {b : Nat} {cs : Array Value} {T : TypeId} {v : Value} (p : Blk w b cs T) (hf : FreshV w.heap.size v) : ¬ blk v = some b :=
  fun h => by have := p.lt; have := hf b h; omega
theorem sep_blk_old {w : World} {u : Value} {l : List Int} (hu : Ints w u l) : ¬ blk u = some w.heap.size :=
  fun h => by have := hu.lt _ h; omega
theorem blk3 {w : World} {b : Nat} {x y z : Value} {T : TypeId} (p : Blk w b #[x, y, z] T) : w.cell? ⟨b, 0, none⟩ = some x ∧ w.cell? ⟨b, 1, none⟩ = some y ∧ w.cell? ⟨b, 2, none⟩ = some z :=
  ⟨p.cell 0, p.cell 1, p.cell 2⟩

theorem below_of_drew {w w' : World} (h : Below w.drew.heap.size w.drew w') : Below w.heap.size w w' := ⟨h.os, h.tape, h.output, h.size, h.block⟩

theorem blk2 {w : World} {b : Nat} {x y : Value} {T : TypeId} (p : Blk w b #[x, y] T) : w.cell? ⟨b, 0, none⟩ = some x ∧ w.cell? ⟨b, 1, none⟩ = some y :=
  ⟨p.cell 0, p.cell 1⟩
theorem blk4 {w : World} {b : Nat} {x y z t : Value} {T : TypeId} (p : Blk w b #[x, y, z, t] T) : w.cell? ⟨b, 0, none⟩ = some x ∧ w.cell? ⟨b, 1, none⟩ = some y ∧ w.cell? ⟨b, 2, none⟩ = some z ∧ w.cell? ⟨b, 3, none⟩ = some t :=
  ⟨p.cell 0, p.cell 1, p.cell 2, p.cell 3⟩
def set2 (w : World) (b : Nat) (y0 y1 : Value) : World := (w.setCell ⟨b, 0, none⟩ y0).setCell ⟨b, 1, none⟩ y1
theorem set2_blk {w : World} {b : Nat} {x0 x1 : Value} {T : TypeId} (h : Blk w b #[x0, x1] T) (y0 y1 : Value) : Blk (set2 w b y0 y1) b #[y0, y1] T := (h.set 0 y0).set 1 y1
theorem set2_below {B : Nat} {a w : World} (h : Below B a w) {b : Nat} (hb : B ≤ b) (y0 y1 : Value) : Below B a (set2 w b y0 y1) :=
  (h.setCell (p := ⟨b, 0, none⟩) hb y0).setCell (p := ⟨b, 1, none⟩) hb y1
theorem set2_other {w : World} {b : Nat} (y0 y1 : Value) {k : Nat} (hk : k ≠ b) : (set2 w b y0 y1).heap[k]? = w.heap[k]? := by
  unfold set2
  rw [heap_setCell_other _ _ _ _ hk, heap_setCell_other _ _ _ _ hk]
theorem set2_ints {w : World} {v : Value} {l : List Int} (h : Ints w v l) {b : Nat} (hb : ∀ k, blk v = some k → k ≠ b) (y0 y1 : Value) : Ints (set2 w b y0 y1) v l :=
  h.keep fun k hk => set2_other y0 y1 (hb k hk)
/-- what stands in a result's block of three cells ahead of the store, and what the store leaves -/
theorem res3_pre {w w1 : World} {z0 z1 z2 : Value} {T : TypeId} (hb : Below (w.alloc (.cells #[z0, z1, z2] T)).heap.size (w.alloc (.cells #[z0, z1, z2] T)) w1) :
    w1.cell? ⟨w.heap.size, 0, none⟩ = some z0 ∧ w1.cell? ⟨w.heap.size, 1, none⟩ = some z1 ∧ w1.cell? ⟨w.heap.size, 2, none⟩ = some z2 ∧
    w1.frozen? ⟨w.heap.size, 0, none⟩ = false ∧ w1.frozen? ⟨w.heap.size, 1, none⟩ = false ∧ w1.frozen? ⟨w.heap.size, 2, none⟩ = false := by
  have h := (Blk.new w #[z0, z1, z2] T).below hb
  exact ⟨h.cell 0, h.cell 1, h.cell 2, h.frozen 0, h.frozen 1, h.frozen 2⟩
theorem res2_pre {w w1 : World} {z0 z1 : Value} {T : TypeId} (hb : Below (w.alloc (.cells #[z0, z1] T)).heap.size (w.alloc (.cells #[z0, z1] T)) w1) :
    w1.cell? ⟨w.heap.size, 0, none⟩ = some z0 ∧ w1.cell? ⟨w.heap.size, 1, none⟩ = some z1 ∧
    w1.frozen? ⟨w.heap.size, 0, none⟩ = false ∧ w1.frozen? ⟨w.heap.size, 1, none⟩ = false := by
  have h := (Blk.new w #[z0, z1] T).below hb
  exact ⟨h.cell 0, h.cell 1, h.frozen 0, h.frozen 1⟩
theorem res3_tail {w w1 : World} {z0 z1 z2 : Value} {T : TypeId} (y0 y1 y2 : Value) (hb : Below (w.alloc (.cells #[z0, z1, z2] T)).heap.size (w.alloc (.cells #[z0, z1, z2] T)) w1) :
    Below w.heap.size w (set3 w1 w.heap.size y0 y1 y2) ∧ (set3 w1 w.heap.size y0 y1 y2).cell? ⟨w.heap.size, 0, none⟩ = some y0 ∧
    (set3 w1 w.heap.size y0 y1 y2).cell? ⟨w.heap.size, 1, none⟩ = some y1 ∧ (set3 w1 w.heap.size y0 y1 y2).cell? ⟨w.heap.size, 2, none⟩ = some y2 := by
  have hB := set3_blk ((Blk.new w #[z0, z1, z2] T).below hb) y0 y1 y2
  have hbw : Below w.heap.size w w1 := ((Below.refl _ w).alloc (Nat.le_refl _) _).trans (hb.mono (by simp))
  exact ⟨set3_below hbw (Nat.le_refl _) _ _ _, hB.cell 0, hB.cell 1, hB.cell 2⟩
theorem res2_tail {w w1 : World} {z0 z1 : Value} {T : TypeId} (y0 y1 : Value) (hb : Below (w.alloc (.cells #[z0, z1] T)).heap.size (w.alloc (.cells #[z0, z1] T)) w1) :
    Below w.heap.size w (set2 w1 w.heap.size y0 y1) ∧ (set2 w1 w.heap.size y0 y1).cell? ⟨w.heap.size, 0, none⟩ = some y0 ∧ (set2 w1 w.heap.size y0 y1).cell? ⟨w.heap.size, 1, none⟩ = some y1 := by
  have hB := set2_blk ((Blk.new w #[z0, z1] T).below hb) y0 y1
  have hbw : Below w.heap.size w w1 := ((Below.refl _ w).alloc (Nat.le_refl _) _).trans (hb.mono (by simp))
  exact ⟨set2_below hbw (Nat.le_refl _) _ _, hB.cell 0, hB.cell 1⟩
theorem fresh_ne {w : World} {v : Value} {o : Obj} (hf : FreshV (w.alloc o).heap.size v) : ∀ k, blk v = some k → k ≠ w.heap.size :=
  fun k hk => by have := hf k hk; rw [World.size_alloc] at this; omega

end Go.Proofs.Ythlmggogeeedjaa
