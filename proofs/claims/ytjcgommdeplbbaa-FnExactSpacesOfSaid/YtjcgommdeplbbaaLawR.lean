/- For the laws' walks: a region in which a struct is made beside other calls; what it leaves. No function of the program is walked here. -/
import Derived.Test.YtjcgommdeplbbaaMg3
import Derived.Deep.RegionHeld3
namespace Go.Proofs.Ytjcgommdeplbbaa
open Go.RowKit
set_option linter.unusedVariables false
set_option linter.unusedSimpArgs false

theorem bcell_ {W w1 : World} (hb : Below W.heap.size W w1) : (∀ b o, b < W.heap.size → w1.cell? ⟨b, o, none⟩ = W.cell? ⟨b, o, none⟩) ∧ (∀ b o, b < W.heap.size → w1.frozen? ⟨b, o, none⟩ = W.frozen? ⟨b, o, none⟩) ∧ (∀ b, b < W.heap.size → b < w1.heap.size) :=
  ⟨fun b o h => hb.cell (p := ⟨b, o, none⟩) h, fun b o h => hb.frozen (p := ⟨b, o, none⟩) h, fun b h => Nat.lt_of_lt_of_le h hb.size⟩
theorem held_call {W w w' : World} {A : Prop} (h : A ∧ Below W.heap.size W w) (b : Below w.heap.size w w') : Below W.heap.size W w' := h.2.trans (b.mono h.2.size)
theorem held_alloc {W w : World} {A : Prop} (h : A ∧ Below W.heap.size W w) (o : Obj) : Below W.heap.size W (w.alloc o) := h.2.alloc h.2.size o
theorem held_allocd {W w : World} {A : Prop} (h : A ∧ Below W.heap.size W w.drew) (o : Obj) : Below W.heap.size W (w.alloc o).drew := held_alloc h o
theorem held_set3 {W w : World} {A : Prop} (h : A ∧ Below W.heap.size W w) {b : Nat} (hb : W.heap.size ≤ b) (y0 y1 y2 : Value) : Below W.heap.size W (((w.setCell ⟨b, 0, none⟩ y0).setCell ⟨b, 1, none⟩ y1).setCell ⟨b, 2, none⟩ y2) :=
  set3_below h.2 hb y0 y1 y2
theorem held_set2 {W w : World} {A : Prop} (h : A ∧ Below W.heap.size W w) {b : Nat} (hb : W.heap.size ≤ b) (y0 y1 : Value) : Below W.heap.size W ((w.setCell ⟨b, 0, none⟩ y0).setCell ⟨b, 1, none⟩ y1) :=
  set2_below h.2 hb y0 y1
theorem sep_blk_ge {w : World} {u : Value} {l : List Int} (hu : Ints w u l) {g : Nat} (hg : w.heap.size ≤ g) : ¬ blk u = some g := fun h => by have := hu.lt _ h; omega

/-- behind the region: a new struct of three fields in a block of its own -/
def In3 (T : TypeId) (W : World) (g : Nat) (x y : Value) (l : List Int) (w : World) : Prop :=
  ∃ v, Blk w g #[x, y, v] T ∧ Ints w v l ∧ FreshV W.heap.size v ∧ ¬ blk v = some g ∧ W.heap.size ≤ g ∧ Below W.heap.size W w
theorem in3_mk {T : TypeId} {W w : World} {g : Nat} {v : Value} {l : List Int} (x y : Value) (hb : Below W.heap.size W w) (r : Res3 w g T) (hg : W.heap.size ≤ g) (hv : Ints w v l) (hf : ∀ q, blk v = some q → W.heap.size ≤ q ∧ q ≠ g) :
    In3 T W g x y l (((w.setCell ⟨g, 0, none⟩ x).setCell ⟨g, 1, none⟩ y).setCell ⟨g, 2, none⟩ v) :=
  ⟨v, r.blk_set _ _ _, set3_ints hv (fun q hq => (hf q hq).2) _ _ _, fun q hq => (hf q hq).1, fun h => (hf _ h).2 rfl, hg, set3_below hb hg _ _ _⟩
theorem res3_new (w : World) (x y z : Value) (T : TypeId) : Res3 (w.alloc (.cells #[x, y, z] T)) w.heap.size T := ⟨x, y, z, Blk.new w _ T⟩

theorem in3_new {T : TypeId} {W w : World} {v : Value} {l : List Int} (x y : Value) (hb : Below W.heap.size W w) (hv : Ints w v l) (hf : FreshV W.heap.size v) : In3 T W w.heap.size x y l (w.alloc (.cells #[x, y, v] T)) :=
  ⟨v, Blk.new w _ T, hv.below ((Below.refl _ _).alloc (Nat.le_refl _) _), hf, fun h => by have := hv.lt _ h; omega, hb.size, hb.alloc hb.size _⟩
theorem res3_newd (w : World) (x y z : Value) (T : TypeId) : Res3 (w.alloc (.cells #[x, y, z] T)).drew w.heap.size T := res3_new w x y z T
/-- two fields -/
def Res2 (w : World) (b : Nat) (T : TypeId) : Prop := ∃ x y, Blk w b #[x, y] T
theorem Res2.below {w w' : World} {b : Nat} {T : TypeId} (h : Res2 w b T) (c : Below w.heap.size w w') : Res2 w' b T := by
  obtain ⟨x, y, h⟩ := h; exact ⟨x, y, h.below c⟩
theorem Res2.lt {w : World} {b : Nat} {T : TypeId} (h : Res2 w b T) : b < w.heap.size := by
  obtain ⟨x, y, h⟩ := h; exact h.lt
theorem Res2.blk_set {w : World} {b : Nat} {T : TypeId} (h : Res2 w b T) (y0 y1 : Value) : Blk ((w.setCell ⟨b, 0, none⟩ y0).setCell ⟨b, 1, none⟩ y1) b #[y0, y1] T := by
  obtain ⟨x, y, h⟩ := h; exact set2_blk h y0 y1
theorem res2_new (w : World) (x y : Value) (T : TypeId) : Res2 (w.alloc (.cells #[x, y] T)) w.heap.size T := ⟨x, y, Blk.new w _ T⟩
theorem res2_newd (w : World) (x y : Value) (T : TypeId) : Res2 (w.alloc (.cells #[x, y] T)).drew w.heap.size T := res2_new w x y T
def In2 (T : TypeId) (W : World) (g : Nat) (x : Value) (l : List Int) (w : World) : Prop :=
  ∃ v, Blk w g #[x, v] T ∧ Ints w v l ∧ FreshV W.heap.size v ∧ ¬ blk v = some g ∧ W.heap.size ≤ g ∧ Below W.heap.size W w
theorem in2_mk {T : TypeId} {W w : World} {g : Nat} {v : Value} {l : List Int} (x : Value) (hb : Below W.heap.size W w) (r : Res2 w g T) (hg : W.heap.size ≤ g) (hv : Ints w v l) (hf : ∀ q, blk v = some q → W.heap.size ≤ q ∧ q ≠ g) :
    In2 T W g x l ((w.setCell ⟨g, 0, none⟩ x).setCell ⟨g, 1, none⟩ v) :=
  ⟨v, r.blk_set _ _, set2_ints hv (fun q hq => (hf q hq).2) _ _, fun q hq => (hf q hq).1, fun h => (hf _ h).2 rfl, hg, set2_below hb hg _ _⟩
theorem in2_new {T : TypeId} {W w : World} {v : Value} {l : List Int} (x : Value) (hb : Below W.heap.size W w) (hv : Ints w v l) (hf : FreshV W.heap.size v) : In2 T W w.heap.size x l (w.alloc (.cells #[x, v] T)) :=
  ⟨v, Blk.new w _ T, hv.below ((Below.refl _ _).alloc (Nat.le_refl _) _), hf, fun h => by have := hv.lt _ h; omega, hb.size, hb.alloc hb.size _⟩

end Go.Proofs.Ytjcgommdeplbbaa
