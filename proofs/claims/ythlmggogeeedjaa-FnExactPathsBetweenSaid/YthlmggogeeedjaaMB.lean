/- A bundle of what a call knows of memory: slices that read as lists, blocks that are known whole; moved along as one. No function of the program is walked here. -/
import Derived.Test.YthlmggogeeedjaaSep
import Derived.Test.YthlmggogeeedjaaVecOps
import Derived.Deep.DeepCutAuto
namespace Go.Proofs.Ythlmggogeeedjaa
open Go.RowKit
set_option linter.unusedVariables false
set_option linter.unusedSimpArgs false

def allI (w : World) : List (Value × List Int) → Prop
  | [] => True
  | x :: xs => Ints w x.1 x.2 ∧ allI w xs
def allB (w : World) : List (Nat × Array Value × TypeId) → Prop
  | [] => True
  | x :: xs => Blk w x.1 x.2.1 x.2.2 ∧ allB w xs
/-- the call began in w0; ins reads, bls are whole -/
structure MB (w0 : World) (ins : List (Value × List Int)) (bls : List (Nat × Array Value × TypeId)) (w : World) : Prop where
  bel : Below w0.heap.size w0 w
  ins : allI w ins
  bls : allB w bls

theorem allI.below {w w' : World} (b : Below w.heap.size w w') : ∀ {l : List (Value × List Int)}, allI w l → allI w' l
  | [], _ => trivial
  | _ :: _, h => ⟨h.1.below b, allI.below b h.2⟩
theorem allB.below {w w' : World} (b : Below w.heap.size w w') : ∀ {l : List (Nat × Array Value × TypeId)}, allB w l → allB w' l
  | [], _ => trivial
  | _ :: _, h => ⟨h.1.below b, allB.below b h.2⟩
theorem MB.start (w : World) : MB w [] [] w := ⟨Below.refl _ _, trivial, trivial⟩
theorem MB.call {w0 w w' : World} {ins bls} (h : MB w0 ins bls w) (b : Below w.heap.size w w') : MB w0 ins bls w' :=
  ⟨h.bel.trans (b.mono h.bel.size), h.ins.below b, h.bls.below b⟩
theorem MB.addI {w0 w : World} {ins bls} {v : Value} {l : List Int} (h : MB w0 ins bls w) (hv : Ints w v l) : MB w0 ((v, l) :: ins) bls w := ⟨h.bel, ⟨hv, h.ins⟩, h.bls⟩
theorem MB.addB {w0 w : World} {ins bls} {b : Nat} {cs : Array Value} {T : TypeId} (h : MB w0 ins bls w) (hv : Blk w b cs T) : MB w0 ins ((b, cs, T) :: bls) w := ⟨h.bel, h.ins, ⟨hv, h.bls⟩⟩
theorem MB.alloc {w0 w : World} {ins bls} (h : MB w0 ins bls w) (cs : Array Value) (T : TypeId) : MB w0 ins ((w.heap.size, cs, T) :: bls) (w.alloc (.cells cs T)) :=
  (h.call ((Below.refl _ w).alloc (Nat.le_refl _) _)).addB (Blk.new w cs T)
theorem MB.drew {w0 w : World} {ins bls} (h : MB w0 ins bls w) : MB w0 ins bls w.drew := h.call ((Below.refl _ w).drew)

theorem MB.i0 {w0 w : World} {ins bls} {v : Value} {l : List Int} (h : MB w0 ((v, l) :: ins) bls w) : Ints w v l := h.ins.1
theorem MB.b0 {w0 w : World} {ins bls} {b : Nat} {cs : Array Value} {T : TypeId} (h : MB w0 ins ((b, cs, T) :: bls) w) : Blk w b cs T := h.bls.1
theorem MB.i1 {w0 w : World} {ins bls} {x0 : Value × List Int} {v : Value} {l : List Int} (h : MB w0 (x0 :: (v, l) :: ins) bls w) : Ints w v l := h.ins.2.1
theorem MB.b1 {w0 w : World} {ins bls} {x0 : Nat × Array Value × TypeId} {b : Nat} {cs : Array Value} {T : TypeId} (h : MB w0 ins (x0 :: (b, cs, T) :: bls) w) : Blk w b cs T := h.bls.2.1
theorem MB.i2 {w0 w : World} {ins bls} {x0 x1 : Value × List Int} {v : Value} {l : List Int} (h : MB w0 (x0 :: x1 :: (v, l) :: ins) bls w) : Ints w v l := h.ins.2.2.1
theorem MB.b2 {w0 w : World} {ins bls} {x0 x1 : Nat × Array Value × TypeId} {b : Nat} {cs : Array Value} {T : TypeId} (h : MB w0 ins (x0 :: x1 :: (b, cs, T) :: bls) w) : Blk w b cs T := h.bls.2.2.1
theorem MB.i3 {w0 w : World} {ins bls} {x0 x1 x2 : Value × List Int} {v : Value} {l : List Int} (h : MB w0 (x0 :: x1 :: x2 :: (v, l) :: ins) bls w) : Ints w v l := h.ins.2.2.2.1
theorem MB.b3 {w0 w : World} {ins bls} {x0 x1 x2 : Nat × Array Value × TypeId} {b : Nat} {cs : Array Value} {T : TypeId} (h : MB w0 ins (x0 :: x1 :: x2 :: (b, cs, T) :: bls) w) : Blk w b cs T := h.bls.2.2.2.1
theorem MB.i4 {w0 w : World} {ins bls} {x0 x1 x2 x3 : Value × List Int} {v : Value} {l : List Int} (h : MB w0 (x0 :: x1 :: x2 :: x3 :: (v, l) :: ins) bls w) : Ints w v l := h.ins.2.2.2.2.1
theorem MB.b4 {w0 w : World} {ins bls} {x0 x1 x2 x3 : Nat × Array Value × TypeId} {b : Nat} {cs : Array Value} {T : TypeId} (h : MB w0 ins (x0 :: x1 :: x2 :: x3 :: (b, cs, T) :: bls) w) : Blk w b cs T := h.bls.2.2.2.2.1
theorem MB.i5 {w0 w : World} {ins bls} {x0 x1 x2 x3 x4 : Value × List Int} {v : Value} {l : List Int} (h : MB w0 (x0 :: x1 :: x2 :: x3 :: x4 :: (v, l) :: ins) bls w) : Ints w v l := h.ins.2.2.2.2.2.1
theorem MB.b5 {w0 w : World} {ins bls} {x0 x1 x2 x3 x4 : Nat × Array Value × TypeId} {b : Nat} {cs : Array Value} {T : TypeId} (h : MB w0 ins (x0 :: x1 :: x2 :: x3 :: x4 :: (b, cs, T) :: bls) w) : Blk w b cs T := h.bls.2.2.2.2.2.1
theorem MB.i6 {w0 w : World} {ins bls} {x0 x1 x2 x3 x4 x5 : Value × List Int} {v : Value} {l : List Int} (h : MB w0 (x0 :: x1 :: x2 :: x3 :: x4 :: x5 :: (v, l) :: ins) bls w) : Ints w v l := h.ins.2.2.2.2.2.2.1
theorem MB.b6 {w0 w : World} {ins bls} {x0 x1 x2 x3 x4 x5 : Nat × Array Value × TypeId} {b : Nat} {cs : Array Value} {T : TypeId} (h : MB w0 ins (x0 :: x1 :: x2 :: x3 :: x4 :: x5 :: (b, cs, T) :: bls) w) : Blk w b cs T := h.bls.2.2.2.2.2.2.1

def offI (X : Nat → Prop) : List (Value × List Int) → Prop
  | [] => True
  | x :: xs => (∀ q, blk x.1 = some q → ¬ X q) ∧ offI X xs
def offB (X : Nat → Prop) : List (Nat × Array Value × TypeId) → Prop
  | [] => True
  | x :: xs => ¬ X x.1 ∧ offB X xs
theorem allI.chg {X : Nat → Prop} {w w' : World} (c : Chg X w w') : ∀ {l : List (Value × List Int)}, allI w l → offI X l → allI w' l
  | [], _, _ => trivial
  | _ :: _, h, o => ⟨h.1.chg c o.1, allI.chg c h.2 o.2⟩
theorem allB.chg {X : Nat → Prop} {w w' : World} (c : Chg X w w') : ∀ {l : List (Nat × Array Value × TypeId)}, allB w l → offB X l → allB w' l
  | [], _, _ => trivial
  | _ :: _, h, o => ⟨h.1.chg c o.1, allB.chg c h.2 o.2⟩
theorem MB.chg {w0 w w' : World} {ins bls} {X : Nat → Prop} (h : MB w0 ins bls w) (c : Chg X w w') (hx : ∀ k, X k → w0.heap.size ≤ k) (hi : offI X ins) (hb : offB X bls) : MB w0 ins bls w' :=
  ⟨below_chg h.bel c h.bel.size hx, h.ins.chg c hi, h.bls.chg c hb⟩
theorem Ints.setFar {w : World} {v : Value} {l : List Int} (h : Ints w v l) {p : Addr} (hp : ∀ q, blk v = some q → q ≠ p.block) (u : Value) : Ints (w.setCell p u) v l :=
  h.keep fun k hk => heap_setCell_other _ _ _ _ (hp k hk)
/-- the first block takes three new cells -/
theorem MB.set3 {w0 w : World} {ins bls} {b : Nat} {x0 x1 x2 : Value} {T : TypeId} (h : MB w0 ins ((b, #[x0, x1, x2], T) :: bls) w) (hb : w0.heap.size ≤ b)
    (hi : offI (fun k => k = b) ins) (ho : offB (fun k => k = b) bls) (y0 y1 y2 : Value) : MB w0 ins ((b, #[y0, y1, y2], T) :: bls) (((w.setCell ⟨b, 0, none⟩ y0).setCell ⟨b, 1, none⟩ y1).setCell ⟨b, 2, none⟩ y2) := by
  have c : Chg (fun k => k = b) w (((w.setCell ⟨b, 0, none⟩ y0).setCell ⟨b, 1, none⟩ y1).setCell ⟨b, 2, none⟩ y2) := (((Chg.refl (fun k => k = b) w).setCell (p := ⟨b, 0, none⟩) rfl y0).setCell (p := ⟨b, 1, none⟩) rfl y1).setCell (p := ⟨b, 2, none⟩) rfl y2
  exact ⟨below_chg h.bel c h.bel.size (fun k e => by omega), h.ins.chg c hi, set3_blk h.bls.1 y0 y1 y2, h.bls.2.chg c ho⟩
theorem MB.set2 {w0 w : World} {ins bls} {b : Nat} {x0 x1 : Value} {T : TypeId} (h : MB w0 ins ((b, #[x0, x1], T) :: bls) w) (hb : w0.heap.size ≤ b)
    (hi : offI (fun k => k = b) ins) (ho : offB (fun k => k = b) bls) (y0 y1 : Value) : MB w0 ins ((b, #[y0, y1], T) :: bls) ((w.setCell ⟨b, 0, none⟩ y0).setCell ⟨b, 1, none⟩ y1) := by
  have c : Chg (fun k => k = b) w ((w.setCell ⟨b, 0, none⟩ y0).setCell ⟨b, 1, none⟩ y1) := ((Chg.refl (fun k => k = b) w).setCell (p := ⟨b, 0, none⟩) rfl y0).setCell (p := ⟨b, 1, none⟩) rfl y1
  exact ⟨below_chg h.bel c h.bel.size (fun k e => by omega), h.ins.chg c hi, set2_blk h.bls.1 y0 y1, h.bls.2.chg c ho⟩
/-- one cell of the first block is stored -/
theorem MB.set1 {w0 w : World} {ins bls} {b : Nat} {cs : Array Value} {T : TypeId} (h : MB w0 ins ((b, cs, T) :: bls) w) (hb : w0.heap.size ≤ b)
    (hi : offI (fun k => k = b) ins) (ho : offB (fun k => k = b) bls) (i : Nat) (y : Value) : MB w0 ins ((b, cs.setIfInBounds i y, T) :: bls) (w.setCell ⟨b, i, none⟩ y) := by
  have c : Chg (fun k => k = b) w (w.setCell ⟨b, i, none⟩ y) := (Chg.refl (fun k => k = b) w).setCell (p := ⟨b, i, none⟩) rfl y
  exact ⟨below_chg h.bel c h.bel.size (fun k e => by omega), h.ins.chg c hi, h.bls.1.set i y, h.bls.2.chg c ho⟩
theorem Ints.drew {w : World} {v : Value} {l : List Int} (h : Ints w v l) : Ints w.drew v l := h
theorem Ints.drewN {w : World} {v : Value} {l : List Int} (h : Ints w v l) (n : Nat) : Ints (w.drewN n) v l := h
theorem Blk.drew {w : World} {b : Nat} {cs : Array Value} {T : TypeId} (h : Blk w b cs T) : Blk w.drew b cs T := h
theorem cell_drew {w : World} {p : Addr} {v : Value} (h : w.cell? p = some v) : w.drew.cell? p = some v := h
theorem Ints.cellAt {w : World} {g off n cap : Nat} {l : List Int} (h : Ints w (.slice (some ⟨g, off, none⟩) n cap) l) {i : Nat} (hi : i < l.length) : w.cell? ⟨g, off + i, none⟩ = some (.int .i64 (l.getD i 0)) := by
  obtain ⟨g', off', e, _, hc, _⟩ := h.cell hi
  simp only [Option.some.injEq, Addr.mk.injEq, and_true] at e
  obtain ⟨rfl, rfl⟩ := e
  exact hc
theorem cells6 {w : World} {b c : Nat} {x y z x' y' z' : Value} {T T' : TypeId} (h : Blk w b #[x, y, z] T) (k : Blk w c #[x', y', z'] T') :
    (w.cell? ⟨b, 0, none⟩ = some x ∧ w.cell? ⟨b, 1, none⟩ = some y ∧ w.cell? ⟨b, 2, none⟩ = some z) ∧ w.cell? ⟨c, 0, none⟩ = some x' ∧ w.cell? ⟨c, 1, none⟩ = some y' ∧ w.cell? ⟨c, 2, none⟩ = some z' :=
  ⟨⟨h.cell 0, h.cell 1, h.cell 2⟩, k.cell 0, k.cell 1, k.cell 2⟩
theorem frz2 {w : World} {b : Nat} {x y : Value} {T : TypeId} (p : Blk w b #[x, y] T) : w.frozen? ⟨b, 0, none⟩ = false ∧ w.frozen? ⟨b, 1, none⟩ = false :=
  ⟨p.frozen 0, p.frozen 1⟩
theorem frz3 {w : World} {b : Nat} {x y z : Value} {T : TypeId} (p : Blk w b #[x, y, z] T) : w.frozen? ⟨b, 0, none⟩ = false ∧ w.frozen? ⟨b, 1, none⟩ = false ∧ w.frozen? ⟨b, 2, none⟩ = false :=
  ⟨p.frozen 0, p.frozen 1, p.frozen 2⟩
theorem far_old {w : World} {v : Value} {l : List Int} (h : Ints w v l) {b : Nat} (hb : w.heap.size ≤ b) : ∀ q, blk v = some q → ¬ q = b := fun q hq e => by have := h.lt q hq; omega
theorem far_new {B : Nat} {v : Value} (h : FreshV B v) {b : Nat} (hb : b < B) : ∀ q, blk v = some q → ¬ q = b := fun q hq e => by have := h q hq; omega

/-- the end of a call that stores a struct of three fields, the last one a slice, in its result -/
theorem mat_end {w0 w1 : World} {ins bls} {b : Nat} {x0 x1 x2 : Value} {T : TypeId} {v : Value} {l : List Int} (h : MB w0 ins ((b, #[x0, x1, x2], T) :: bls) w1) (hb : w0.heap.size ≤ b)
    (hv : Ints w1 v l) (hf : ∀ q, blk v = some q → w0.heap.size ≤ q ∧ q ≠ b) (y0 y1 : Value) :
    (Ints (((w1.setCell ⟨b, 0, none⟩ y0).setCell ⟨b, 1, none⟩ y1).setCell ⟨b, 2, none⟩ v) v l ∧ FreshV w0.heap.size v ∧ Below w0.heap.size w0 (((w1.setCell ⟨b, 0, none⟩ y0).setCell ⟨b, 1, none⟩ y1).setCell ⟨b, 2, none⟩ v)) ∧
    (((w1.setCell ⟨b, 0, none⟩ y0).setCell ⟨b, 1, none⟩ y1).setCell ⟨b, 2, none⟩ v).cell? ⟨b, 0, none⟩ = some y0 ∧ (((w1.setCell ⟨b, 0, none⟩ y0).setCell ⟨b, 1, none⟩ y1).setCell ⟨b, 2, none⟩ v).cell? ⟨b, 1, none⟩ = some y1 ∧
    (((w1.setCell ⟨b, 0, none⟩ y0).setCell ⟨b, 1, none⟩ y1).setCell ⟨b, 2, none⟩ v).cell? ⟨b, 2, none⟩ = some v := by
  have hB := set3_blk h.b0 y0 y1 v
  exact ⟨⟨set3_ints hv (fun q hq => (hf q hq).2) y0 y1 v, fun q hq => (hf q hq).1, set3_below h.bel hb y0 y1 v⟩, hB.cell 0, hB.cell 1, hB.cell 2⟩

/-- the end that stores three zeros -/
theorem mat_zero {w0 w1 : World} {ins bls} {b : Nat} {x0 x1 x2 : Value} {T : TypeId} (h : MB w0 ins ((b, #[x0, x1, x2], T) :: bls) w1) (hb : w0.heap.size ≤ b) (y0 y1 y2 : Value) :
    Below w0.heap.size w0 (((w1.setCell ⟨b, 0, none⟩ y0).setCell ⟨b, 1, none⟩ y1).setCell ⟨b, 2, none⟩ y2) ∧
    (((w1.setCell ⟨b, 0, none⟩ y0).setCell ⟨b, 1, none⟩ y1).setCell ⟨b, 2, none⟩ y2).cell? ⟨b, 0, none⟩ = some y0 ∧ (((w1.setCell ⟨b, 0, none⟩ y0).setCell ⟨b, 1, none⟩ y1).setCell ⟨b, 2, none⟩ y2).cell? ⟨b, 1, none⟩ = some y1 ∧
    (((w1.setCell ⟨b, 0, none⟩ y0).setCell ⟨b, 1, none⟩ y1).setCell ⟨b, 2, none⟩ y2).cell? ⟨b, 2, none⟩ = some y2 := by
  have hB := set3_blk h.b0 y0 y1 y2
  exact ⟨set3_below h.bel hb y0 y1 y2, hB.cell 0, hB.cell 1, hB.cell 2⟩

/-- a block of three cells, whatever they hold -/
def Res3 (w : World) (b : Nat) (T : TypeId) : Prop := ∃ x y z, Blk w b #[x, y, z] T
theorem Res3.below {w w' : World} {b : Nat} {T : TypeId} (h : Res3 w b T) (c : Below w.heap.size w w') : Res3 w' b T := by
  obtain ⟨x, y, z, h⟩ := h; exact ⟨x, y, z, h.below c⟩
theorem Res3.lt {w : World} {b : Nat} {T : TypeId} (h : Res3 w b T) : b < w.heap.size := by
  obtain ⟨x, y, z, h⟩ := h; exact h.lt
theorem Res3.set3 {w : World} {b : Nat} {T : TypeId} (h : Res3 w b T) (y0 y1 y2 : Value) : Res3 (((w.setCell ⟨b, 0, none⟩ y0).setCell ⟨b, 1, none⟩ y1).setCell ⟨b, 2, none⟩ y2) b T := by
  obtain ⟨x, y, z, h⟩ := h; exact ⟨y0, y1, y2, set3_blk h y0 y1 y2⟩
theorem Res3.open_ {w : World} {b : Nat} {T : TypeId} (h : Res3 w b T) : ∃ x y z, w.cell? ⟨b, 0, none⟩ = some x ∧ w.cell? ⟨b, 1, none⟩ = some y ∧ w.cell? ⟨b, 2, none⟩ = some z ∧ w.frozen? ⟨b, 0, none⟩ = false ∧ w.frozen? ⟨b, 1, none⟩ = false ∧ w.frozen? ⟨b, 2, none⟩ = false := by
  obtain ⟨x, y, z, h⟩ := h; exact ⟨x, y, z, h.cell 0, h.cell 1, h.cell 2, h.frozen 0, h.frozen 1, h.frozen 2⟩
theorem Res3.blk_set {w : World} {b : Nat} {T : TypeId} (h : Res3 w b T) (y0 y1 y2 : Value) : Blk (((w.setCell ⟨b, 0, none⟩ y0).setCell ⟨b, 1, none⟩ y1).setCell ⟨b, 2, none⟩ y2) b #[y0, y1, y2] T := by
  obtain ⟨x, y, z, h⟩ := h; exact set3_blk h y0 y1 y2
/-- what a region holds of one box: its cells, the bundle, the result's block -/
theorem hold3 {w0 w : World} {ins bls} {b c : Nat} {x y z : Value} {T T' : TypeId} (h : MB w0 ins ((b, #[x, y, z], T) :: bls) w) (r : Res3 w c T') :
    (w.cell? ⟨b, 0, none⟩ = some x ∧ w.cell? ⟨b, 1, none⟩ = some y ∧ w.cell? ⟨b, 2, none⟩ = some z) ∧ MB w0 ins ((b, #[x, y, z], T) :: bls) w ∧ Res3 w c T' := ⟨blk3 h.b0, h, r⟩
theorem hold3_call {w0 w w' : World} {ins bls} {b c : Nat} {x y z : Value} {T T' : TypeId} {A : Prop} (h : A ∧ MB w0 ins ((b, #[x, y, z], T) :: bls) w ∧ Res3 w c T') (k : Below w.heap.size w w') :
    (w'.cell? ⟨b, 0, none⟩ = some x ∧ w'.cell? ⟨b, 1, none⟩ = some y ∧ w'.cell? ⟨b, 2, none⟩ = some z) ∧ MB w0 ins ((b, #[x, y, z], T) :: bls) w' ∧ Res3 w' c T' := hold3 (h.2.1.call k) (h.2.2.below k)
theorem hold3_alloc {w0 w : World} {ins bls} {b c : Nat} {x y z : Value} {T T' : TypeId} {A : Prop} (h : A ∧ MB w0 ins ((b, #[x, y, z], T) :: bls) w ∧ Res3 w c T') (o : Obj) :
    ((w.alloc o).cell? ⟨b, 0, none⟩ = some x ∧ (w.alloc o).cell? ⟨b, 1, none⟩ = some y ∧ (w.alloc o).cell? ⟨b, 2, none⟩ = some z) ∧ MB w0 ins ((b, #[x, y, z], T) :: bls) (w.alloc o) ∧ Res3 (w.alloc o) c T' :=
  hold3_call h ((Below.refl _ w).alloc (Nat.le_refl _) o)
theorem hold3_allocd {w0 w : World} {ins bls} {b c : Nat} {x y z : Value} {T T' : TypeId} {A : Prop} (h : A ∧ MB w0 ins ((b, #[x, y, z], T) :: bls) w.drew ∧ Res3 w.drew c T') (o : Obj) :
    ((w.alloc o).drew.cell? ⟨b, 0, none⟩ = some x ∧ (w.alloc o).drew.cell? ⟨b, 1, none⟩ = some y ∧ (w.alloc o).drew.cell? ⟨b, 2, none⟩ = some z) ∧ MB w0 ins ((b, #[x, y, z], T) :: bls) (w.alloc o).drew ∧ Res3 (w.alloc o).drew c T' :=
  hold3_alloc h o
theorem hold3_store {w0 w : World} {ins bls} {b c : Nat} {x y z : Value} {T T' : TypeId} {A : Prop} (h : A ∧ MB w0 ins ((b, #[x, y, z], T) :: bls) w ∧ Res3 w c T') (hc : w0.heap.size ≤ c)
    (hi : offI (fun k => k = c) ins) (ho : offB (fun k => k = c) ((b, #[x, y, z], T) :: bls)) (y0 y1 y2 : Value) :
    ((((w.setCell ⟨c, 0, none⟩ y0).setCell ⟨c, 1, none⟩ y1).setCell ⟨c, 2, none⟩ y2).cell? ⟨b, 0, none⟩ = some x ∧ (((w.setCell ⟨c, 0, none⟩ y0).setCell ⟨c, 1, none⟩ y1).setCell ⟨c, 2, none⟩ y2).cell? ⟨b, 1, none⟩ = some y ∧ (((w.setCell ⟨c, 0, none⟩ y0).setCell ⟨c, 1, none⟩ y1).setCell ⟨c, 2, none⟩ y2).cell? ⟨b, 2, none⟩ = some z) ∧
      MB w0 ins ((b, #[x, y, z], T) :: bls) (((w.setCell ⟨c, 0, none⟩ y0).setCell ⟨c, 1, none⟩ y1).setCell ⟨c, 2, none⟩ y2) ∧ Res3 (((w.setCell ⟨c, 0, none⟩ y0).setCell ⟨c, 1, none⟩ y1).setCell ⟨c, 2, none⟩ y2) c T' := by
  have k : Chg (fun k => k = c) w (((w.setCell ⟨c, 0, none⟩ y0).setCell ⟨c, 1, none⟩ y1).setCell ⟨c, 2, none⟩ y2) := (((Chg.refl (fun k => k = c) w).setCell (p := ⟨c, 0, none⟩) rfl y0).setCell (p := ⟨c, 1, none⟩) rfl y1).setCell (p := ⟨c, 2, none⟩) rfl y2
  exact hold3 (h.2.1.chg k (fun k e => by omega) hi ho) (h.2.2.set3 y0 y1 y2)

end Go.Proofs.Ythlmggogeeedjaa
