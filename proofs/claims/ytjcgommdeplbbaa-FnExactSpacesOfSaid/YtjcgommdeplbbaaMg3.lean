/- A bundle of what a call knows of memory: slices that read as lists, blocks that are known whole; moved along as one. No function of the program is walked here. append of any slice of integers to one that the call owns (as in XConcat, for seats without rows of rows). Plain words on the cells of a matrix: a list given by rows and columns, sums, products, transposes, blocks. No program is read here. Slices of slices of integers: what reads as a list of lists; append of one row. Rows and columns of a matrix. -/
import Derived.Test.YtjcgommdeplbbaaMg2
import Derived.Deep.DeepCutAuto
import Derived.Maps.AppendAt
import Derived.Test.YtjcgommdeplbbaaMg1
namespace Go.Proofs.Ytjcgommdeplbbaa
open Go.RowKit
set_option linter.unusedVariables false
set_option linter.unusedSimpArgs false

def allI (w : World) : List (Value × List Int) → Prop
  | [] => True
  | x :: xs => Ints w x.1 x.2 ∧ allI w xs
def allB (w : World) : List (Nat × Array Value × TypeId) → Prop
  | [] => True
  | x :: xs => Blk w x.1 x.2.1 x.2.2 ∧ allB w xs
/-- the call began in w0; ins reads, bls are whole -/
structure MB (w0 : World) (ins : List (Value × List Int)) (bls : List (Nat × Array Value × TypeId)) (w : World) : Prop where
  bel : Below w0.heap.size w0 w
  ins : allI w ins
  bls : allB w bls

theorem allI.below {w w' : World} (b : Below w.heap.size w w') : ∀ {l : List (Value × List Int)}, allI w l → allI w' l
  | [], _ => trivial
  | _ :: _, h => ⟨h.1.below b, allI.below b h.2⟩
theorem allB.below {w w' : World} (b : Below w.heap.size w w') : ∀ {l : List (Nat × Array Value × TypeId)}, allB w l → allB w' l
  | [], _ => trivial
  | _ :: _, h => ⟨h.1.below b, allB.below b h.2⟩
theorem MB.start (w : World) : MB w [] [] w := ⟨Below.refl _ _, trivial, trivial⟩
theorem MB.call {w0 w w' : World} {ins bls} (h : MB w0 ins bls w) (b : Below w.heap.size w w') : MB w0 ins bls w' :=
  ⟨h.bel.trans (b.mono h.bel.size), h.ins.below b, h.bls.below b⟩
theorem MB.addI {w0 w : World} {ins bls} {v : Value} {l : List Int} (h : MB w0 ins bls w) (hv : Ints w v l) : MB w0 ((v, l) :: ins) bls w := ⟨h.bel, ⟨hv, h.ins⟩, h.bls⟩
theorem MB.addB {w0 w : World} {ins bls} {b : Nat} {cs : Array Value} {T : TypeId} (h : MB w0 ins bls w) (hv : Blk w b cs T) : MB w0 ins ((b, cs, T) :: bls) w := ⟨h.bel, h.ins, ⟨hv, h.bls⟩⟩
theorem MB.alloc {w0 w : World} {ins bls} (h : MB w0 ins bls w) (cs : Array Value) (T : TypeId) : MB w0 ins ((w.heap.size, cs, T) :: bls) (w.alloc (.cells cs T)) :=
  (h.call ((Below.refl _ w).alloc (Nat.le_refl _) _)).addB (Blk.new w cs T)
theorem MB.drew {w0 w : World} {ins bls} (h : MB w0 ins bls w) : MB w0 ins bls w.drew := h.call ((Below.refl _ w).drew)

theorem MB.i0 {w0 w : World} {ins bls} {v : Value} {l : List Int} (h : MB w0 ((v, l) :: ins) bls w) : Ints w v l := h.ins.1
theorem MB.b0 {w0 w : World} {ins bls} {b : Nat} {cs : Array Value} {T : TypeId} (h : MB w0 ins ((b, cs, T) :: bls) w) : Blk w b cs T := h.bls.1
theorem MB.i1 {w0 w : World} {ins bls} {x0 : Value × List Int} {v : Value} {l : List Int} (h : MB w0 (x0 :: (v, l) :: ins) bls w) : Ints w v l := h.ins.2.1
theorem MB.b1 {w0 w : World} {ins bls} {x0 : Nat × Array Value × TypeId} {b : Nat} {cs : Array Value} {T : TypeId} (h : MB w0 ins (x0 :: (b, cs, T) :: bls) w) : Blk w b cs T := h.bls.2.1
theorem MB.i2 {w0 w : World} {ins bls} {x0 x1 : Value × List Int} {v : Value} {l : List Int} (h : MB w0 (x0 :: x1 :: (v, l) :: ins) bls w) : Ints w v l := h.ins.2.2.1
theorem MB.b2 {w0 w : World} {ins bls} {x0 x1 : Nat × Array Value × TypeId} {b : Nat} {cs : Array Value} {T : TypeId} (h : MB w0 ins (x0 :: x1 :: (b, cs, T) :: bls) w) : Blk w b cs T := h.bls.2.2.1
theorem MB.i3 {w0 w : World} {ins bls} {x0 x1 x2 : Value × List Int} {v : Value} {l : List Int} (h : MB w0 (x0 :: x1 :: x2 :: (v, l) :: ins) bls w) : Ints w v l := h.ins.2.2.2.1
theorem MB.b3 {w0 w : World} {ins bls} {x0 x1 x2 : Nat × Array Value × TypeId} {b : Nat} {cs : Array Value} {T : TypeId} (h : MB w0 ins (x0 :: x1 :: x2 :: (b, cs, T) :: bls) w) : Blk w b cs T := h.bls.2.2.2.1
theorem MB.i4 {w0 w : World} {ins bls} {x0 x1 x2 x3 : Value × List Int} {v : Value} {l : List Int} (h : MB w0 (x0 :: x1 :: x2 :: x3 :: (v, l) :: ins) bls w) : Ints w v l := h.ins.2.2.2.2.1
theorem MB.b4 {w0 w : World} {ins bls} {x0 x1 x2 x3 : Nat × Array Value × TypeId} {b : Nat} {cs : Array Value} {T : TypeId} (h : MB w0 ins (x0 :: x1 :: x2 :: x3 :: (b, cs, T) :: bls) w) : Blk w b cs T := h.bls.2.2.2.2.1
theorem MB.i5 {w0 w : World} {ins bls} {x0 x1 x2 x3 x4 : Value × List Int} {v : Value} {l : List Int} (h : MB w0 (x0 :: x1 :: x2 :: x3 :: x4 :: (v, l) :: ins) bls w) : Ints w v l := h.ins.2.2.2.2.2.1
theorem MB.b5 {w0 w : World} {ins bls} {x0 x1 x2 x3 x4 : Nat × Array Value × TypeId} {b : Nat} {cs : Array Value} {T : TypeId} (h : MB w0 ins (x0 :: x1 :: x2 :: x3 :: x4 :: (b, cs, T) :: bls) w) : Blk w b cs T := h.bls.2.2.2.2.2.1
theorem MB.i6 {w0 w : World} {ins bls} {x0 x1 x2 x3 x4 x5 : Value × List Int} {v : Value} {l : List Int} (h : MB w0 (x0 :: x1 :: x2 :: x3 :: x4 :: x5 :: (v, l) :: ins) bls w) : Ints w v l := h.ins.2.2.2.2.2.2.1
theorem MB.b6 {w0 w : World} {ins bls} {x0 x1 x2 x3 x4 x5 : Nat × Array Value × TypeId} {b : Nat} {cs : Array Value} {T : TypeId} (h : MB w0 ins (x0 :: x1 :: x2 :: x3 :: x4 :: x5 :: (b, cs, T) :: bls) w) : Blk w b cs T := h.bls.2.2.2.2.2.2.1

def offI (X : Nat → Prop) : List (Value × List Int) → Prop
  | [] => True
  | x :: xs => (∀ q, blk x.1 = some q → ¬ X q) ∧ offI X xs
def offB (X : Nat → Prop) : List (Nat × Array Value × TypeId) → Prop
  | [] => True
  | x :: xs => ¬ X x.1 ∧ offB X xs
theorem allI.chg {X : Nat → Prop} {w w' : World} (c : Chg X w w') : ∀ {l : List (Value × List Int)}, allI w l → offI X l → allI w' l
  | [], _, _ => trivial
  | _ :: _, h, o => ⟨h.1.chg c o.1, allI.chg c h.2 o.2⟩
theorem allB.chg {X : Nat → Prop} {w w' : World} (c : Chg X w w') : ∀ {l : List (Nat × Array Value × TypeId)}, allB w l → offB X l → allB w' l
  | [], _, _ => trivial
  | _ :: _, h, o => ⟨h.1.chg c o.1, allB.chg c h.2 o.2⟩
theorem MB.chg {w0 w w' : World} {ins bls} {X : Nat → Prop} (h : MB w0 ins bls w) (c : Chg X w w') (hx : ∀ k, X k → w0.heap.size ≤ k) (hi : offI X ins) (hb : offB X bls) : MB w0 ins bls w' :=
  ⟨below_chg h.bel c h.bel.size hx, h.ins.chg c hi, h.bls.chg c hb⟩
theorem Ints.setFar {w : World} {v : Value} {l : List Int} (h : Ints w v l) {p : Addr} (hp : ∀ q, blk v = some q → q ≠ p.block) (u : Value) : Ints (w.setCell p u) v l :=
  h.keep fun k hk => heap_setCell_other _ _ _ _ (hp k hk)
/-- the first block takes three new cells -/
theorem MB.set3 {w0 w : World} {ins bls} {b : Nat} {x0 x1 x2 : Value} {T : TypeId} (h : MB w0 ins ((b, #[x0, x1, x2], T) :: bls) w) (hb : w0.heap.size ≤ b)
    (hi : offI (fun k => k = b) ins) (ho : offB (fun k => k = b) bls) (y0 y1 y2 : Value) : MB w0 ins ((b, #[y0, y1, y2], T) :: bls) (((w.setCell ⟨b, 0, none⟩ y0).setCell ⟨b, 1, none⟩ y1).setCell ⟨b, 2, none⟩ y2) := by
  have c : Chg (fun k => k = b) w (((w.setCell ⟨b, 0, none⟩ y0).setCell ⟨b, 1, none⟩ y1).setCell ⟨b, 2, none⟩ y2) := (((Chg.refl (fun k => k = b) w).setCell (p := ⟨b, 0, none⟩) rfl y0).setCell (p := ⟨b, 1, none⟩) rfl y1).setCell (p := ⟨b, 2, none⟩) rfl y2
  exact ⟨below_chg h.bel c h.bel.size (fun k e => by omega), h.ins.chg c hi, set3_blk h.bls.1 y0 y1 y2, h.bls.2.chg c ho⟩
theorem MB.set2 {w0 w : World} {ins bls} {b : Nat} {x0 x1 : Value} {T : TypeId} (h : MB w0 ins ((b, #[x0, x1], T) :: bls) w) (hb : w0.heap.size ≤ b)
    (hi : offI (fun k => k = b) ins) (ho : offB (fun k => k = b) bls) (y0 y1 : Value) : MB w0 ins ((b, #[y0, y1], T) :: bls) ((w.setCell ⟨b, 0, none⟩ y0).setCell ⟨b, 1, none⟩ y1) := by
  have c : Chg (fun k => k = b) w ((w.setCell ⟨b, 0, none⟩ y0).setCell ⟨b, 1, none⟩ y1) := ((Chg.refl (fun k => k = b) w).setCell (p := ⟨b, 0, none⟩) rfl y0).setCell (p := ⟨b, 1, none⟩) rfl y1
  exact ⟨below_chg h.bel c h.bel.size (fun k e => by omega), h.ins.chg c hi, set2_blk h.bls.1 y0 y1, h.bls.2.chg c ho⟩
/-- one cell of the first block is stored -/
theorem MB.set1 {w0 w : World} {ins bls} {b : Nat} {cs : Array Value} {T : TypeId} (h : MB w0 ins ((b, cs, T) :: bls) w) (hb : w0.heap.size ≤ b)
    (hi : offI (fun k => k = b) ins) (ho : offB (fun k => k = b) bls) (i : Nat) (y : Value) : MB w0 ins ((b, cs.setIfInBounds i y, T) :: bls) (w.setCell ⟨b, i, none⟩ y) := by
  have c : Chg (fun k => k = b) w (w.setCell ⟨b, i, none⟩ y) := (Chg.refl (fun k => k = b) w).setCell (p := ⟨b, i, none⟩) rfl y
  exact ⟨below_chg h.bel c h.bel.size (fun k e => by omega), h.ins.chg c hi, h.bls.1.set i y, h.bls.2.chg c ho⟩
theorem Ints.drew {w : World} {v : Value} {l : List Int} (h : Ints w v l) : Ints w.drew v l := h
theorem Ints.drewN {w : World} {v : Value} {l : List Int} (h : Ints w v l) (n : Nat) : Ints (w.drewN n) v l := h
theorem Blk.drew {w : World} {b : Nat} {cs : Array Value} {T : TypeId} (h : Blk w b cs T) : Blk w.drew b cs T := h
theorem cell_drew {w : World} {p : Addr} {v : Value} (h : w.cell? p = some v) : w.drew.cell? p = some v := h
theorem Ints.cellAt {w : World} {g off n cap : Nat} {l : List Int} (h : Ints w (.slice (some ⟨g, off, none⟩) n cap) l) {i : Nat} (hi : i < l.length) : w.cell? ⟨g, off + i, none⟩ = some (.int .i64 (l.getD i 0)) := by
  obtain ⟨g', off', e, _, hc, _⟩ := h.cell hi
  simp only [Option.some.injEq, Addr.mk.injEq, and_true] at e
  obtain ⟨rfl, rfl⟩ := e
  exact hc
theorem cells6 {w : World} {b c : Nat} {x y z x' y' z' : Value} {T T' : TypeId} (h : Blk w b #[x, y, z] T) (k : Blk w c #[x', y', z'] T') :
    (w.cell? ⟨b, 0, none⟩ = some x ∧ w.cell? ⟨b, 1, none⟩ = some y ∧ w.cell? ⟨b, 2, none⟩ = some z) ∧ w.cell? ⟨c, 0, none⟩ = some x' ∧ w.cell? ⟨c, 1, none⟩ = some y' ∧ w.cell? ⟨c, 2, none⟩ = some z' :=
  ⟨⟨h.cell 0, h.cell 1, h.cell 2⟩, k.cell 0, k.cell 1, k.cell 2⟩
theorem frz2 {w : World} {b : Nat} {x y : Value} {T : TypeId} (p : Blk w b #[x, y] T) : w.frozen? ⟨b, 0, none⟩ = false ∧ w.frozen? ⟨b, 1, none⟩ = false :=
  ⟨p.frozen 0, p.frozen 1⟩
theorem frz3 {w : World} {b : Nat} {x y z : Value} {T : TypeId} (p : Blk w b #[x, y, z] T) : w.frozen? ⟨b, 0, none⟩ = false ∧ w.frozen? ⟨b, 1, none⟩ = false ∧ w.frozen? ⟨b, 2, none⟩ = false :=
  ⟨p.frozen 0, p.frozen 1, p.frozen 2⟩
theorem far_old {w : World} {v : Value} {l : List Int} (h : Ints w v l) {b : Nat} (hb : w.heap.size ≤ b) : ∀ q, blk v = some q → ¬ q = b := fun q hq e => by have := h.lt q hq; omega
theorem far_new {B : Nat} {v : Value} (h : FreshV B v) {b : Nat} (hb : b < B) : ∀ q, blk v = some q → ¬ q = b := fun q hq e => by have := h q hq; omega

/-- the end of a call that stores a struct of three fields, the last one a slice, in its result -/
theorem mat_end {w0 w1 : World} {ins bls} {b : Nat} {x0 x1 x2 : Value} {T : TypeId} {v : Value} {l : List Int} (h : MB w0 ins ((b, #[x0, x1, x2], T) :: bls) w1) (hb : w0.heap.size ≤ b)
    (hv : Ints w1 v l) (hf : ∀ q, blk v = some q → w0.heap.size ≤ q ∧ q ≠ b) (y0 y1 : Value) :
    (Ints (((w1.setCell ⟨b, 0, none⟩ y0).setCell ⟨b, 1, none⟩ y1).setCell ⟨b, 2, none⟩ v) v l ∧ FreshV w0.heap.size v ∧ Below w0.heap.size w0 (((w1.setCell ⟨b, 0, none⟩ y0).setCell ⟨b, 1, none⟩ y1).setCell ⟨b, 2, none⟩ v)) ∧
    (((w1.setCell ⟨b, 0, none⟩ y0).setCell ⟨b, 1, none⟩ y1).setCell ⟨b, 2, none⟩ v).cell? ⟨b, 0, none⟩ = some y0 ∧ (((w1.setCell ⟨b, 0, none⟩ y0).setCell ⟨b, 1, none⟩ y1).setCell ⟨b, 2, none⟩ v).cell? ⟨b, 1, none⟩ = some y1 ∧
    (((w1.setCell ⟨b, 0, none⟩ y0).setCell ⟨b, 1, none⟩ y1).setCell ⟨b, 2, none⟩ v).cell? ⟨b, 2, none⟩ = some v := by
  have hB := set3_blk h.b0 y0 y1 v
  exact ⟨⟨set3_ints hv (fun q hq => (hf q hq).2) y0 y1 v, fun q hq => (hf q hq).1, set3_below h.bel hb y0 y1 v⟩, hB.cell 0, hB.cell 1, hB.cell 2⟩

/-- the end that stores three zeros -/
theorem mat_zero {w0 w1 : World} {ins bls} {b : Nat} {x0 x1 x2 : Value} {T : TypeId} (h : MB w0 ins ((b, #[x0, x1, x2], T) :: bls) w1) (hb : w0.heap.size ≤ b) (y0 y1 y2 : Value) :
    Below w0.heap.size w0 (((w1.setCell ⟨b, 0, none⟩ y0).setCell ⟨b, 1, none⟩ y1).setCell ⟨b, 2, none⟩ y2) ∧
    (((w1.setCell ⟨b, 0, none⟩ y0).setCell ⟨b, 1, none⟩ y1).setCell ⟨b, 2, none⟩ y2).cell? ⟨b, 0, none⟩ = some y0 ∧ (((w1.setCell ⟨b, 0, none⟩ y0).setCell ⟨b, 1, none⟩ y1).setCell ⟨b, 2, none⟩ y2).cell? ⟨b, 1, none⟩ = some y1 ∧
    (((w1.setCell ⟨b, 0, none⟩ y0).setCell ⟨b, 1, none⟩ y1).setCell ⟨b, 2, none⟩ y2).cell? ⟨b, 2, none⟩ = some y2 := by
  have hB := set3_blk h.b0 y0 y1 y2
  exact ⟨set3_below h.bel hb y0 y1 y2, hB.cell 0, hB.cell 1, hB.cell 2⟩

/-- a block of three cells, whatever they hold -/
def Res3 (w : World) (b : Nat) (T : TypeId) : Prop := ∃ x y z, Blk w b #[x, y, z] T
theorem Res3.below {w w' : World} {b : Nat} {T : TypeId} (h : Res3 w b T) (c : Below w.heap.size w w') : Res3 w' b T := by
  obtain ⟨x, y, z, h⟩ := h; exact ⟨x, y, z, h.below c⟩
theorem Res3.lt {w : World} {b : Nat} {T : TypeId} (h : Res3 w b T) : b < w.heap.size := by
  obtain ⟨x, y, z, h⟩ := h; exact h.lt
theorem Res3.set3 {w : World} {b : Nat} {T : TypeId} (h : Res3 w b T) (y0 y1 y2 : Value) : Res3 (((w.setCell ⟨b, 0, none⟩ y0).setCell ⟨b, 1, none⟩ y1).setCell ⟨b, 2, none⟩ y2) b T := by
  obtain ⟨x, y, z, h⟩ := h; exact ⟨y0, y1, y2, set3_blk h y0 y1 y2⟩
theorem Res3.open_ {w : World} {b : Nat} {T : TypeId} (h : Res3 w b T) : ∃ x y z, w.cell? ⟨b, 0, none⟩ = some x ∧ w.cell? ⟨b, 1, none⟩ = some y ∧ w.cell? ⟨b, 2, none⟩ = some z ∧ w.frozen? ⟨b, 0, none⟩ = false ∧ w.frozen? ⟨b, 1, none⟩ = false ∧ w.frozen? ⟨b, 2, none⟩ = false := by
  obtain ⟨x, y, z, h⟩ := h; exact ⟨x, y, z, h.cell 0, h.cell 1, h.cell 2, h.frozen 0, h.frozen 1, h.frozen 2⟩
theorem Res3.blk_set {w : World} {b : Nat} {T : TypeId} (h : Res3 w b T) (y0 y1 y2 : Value) : Blk (((w.setCell ⟨b, 0, none⟩ y0).setCell ⟨b, 1, none⟩ y1).setCell ⟨b, 2, none⟩ y2) b #[y0, y1, y2] T := by
  obtain ⟨x, y, z, h⟩ := h; exact set3_blk h y0 y1 y2
/-- what a region holds of one box: its cells, the bundle, the result's block -/
theorem hold3 {w0 w : World} {ins bls} {b c : Nat} {x y z : Value} {T T' : TypeId} (h : MB w0 ins ((b, #[x, y, z], T) :: bls) w) (r : Res3 w c T') :
    (w.cell? ⟨b, 0, none⟩ = some x ∧ w.cell? ⟨b, 1, none⟩ = some y ∧ w.cell? ⟨b, 2, none⟩ = some z) ∧ MB w0 ins ((b, #[x, y, z], T) :: bls) w ∧ Res3 w c T' := ⟨blk3 h.b0, h, r⟩
theorem hold3_call {w0 w w' : World} {ins bls} {b c : Nat} {x y z : Value} {T T' : TypeId} {A : Prop} (h : A ∧ MB w0 ins ((b, #[x, y, z], T) :: bls) w ∧ Res3 w c T') (k : Below w.heap.size w w') :
    (w'.cell? ⟨b, 0, none⟩ = some x ∧ w'.cell? ⟨b, 1, none⟩ = some y ∧ w'.cell? ⟨b, 2, none⟩ = some z) ∧ MB w0 ins ((b, #[x, y, z], T) :: bls) w' ∧ Res3 w' c T' := hold3 (h.2.1.call k) (h.2.2.below k)
theorem hold3_alloc {w0 w : World} {ins bls} {b c : Nat} {x y z : Value} {T T' : TypeId} {A : Prop} (h : A ∧ MB w0 ins ((b, #[x, y, z], T) :: bls) w ∧ Res3 w c T') (o : Obj) :
    ((w.alloc o).cell? ⟨b, 0, none⟩ = some x ∧ (w.alloc o).cell? ⟨b, 1, none⟩ = some y ∧ (w.alloc o).cell? ⟨b, 2, none⟩ = some z) ∧ MB w0 ins ((b, #[x, y, z], T) :: bls) (w.alloc o) ∧ Res3 (w.alloc o) c T' :=
  hold3_call h ((Below.refl _ w).alloc (Nat.le_refl _) o)
theorem hold3_allocd {w0 w : World} {ins bls} {b c : Nat} {x y z : Value} {T T' : TypeId} {A : Prop} (h : A ∧ MB w0 ins ((b, #[x, y, z], T) :: bls) w.drew ∧ Res3 w.drew c T') (o : Obj) :
    ((w.alloc o).drew.cell? ⟨b, 0, none⟩ = some x ∧ (w.alloc o).drew.cell? ⟨b, 1, none⟩ = some y ∧ (w.alloc o).drew.cell? ⟨b, 2, none⟩ = some z) ∧ MB w0 ins ((b, #[x, y, z], T) :: bls) (w.alloc o).drew ∧ Res3 (w.alloc o).drew c T' :=
  hold3_alloc h o
theorem hold3_store {w0 w : World} {ins bls} {b c : Nat} {x y z : Value} {T T' : TypeId} {A : Prop} (h : A ∧ MB w0 ins ((b, #[x, y, z], T) :: bls) w ∧ Res3 w c T') (hc : w0.heap.size ≤ c)
    (hi : offI (fun k => k = c) ins) (ho : offB (fun k => k = c) ((b, #[x, y, z], T) :: bls)) (y0 y1 y2 : Value) :
    ((((w.setCell ⟨c, 0, none⟩ y0).setCell ⟨c, 1, none⟩ y1).setCell ⟨c, 2, none⟩ y2).cell? ⟨b, 0, none⟩ = some x ∧ (((w.setCell ⟨c, 0, none⟩ y0).setCell ⟨c, 1, none⟩ y1).setCell ⟨c, 2, none⟩ y2).cell? ⟨b, 1, none⟩ = some y ∧ (((w.setCell ⟨c, 0, none⟩ y0).setCell ⟨c, 1, none⟩ y1).setCell ⟨c, 2, none⟩ y2).cell? ⟨b, 2, none⟩ = some z) ∧
      MB w0 ins ((b, #[x, y, z], T) :: bls) (((w.setCell ⟨c, 0, none⟩ y0).setCell ⟨c, 1, none⟩ y1).setCell ⟨c, 2, none⟩ y2) ∧ Res3 (((w.setCell ⟨c, 0, none⟩ y0).setCell ⟨c, 1, none⟩ y1).setCell ⟨c, 2, none⟩ y2) c T' := by
  have k : Chg (fun k => k = c) w (((w.setCell ⟨c, 0, none⟩ y0).setCell ⟨c, 1, none⟩ y1).setCell ⟨c, 2, none⟩ y2) := (((Chg.refl (fun k => k = c) w).setCell (p := ⟨c, 0, none⟩) rfl y0).setCell (p := ⟨c, 1, none⟩) rfl y1).setCell (p := ⟨c, 2, none⟩) rfl y2
  exact hold3 (h.2.1.chg k (fun k e => by omega) hi ho) (h.2.2.set3 y0 y1 y2)

end Go.Proofs.Ytjcgommdeplbbaa

namespace Go.Proofs.Ytjcgommdeplbbaa
open Go.RowKit
set_option linter.unusedVariables false
set_option linter.unusedSimpArgs false

/-- append of any slice that reads as ls to one that the call owns -/
theorem run_app_any2 (ty : TypeId) (B : Nat) (v vx : Value) (l ls : List Int) (w : World) (hown : Own w B 3 .i64 v l) (hx : Ints w vx ls) (hB : B ≤ w.heap.size) (hl : l.length + ls.length ≤ 17592186044416) :
    ∃ v' w', (Builtin.append_ #[37, 37] ty #[v, vx]).run Try.prog w = .ok v' w' ∧ Own w' B 3 .i64 v' (l ++ ls) ∧ w.grownBy w' v.ownBlock ∧ (v'.ownBlock = v.ownBlock ∨ v'.ownBlock = some w.heap.size) := by
  obtain ⟨i, hi, h0, h1, h2⟩ := info_parts infoInt
  have ht := Try.underlying37
  obtain ⟨a, cap, rfl, hlc, hcm, hcells⟩ := hx
  cases a with
  | none =>
    have hne : ls = [] := by
      rcases hcells with h | ⟨_, _, _, h, _⟩
      · exact h
      · cases h
    subst hne
    refine ⟨v, w, ?_, by simpa using hown, World.grownBy.refl w _, .inl rfl⟩
    rcases hown.2 with ⟨rfl, _⟩ | ⟨g, cap', cur, rfl, _, _, hnc, _⟩
    · simp [Builtin.append_, run_underlying ht, sizeOf, typeInfo, hi, Builtin.lenOf, Builtin.firstCells]
    · simp [Builtin.append_, run_underlying ht, sizeOf, typeInfo, hi, Builtin.lenOf, Builtin.firstCells, hnc, storeCells]
  | some ad =>
    obtain ⟨v', w', hrun, h3, h4, _, h5⟩ := run_append_own_at (P := Try.prog) w B 37 ty 3 i (.int .i64 0) 1 8 ht hi h0 h1 h2 rfl (by decide) v l.length (l.map (Value.int .i64)) hown
      ad ls.length cap (ls.map (Value.int .i64)) (by simp) (fun j u hj => by
        have hjl : j < ls.length := by
          rcases Nat.lt_or_ge j ls.length with h | h
          · exact h
          · rw [List.getElem?_eq_none (show (ls.map (Value.int .i64)).length ≤ j by simpa using h)] at hj; cases hj
        rcases hcells with h | ⟨g', off, cur, e, hg, hs, hc⟩
        · subst h; simp at hjl
        · simp only [Option.some.injEq] at e
          subst e
          have hadd : (⟨g', off, none⟩ : Addr).add j = ⟨g', off + j, none⟩ := by unfold Addr.add; split <;> simp_all
          rw [hadd, cell_of_row w g' _ cur _ _ hg, hc j hjl, ← hj]
          simp [List.getD, hjl]) (ints_oneCell _ _) (by unfold maxLen; omega) (by omega) hB
    exact ⟨v', w', hrun, by unfold Own; simpa using h3, h4, h5⟩
end Go.Proofs.Ytjcgommdeplbbaa

namespace Go.Proofs.Ytjcgommdeplbbaa
set_option linter.unusedVariables false
set_option linter.unusedSimpArgs false

/-- the cells of a matrix of r rows and c columns, row by row -/
def matL (r c : Nat) (f : Nat → Nat → Int) : List Int := (List.range (r * c)).map fun (t : Nat) => f (t / c) (t % c)
theorem matL_len (r c : Nat) (f : Nat → Nat → Int) : (matL r c f).length = r * c := by simp [matL]
theorem mat_at {r c i k : Nat} (hi : i < r) (hk : k < c) : i * c + k < r * c := by
  have : (i + 1) * c ≤ r * c := Nat.mul_le_mul_right c (by omega)
  rw [Nat.add_mul] at this; omega
theorem mat_div {c i k : Nat} (hk : k < c) : (i * c + k) / c = i := by
  rw [Nat.mul_comm, Nat.mul_add_div (by omega), Nat.div_eq_of_lt hk]; rfl
theorem mat_mod {c i k : Nat} (hk : k < c) : (i * c + k) % c = k := by
  rw [Nat.mul_comm, Nat.mul_add_mod, Nat.mod_eq_of_lt hk]
theorem mat_rc {r c t : Nat} (h : t < r * c) : t / c < r ∧ t % c < c ∧ t / c * c + t % c = t := by
  have hc : 0 < c := by
    rcases Nat.eq_zero_or_pos c with e | e
    · rw [e, Nat.mul_zero] at h; omega
    · exact e
  refine ⟨Nat.div_lt_of_lt_mul (by rw [Nat.mul_comm]; exact h), Nat.mod_lt _ hc, ?_⟩
  have := Nat.div_add_mod t c
  rw [Nat.mul_comm] at this; exact this
theorem matL_get {r c i k : Nat} (f : Nat → Nat → Int) (hi : i < r) (hk : k < c) : (matL r c f).getD (i * c + k) 0 = f i k := by
  have h := mat_at hi hk
  simp [matL, List.getD, h, mat_div hk, mat_mod hk]
theorem matL_congr {r c : Nat} {f g : Nat → Nat → Int} (h : ∀ i k, i < r → k < c → f i k = g i k) : matL r c f = matL r c g := by
  apply List.ext_getElem (by simp [matL])
  intro t h1 h2
  simp only [matL, List.getElem_map, List.getElem_range]
  have ht : t < r * c := by simpa [matL] using h1
  obtain ⟨a, b, _⟩ := mat_rc ht
  exact h _ _ a b
theorem matL_of {r c : Nat} {L : List Int} (hL : L.length = r * c) : L = matL r c (fun i k => L.getD (i * c + k) 0) := by
  apply List.ext_getElem (by simp [matL, hL])
  intro t h1 h2
  simp only [matL, List.getElem_map, List.getElem_range]
  obtain ⟨_, _, e⟩ := mat_rc (show t < r * c by omega)
  rw [e]
  simp [List.getD, h1]
theorem matL_set {r c i k : Nat} (f : Nat → Nat → Int) (hi : i < r) (hk : k < c) (x : Int) :
    (matL r c f).set (i * c + k) x = matL r c (fun i' k' => if i' = i ∧ k' = k then x else f i' k') := by
  apply List.ext_getElem (by simp [matL])
  intro t h1 h2
  have ht : t < r * c := by simpa [matL] using h1
  rw [List.getElem_set]
  simp only [matL, List.getElem_map, List.getElem_range]
  by_cases h : i * c + k = t
  · subst h
    rw [if_pos rfl, if_pos ⟨mat_div hk, mat_mod hk⟩]
  · rw [if_neg h, if_neg]
    rintro ⟨h4, h5⟩
    have := (mat_rc ht).2.2
    rw [h4, h5] at this
    exact h this
theorem matL_zero (r c : Nat) : matL r c (fun _ _ => 0) = List.replicate (r * c) 0 := by
  apply List.ext_getElem (by simp [matL])
  intro t h1 h2
  simp [matL]

/-- the sum of the first n -/
def sumTo (f : Nat → Int) : Nat → Int
  | 0 => 0
  | n + 1 => sumTo f n + f n
theorem sumTo_congr {f g : Nat → Int} {n : Nat} (h : ∀ j, j < n → f j = g j) : sumTo f n = sumTo g n := by
  induction n with
  | zero => rfl
  | succ n ih => simp only [sumTo]; rw [ih (fun j hj => h j (by omega)), h n (by omega)]
theorem sumTo_bd {f : Nat → Int} {n : Nat} {M : Int} (h : ∀ j, j < n → 0 ≤ f j ∧ f j ≤ M) : 0 ≤ sumTo f n ∧ sumTo f n ≤ n * M := by
  induction n with
  | zero => simp [sumTo]
  | succ n ih =>
    simp only [sumTo]
    have h1 := ih (fun j hj => h j (by omega))
    have h2 := h n (by omega)
    have e : ((n + 1 : Nat) : Int) * M = n * M + M := by rw [Int.natCast_succ, Int.add_mul, Int.one_mul]
    rw [e]
    omega
/-- the product -/
def mulF (p : Int) (n cb : Nat) (la lb : List Int) (ca : Nat) (i k : Nat) : Int := sumTo (fun j => la.getD (i * ca + j) 0 * lb.getD (j * cb + k) 0) n % p
def mulL (p : Int) (ra ca cb : Nat) (la lb : List Int) : List Int := matL ra cb (fun i k => mulF p ca cb la lb ca i k)
/-- the transpose of a matrix of r rows and c columns -/
def trL (r c : Nat) (l : List Int) : List Int := matL c r (fun i k => l.getD (k * c + i) 0)
/-- two matrices on the diagonal -/
def blkF (ra ca rb cb : Nat) (la lb : List Int) (i k : Nat) : Int :=
  if i < ra then (if k < ca then la.getD (i * ca + k) 0 else 0) else (if k < ca then 0 else lb.getD ((i - ra) * cb + (k - ca)) 0)
def blkL (ra ca rb cb : Nat) (la lb : List Int) : List Int := matL (ra + rb) (ca + cb) (blkF ra ca rb cb la lb)

theorem mulF_step {p : Int} (n cb : Nat) (la lb : List Int) (ca i k : Nat) :
    (mulF p n cb la lb ca i k + la.getD (i * ca + n) 0 * lb.getD (n * cb + k) 0) % p = mulF p (n + 1) cb la lb ca i k := by
  unfold mulF
  simp only [sumTo]
  rw [Int.emod_add_emod]
theorem mulF_zero {p : Int} (cb : Nat) (la lb : List Int) (ca i k : Nat) : mulF p 0 cb la lb ca i k = 0 := by simp [mulF, sumTo]

end Go.Proofs.Ytjcgommdeplbbaa

namespace Go.Proofs.Ytjcgommdeplbbaa
open Go.RowKit
set_option linter.unusedVariables false
set_option linter.unusedSimpArgs false

theorem infoRow : (Try.prog.info? 37).map (fun i => (i.zero, i.size, i.bytes)) = some (some (.slice none 0 0), 1, 24) := by kernel_rfl

/-- all the values read as the lists, in blocks from B on -/
def arR (B : Nat) (w : World) : List Value → List (List Int) → Prop
  | [], [] => True
  | v :: vs, l :: ll => Ints w v l ∧ FreshV B v ∧ arR B w vs ll
  | _, _ => False
theorem arR.len {B : Nat} {w : World} : ∀ {vs : List Value} {ll : List (List Int)}, arR B w vs ll → vs.length = ll.length
  | [], [], _ => rfl
  | _ :: _, _ :: _, h => by simp [arR.len h.2.2]
  | [], _ :: _, h => h.elim
  | _ :: _, [], h => h.elim
theorem arR.keep {B : Nat} {w w' : World} (hk : ∀ v l, Ints w v l → FreshV B v → Ints w' v l) : ∀ {vs : List Value} {ll : List (List Int)}, arR B w vs ll → arR B w' vs ll
  | [], [], _ => trivial
  | _ :: _, _ :: _, h => ⟨hk _ _ h.1 h.2.1, h.2.1, arR.keep hk h.2.2⟩
  | [], _ :: _, h => h.elim
  | _ :: _, [], h => h.elim
theorem arR.mono {B B' : Nat} {w : World} (hB : B' ≤ B) : ∀ {vs : List Value} {ll : List (List Int)}, arR B w vs ll → arR B' w vs ll
  | [], [], _ => trivial
  | _ :: _, _ :: _, h => ⟨h.1, h.2.1.mono hB, arR.mono hB h.2.2⟩
  | [], _ :: _, h => h.elim
  | _ :: _, [], h => h.elim
theorem arR.snoc {B : Nat} {w : World} {v : Value} {l : List Int} (hv : Ints w v l) (hf : FreshV B v) : ∀ {vs : List Value} {ll : List (List Int)}, arR B w vs ll → arR B w (vs ++ [v]) (ll ++ [l])
  | [], [], _ => ⟨hv, hf, trivial⟩
  | _ :: _, _ :: _, h => ⟨h.1, h.2.1, arR.snoc hv hf h.2.2⟩
  | [], _ :: _, h => h.elim
  | _ :: _, [], h => h.elim
theorem arR.get {B : Nat} {w : World} : ∀ {vs : List Value} {ll : List (List Int)}, arR B w vs ll → ∀ i, i < ll.length → ∃ v, vs[i]? = some v ∧ Ints w v (ll.getD i []) ∧ FreshV B v
  | [], [], _, i, hi => by simp at hi
  | v :: _, l :: _, h, 0, _ => ⟨v, rfl, h.1, h.2.1⟩
  | _ :: _, _ :: ll, h, i + 1, hi => by
    obtain ⟨v, e, h1, h2⟩ := arR.get h.2.2 i (by simpa using hi)
    exact ⟨v, by simpa using e, by simpa [List.getD] using h1, h2⟩
  | [], _ :: _, h, _, _ => h.elim
  | _ :: _, [], h, _, _ => h.elim

/-- The slice value v reads as the rows ll, all of it in blocks from B on. -/
def Rws (B : Nat) (w : World) (v : Value) (ll : List (List Int)) : Prop :=
  ∃ a cap, v = .slice a ll.length cap ∧ ll.length ≤ cap ∧ cap ≤ maxLen ∧
    (ll = [] ∨ ∃ g off cur, a = some ⟨g, off, none⟩ ∧ B ≤ g ∧ w.heap[g]? = some (.cells cur 37 (0, 0)) ∧ off + ll.length ≤ cur.size ∧ arR B w ((cur.toList.drop off).take ll.length) ll)
theorem Rws.nil (B : Nat) (w : World) : Rws B w (.slice none 0 0) [] := ⟨none, 0, rfl, Nat.le_refl _, by decide, .inl rfl⟩
theorem Rws.shape {B : Nat} {w : World} {v : Value} {ll : List (List Int)} (h : Rws B w v ll) : ∃ a cap, v = .slice a ll.length cap ∧ ll.length ≤ cap ∧ cap ≤ 9223372036854775807 := by
  obtain ⟨a, cap, rfl, h1, h2, _⟩ := h
  exact ⟨a, cap, rfl, h1, by simpa [maxLen] using h2⟩
theorem Rws.below {B : Nat} {w w' : World} {v : Value} {ll : List (List Int)} (h : Rws B w v ll) (b : Below w.heap.size w w') : Rws B w' v ll := by
  obtain ⟨a, cap, rfl, h1, h2, rfl | ⟨g, off, cur, rfl, hB, hg, hs, hr⟩⟩ := h
  · exact ⟨_, cap, rfl, h1, h2, .inl rfl⟩
  · exact ⟨_, cap, rfl, h1, h2, .inr ⟨g, off, cur, rfl, hB, by rw [b.block g (Array.getElem?_eq_some_iff.1 hg).1]; exact hg, hs, hr.keep fun _ _ hv _ => hv.below b⟩⟩
theorem Rws.mono {B B' : Nat} {w : World} {v : Value} {ll : List (List Int)} (h : Rws B w v ll) (hB : B' ≤ B) : Rws B' w v ll := by
  obtain ⟨a, cap, rfl, h1, h2, rfl | ⟨g, off, cur, rfl, hB2, hg, hs, hr⟩⟩ := h
  · exact ⟨_, cap, rfl, h1, h2, .inl rfl⟩
  · exact ⟨_, cap, rfl, h1, h2, .inr ⟨g, off, cur, rfl, Nat.le_trans hB hB2, hg, hs, hr.mono hB⟩⟩
/-- one row, in the walk's words -/
theorem Rws.cell {B : Nat} {w : World} {a : Option Addr} {n cap : Nat} {ll : List (List Int)} (h : Rws B w (.slice a n cap) ll) {i : Nat} (hi : i < ll.length) :
    ∃ g off v, a = some ⟨g, off, none⟩ ∧ B ≤ g ∧ g < w.heap.size ∧ w.cell? ⟨g, off + i, none⟩ = some v ∧ Ints w v (ll.getD i []) ∧ FreshV B v := by
  obtain ⟨a', cap', e, h1, h2, h3⟩ := h
  simp only [Value.slice.injEq] at e
  obtain ⟨rfl, rfl, rfl⟩ := e
  rcases h3 with rfl | ⟨g, off, cur, rfl, hB, hg, hs, hr⟩
  · simp at hi
  · obtain ⟨v, e, h4, h5⟩ := hr.get i hi
    refine ⟨g, off, v, rfl, hB, (Array.getElem?_eq_some_iff.1 hg).1, ?_, h4, h5⟩
    rw [cell_of_row w g _ cur _ _ hg, ← e, List.getElem?_take, if_pos hi, List.getElem?_drop, Array.getElem?_toList]

/-- a row of rows that the call owns -/
def OwnR (w : World) (B : Nat) (v : Value) (ll : List (List Int)) : Prop := ∃ vs, w.ownsRow B 37 1 v ll.length vs ∧ arR B w vs ll
theorem OwnR.nil (w : World) (B : Nat) : OwnR w B (.slice none 0 0) [] := ⟨[], World.ownsRow_nil w B _ 1, trivial⟩
theorem OwnR.below {w w' : World} {B : Nat} {v : Value} {ll : List (List Int)} (h : OwnR w B v ll) (b : Below w.heap.size w w') : OwnR w' B v ll := by
  obtain ⟨vs, h1, h2⟩ := h
  refine ⟨vs, World.ownsRow.kept h1 (row := none) ⟨b.os, b.tape, b.output, b.size, fun i hi _ => b.block i hi⟩ ?_, h2.keep fun _ _ hv _ => hv.below b⟩
  cases v.ownBlock <;> simp
theorem OwnR.rws {w : World} {B : Nat} {v : Value} {ll : List (List Int)} (h : OwnR w B v ll) : Rws B w v ll := by
  obtain ⟨vs, ⟨hl, h2⟩, hr⟩ := h
  rcases h2 with ⟨rfl, h0⟩ | ⟨g, cap, cur, rfl, hb, hg, hnc, hcm, hcs, htake⟩
  · have : ll = [] := List.length_eq_zero_iff.1 h0
    subst this
    exact Rws.nil _ w
  · refine ⟨_, cap, rfl, hnc, hcm, ?_⟩
    by_cases h0 : ll = []
    · exact .inl h0
    · exact .inr ⟨g, 0, cur, rfl, hb, hg, by omega, by
        rw [List.drop_zero, show ll.length = ll.length * 1 by omega, htake]; exact hr⟩

/-- a slice of integers lies in no row of rows -/
theorem Ints.far {w : World} {B : Nat} {v : Value} {n : Nat} {xs : List Value} {u : Value} {l : List Int} (h : Ints w u l) (ho : w.ownsRow B 37 1 v n xs) : ∀ k, blk u = some k → some k ≠ v.ownBlock := by
  intro k hk e
  obtain ⟨a, cap, rfl, _, _, rfl | ⟨g, off, cur, rfl, hg, _, _⟩⟩ := h
  · cases a <;> simp [blk] at hk
  · have hgk : g = k := by
      cases l with
      | nil => simp [blk] at hk
      | cons x l => simpa [blk] using hk
    subst hgk
    rcases ho.2 with ⟨rfl, _⟩ | ⟨g', cap', cur', rfl, _, hh, _⟩
    · simp [Value.ownBlock] at e
    · have : g = g' := by simpa [Value.ownBlock] using e
      subst this
      rw [hg] at hh
      simp at hh
theorem Ints.grownR {w w' : World} {B : Nat} {v : Value} {n : Nat} {xs : List Value} {u : Value} {l : List Int} (h : Ints w u l) (ho : w.ownsRow B 37 1 v n xs) (hg : w.grownBy w' v.ownBlock) : Ints w' u l :=
  h.keep fun k hk => hg.block k (h.lt k hk) (h.far ho k hk)

/-- append of one row, which lies in the block just made -/
theorem app_row {ops : Array Oper} {rest : List Oper} {o : Oper} {a : Act} {Q : Exit → Act → World → Prop} {c : Value} (w0 w : World) (hgd : o.guard = none) (s x : Operand)
    (ho : o.op = .call { callee := .builtin .append, args := #[s, x], argTypes := #[31, 31] }) (B : Nat) (v : Value) (ll : List (List Int)) (l : List Int)
    (hs : a.eval s = v) (hx : a.eval x = .slice (some ⟨w.heap.size, 0, none⟩) 1 1) (hone : c.oneCell' = true) (hc : Ints w c l) (hf : FreshV B c) (hown : OwnR w B v ll) (hbel : Below B w0 w) (hB : B ≤ w.heap.size) (hl : ll.length + 1 ≤ 1048576)
    (hK : ∀ v' w', OwnR w' B v' (ll ++ [l]) → Below B w0 w' → B ≤ w'.heap.size → wpList Try.prog ops Q rest (a.put o.dst v') w') :
    wpList Try.prog ops Q (o :: rest) a (w.alloc (.cells #[c] 37)) := by
  obtain ⟨i, hi, h0, h1, h2⟩ := info_parts infoRow
  obtain ⟨vs, hown, hr⟩ := hown
  have hown2 := World.ownsRow.alloc hown (.cells #[c] 37)
  refine wpList_append_own _ hgd s x 31 ho B 37 i (.slice none 0 0) 1 24 Try.underlying31 hi h0 h1 h2 rfl (by decide) v ll.length vs hs hown2
    ⟨w.heap.size, 0, none⟩ 1 1 [c] hx rfl (news_cells w _ [c]) (by simpa using hone) (by unfold maxLen; omega) (by omega) (by simp; omega) ?_
  intro v' w' ho' hg _
  have hb : Below B w0 w' := (hbel.alloc hB _).grown hg (by simp; omega) (fun k hk => (World.ownsRow.lt hown k hk).1)
  have hal : Below w.heap.size w (w.alloc (.cells #[c] 37)) := (Below.refl _ w).alloc (Nat.le_refl _) _
  refine hK v' w' ⟨vs ++ [c], by simpa using ho', ?_⟩ hb ?_
  · exact (hr.keep fun _ _ h _ => (h.below hal).grownR hown2 hg).snoc ((hc.below hal).grownR hown2 hg) hf
  · have := hg.size; simp at this; omega

/-- a row of a matrix of c columns -/
def rowL (c i : Nat) (l : List Int) : List Int := (l.drop (i * c)).take c
theorem rowL_len {r c i : Nat} {l : List Int} (hl : l.length = r * c) (hi : i < r) : (rowL c i l).length = c := by
  have : (i + 1) * c ≤ r * c := Nat.mul_le_mul_right c (by omega)
  rw [Nat.add_mul] at this
  simp [rowL]; omega
theorem rowL_get {c i k : Nat} {l : List Int} (hk : k < c) : (rowL c i l).getD k 0 = l.getD (i * c + k) 0 := by
  simp [rowL, List.getD, List.getElem?_take, hk, List.getElem?_drop]

end Go.Proofs.Ytjcgommdeplbbaa
