/- Slices of integers in memory: a slice value that reads as a list, what keeps it so, and what a call may change. No function of the program is walked here. -/
import Derived.Test.YthlmggogeeedjaaOwn
namespace Go.Proofs.Ythlmggogeeedjaa
open Go.RowKit
set_option linter.unusedVariables false
set_option linter.unusedSimpArgs false

/-- Outside the blocks X, nothing that was there has turned. -/
structure Chg (X : Nat → Prop) (w w' : World) : Prop where
  os : w'.os = w.os
  tape : w'.tape = w.tape
  output : w'.output = w.output
  size : w.heap.size ≤ w'.heap.size
  block : ∀ k, k < w.heap.size → ¬ X k → w'.heap[k]? = w.heap[k]?

theorem Chg.refl (X : Nat → Prop) (w : World) : Chg X w w := ⟨rfl, rfl, rfl, Nat.le_refl _, fun _ _ _ => rfl⟩
theorem Chg.trans {X : Nat → Prop} {a b c : World} (h : Chg X a b) (k : Chg X b c) : Chg X a c :=
  ⟨k.os.trans h.os, k.tape.trans h.tape, k.output.trans h.output, Nat.le_trans h.size k.size,
   fun i hi hx => (k.block i (Nat.lt_of_lt_of_le hi h.size) hx).trans (h.block i hi hx)⟩
theorem Chg.mono {X Y : Nat → Prop} {a b : World} (h : Chg X a b) (hxy : ∀ k, k < a.heap.size → X k → Y k) : Chg Y a b :=
  ⟨h.os, h.tape, h.output, h.size, fun i hi hy => h.block i hi (fun hx => hy (hxy i hi hx))⟩
theorem Chg.below {X : Nat → Prop} {a b : World} {B : Nat} (h : Chg X a b) (hB : B ≤ a.heap.size) (hx : ∀ k, X k → B ≤ k) : Below B a b :=
  ⟨h.os, h.tape, h.output, h.size, fun k hk => h.block k (by omega) (fun e => by have := hx k e; omega)⟩
theorem Chg.of_below {X : Nat → Prop} {a b : World} (h : Below a.heap.size a b) : Chg X a b :=
  ⟨h.os, h.tape, h.output, h.size, fun k hk _ => h.block k hk⟩
theorem Chg.setCell {X : Nat → Prop} {a b : World} (h : Chg X a b) {p : Addr} (hp : X p.block) (u : Value) : Chg X a (b.setCell p u) :=
  h.trans ⟨rfl, rfl, rfl, by simp [World.setCell], fun k _ hX => Below.heap_setCell _ _ _ _ (fun e => hX (e ▸ hp))⟩

theorem below_chg {X : Nat → Prop} {B : Nat} {a b c : World} (h : Below B a b) (k : Chg X b c) (hB : B ≤ b.heap.size) (hx : ∀ k, X k → B ≤ k) : Below B a c :=
  h.trans (k.below hB hx)

/-- the block that a slice value with elements leads to -/
def blk : Value → Option Nat
  | .slice (some a) (_ + 1) _ => some a.block
  | _ => none
/-- a slice whose elements lie in blocks from B on -/
def FreshV (B : Nat) (v : Value) : Prop := ∀ k, blk v = some k → B ≤ k
theorem FreshV.mono {B B' : Nat} {v : Value} (h : FreshV B v) (hB : B' ≤ B) : FreshV B' v := fun k hk => Nat.le_trans hB (h k hk)
theorem FreshV.nil (B : Nat) : FreshV B (.slice none 0 0) := fun k hk => by simp [blk] at hk

/-- The slice value v reads as the integers l: it has no element, or it leads into a block of integers that nobody has frozen. -/
def Ints (w : World) (v : Value) (l : List Int) : Prop :=
  ∃ a cap, v = .slice a l.length cap ∧ l.length ≤ cap ∧ cap ≤ maxLen ∧
    (l = [] ∨ ∃ g off cur, a = some ⟨g, off, none⟩ ∧ w.heap[g]? = some (.cells cur 3 (0, 0)) ∧ off + l.length ≤ cur.size ∧ ∀ i, i < l.length → cur[off + i]? = some (.int .i64 (l.getD i 0)))

theorem Ints.nil (w : World) : Ints w (.slice none 0 0) [] := ⟨none, 0, rfl, Nat.le_refl _, by decide, .inl rfl⟩

theorem Ints.lt {w : World} {v : Value} {l : List Int} (h : Ints w v l) : ∀ k, blk v = some k → k < w.heap.size := by
  obtain ⟨a, cap, rfl, _, _, rfl | ⟨g, off, cur, rfl, hg, _⟩⟩ := h <;> intro k hk
  · cases a <;> simp [blk] at hk
  · cases l with
    | nil => simp [blk] at hk
    | cons x l => simp [blk] at hk; subst hk; exact (Array.getElem?_eq_some_iff.1 hg).1

theorem Ints.keep {w w' : World} {v : Value} {l : List Int} (h : Ints w v l) (hk : ∀ k, blk v = some k → w'.heap[k]? = w.heap[k]?) : Ints w' v l := by
  obtain ⟨a, cap, rfl, h1, h2, rfl | ⟨g, off, cur, rfl, hg, h3⟩⟩ := h
  · exact ⟨_, cap, rfl, h1, h2, .inl rfl⟩
  · cases l with
    | nil => exact ⟨_, cap, rfl, h1, h2, .inl rfl⟩
    | cons x l => exact ⟨_, cap, rfl, h1, h2, .inr ⟨g, off, cur, rfl, by rw [hk g rfl]; exact hg, h3⟩⟩

theorem Ints.chg {X : Nat → Prop} {w w' : World} {v : Value} {l : List Int} (h : Ints w v l) (c : Chg X w w') (hx : ∀ k, blk v = some k → ¬ X k) : Ints w' v l :=
  h.keep fun k hk => c.block k (h.lt k hk) (hx k hk)
theorem Ints.below {w w' : World} {v : Value} {l : List Int} (h : Ints w v l) (c : Below w.heap.size w w') : Ints w' v l :=
  h.keep fun k hk => c.block k (h.lt k hk)
theorem Ints.belowB {B : Nat} {w w' : World} {v : Value} {l : List Int} (h : Ints w v l) (c : Below B w w') (hB : ∀ k, blk v = some k → k < B) : Ints w' v l :=
  h.keep fun k hk => c.block k (hB k hk)

/-- its shape, for the walk -/
theorem Ints.shape {w : World} {v : Value} {l : List Int} (h : Ints w v l) : ∃ a cap, v = .slice a l.length cap ∧ l.length ≤ cap ∧ cap ≤ 9223372036854775807 := by
  obtain ⟨a, cap, rfl, h1, h2, _⟩ := h
  exact ⟨a, cap, rfl, h1, by simpa [maxLen] using h2⟩
/-- a cell, in the walk's words -/
theorem Ints.cell {w : World} {a : Option Addr} {n cap : Nat} {l : List Int} (h : Ints w (.slice a n cap) l) {i : Nat} (hi : i < l.length) :
    ∃ g off, a = some ⟨g, off, none⟩ ∧ g < w.heap.size ∧ w.cell? ⟨g, off + i, none⟩ = some (.int .i64 (l.getD i 0)) ∧ w.frozen? ⟨g, off + i, none⟩ = false := by
  obtain ⟨a', cap', e, h1, h2, h3⟩ := h
  simp only [Value.slice.injEq] at e
  obtain ⟨rfl, rfl, rfl⟩ := e
  rcases h3 with rfl | ⟨g, off, cur, rfl, hg, hs, hc⟩
  · simp at hi
  · exact ⟨g, off, rfl, (Array.getElem?_eq_some_iff.1 hg).1, by rw [cell_of_row w g _ cur _ _ hg]; exact hc i hi, frozen_of_row w g _ cur _ hg⟩
/-- one cell is written -/
theorem Ints.set {w : World} {g off n cap : Nat} {l : List Int} (h : Ints w (.slice (some ⟨g, off, none⟩) n cap) l) {i : Nat} (hi : i < l.length) (x : Int) :
    Ints (w.setCell ⟨g, off + i, none⟩ (.int .i64 x)) (.slice (some ⟨g, off, none⟩) n cap) (l.set i x) ∧ blk (.slice (some ⟨g, off, none⟩) n cap) = some g := by
  obtain ⟨a', cap', e, h1, h2, h3⟩ := h
  simp only [Value.slice.injEq] at e
  obtain ⟨e1, rfl, rfl⟩ := e
  rcases h3 with rfl | ⟨g', off', cur, e2, hg, hs, hc⟩
  · simp at hi
  · subst e1
    simp only [Option.some.injEq, Addr.mk.injEq, and_true] at e2
    obtain ⟨rfl, rfl⟩ := e2
    refine ⟨⟨_, cap, by rw [List.length_set], by simpa using h1, h2, .inr ⟨g, off, cur.setIfInBounds (off + i) (.int .i64 x), rfl, heap_setCell_same w g _ cur _ _ hg, by simpa using hs, fun j hj => ?_⟩⟩, ?_⟩
    · rw [List.length_set] at hj
      rw [Array.getElem?_setIfInBounds]
      by_cases hij : i = j
      · subst hij
        rw [if_pos rfl, if_pos (by omega)]
        simp [List.getD, hj]
      · rw [if_neg (by omega), hc j hj]
        simp [List.getD, hij]
    · cases l with
      | nil => simp at hi
      | cons x l => rfl

theorem Ints.of_own {w : World} {B : Nat} {v : Value} {l : List Int} (h : Own w B 3 .i64 v l) : Ints w v l ∧ FreshV B v := by
  obtain ⟨hl, h2⟩ := h
  rcases h2 with ⟨rfl, h0⟩ | ⟨g, cap, cur, rfl, hb, hg, hnc, hcm, hcs, htake⟩
  · have : l = [] := List.length_eq_zero_iff.1 h0
    subst this
    exact ⟨Ints.nil w, FreshV.nil B⟩
  · refine ⟨⟨_, cap, rfl, hnc, hcm, .inr ⟨g, 0, cur, rfl, hg, by omega, fun i hi => ?_⟩⟩, fun k hk => ?_⟩
    · have h1 : (cur.toList.take (l.length * 1))[i]? = (l.map (Value.int .i64))[i]? := by rw [htake]
      rw [List.getElem?_take, if_pos (by simpa using hi)] at h1
      simp only [Nat.zero_add]
      rw [← Array.getElem?_toList, h1]
      simp [hi]
    · cases l with
      | nil => simp [blk] at hk
      | cons x l => simp [blk] at hk; omega

def IntAnsC (r : Int) (w : World) (e : Ending) (w' : World) : Prop := e = .returned (.int .i64 r) ∧ Below w.heap.size w w'
def BoolAns (r : Bool) (w : World) (e : Ending) (w' : World) : Prop := e = .returned (.bool r) ∧ w = w'
def BoolAnsB (r : Bool) (w : World) (e : Ending) (w' : World) : Prop := e = .returned (.bool r) ∧ Below w.heap.size w w'

/-- a block of a local variable -/
def Blk (w : World) (b : Nat) (cs : Array Value) (T : TypeId) : Prop := w.heap[b]? = some (.cells cs T (0, 0))
theorem Blk.new (w : World) (cs : Array Value) (T : TypeId) : Blk (w.alloc (.cells cs T)) w.heap.size cs T := heap_alloc_new w _
theorem Blk.lt {w : World} {b : Nat} {cs : Array Value} {T : TypeId} (h : Blk w b cs T) : b < w.heap.size := (Array.getElem?_eq_some_iff.1 h).1
theorem Blk.below {w w' : World} {b : Nat} {cs : Array Value} {T : TypeId} (h : Blk w b cs T) (c : Below w.heap.size w w') : Blk w' b cs T := by
  unfold Blk; rw [c.block b h.lt]; exact h
theorem Blk.belowB {B : Nat} {w w' : World} {b : Nat} {cs : Array Value} {T : TypeId} (h : Blk w b cs T) (c : Below B w w') (hb : b < B) : Blk w' b cs T := by
  unfold Blk; rw [c.block b hb]; exact h
theorem Blk.chg {X : Nat → Prop} {w w' : World} {b : Nat} {cs : Array Value} {T : TypeId} (h : Blk w b cs T) (c : Chg X w w') (hx : ¬ X b) : Blk w' b cs T := by
  unfold Blk; rw [c.block b h.lt hx]; exact h
theorem Blk.cell {w : World} {b : Nat} {cs : Array Value} {T : TypeId} (h : Blk w b cs T) (i : Nat) : w.cell? ⟨b, i, none⟩ = cs[i]? := cell_of_row w b i cs T _ h
theorem Blk.frozen {w : World} {b : Nat} {cs : Array Value} {T : TypeId} (h : Blk w b cs T) (i : Nat) : w.frozen? ⟨b, i, none⟩ = false := frozen_of_row w b i cs T h
theorem Blk.set {w : World} {b : Nat} {cs : Array Value} {T : TypeId} (h : Blk w b cs T) (i : Nat) (u : Value) : Blk (w.setCell ⟨b, i, none⟩ u) b (cs.setIfInBounds i u) T := heap_setCell_same w b i cs T u h
theorem Blk.setOther {w : World} {b : Nat} {cs : Array Value} {T : TypeId} (h : Blk w b cs T) {p : Addr} (hp : b ≠ p.block) (u : Value) : Blk (w.setCell p u) b cs T := by
  unfold Blk; rw [heap_setCell_other w p b u hp]; exact h

/-- three cells of a local block are written: a struct of three fields is stored -/
def set3 (w : World) (b : Nat) (y0 y1 y2 : Value) : World := ((w.setCell ⟨b, 0, none⟩ y0).setCell ⟨b, 1, none⟩ y1).setCell ⟨b, 2, none⟩ y2
theorem set3_blk {w : World} {b : Nat} {x0 x1 x2 : Value} {T : TypeId} (h : Blk w b #[x0, x1, x2] T) (y0 y1 y2 : Value) : Blk (set3 w b y0 y1 y2) b #[y0, y1, y2] T :=
  ((h.set 0 y0).set 1 y1).set 2 y2
theorem set3_below {B : Nat} {a w : World} (h : Below B a w) {b : Nat} (hb : B ≤ b) (y0 y1 y2 : Value) : Below B a (set3 w b y0 y1 y2) :=
  ((h.setCell (p := ⟨b, 0, none⟩) hb y0).setCell (p := ⟨b, 1, none⟩) hb y1).setCell (p := ⟨b, 2, none⟩) hb y2
theorem set3_other {w : World} {b : Nat} (y0 y1 y2 : Value) {k : Nat} (hk : k ≠ b) : (set3 w b y0 y1 y2).heap[k]? = w.heap[k]? := by
  unfold set3
  rw [heap_setCell_other _ _ _ _ hk, heap_setCell_other _ _ _ _ hk, heap_setCell_other _ _ _ _ hk]
theorem set3_ints {w : World} {v : Value} {l : List Int} (h : Ints w v l) {b : Nat} (hb : ∀ k, blk v = some k → k ≠ b) (y0 y1 y2 : Value) : Ints (set3 w b y0 y1 y2) v l :=
  h.keep fun k hk => set3_other y0 y1 y2 (hb k hk)

end Go.Proofs.Ythlmggogeeedjaa
