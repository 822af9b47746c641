/- A matrix under way: a local struct whose row of cells grows. -/
import Derived.Test.YtdmjikfjmimfmaaDoorQG
namespace Go.Proofs.YtdmjikfjmimfmaaDoor
open Go.RowKit
set_option linter.unusedVariables false
set_option linter.unusedSimpArgs false

/-- the struct's block (its third cell cv), the result's block, the row v -/
def MG (w0 : World) (t b B : Nat) (R C : Int) (cv v : Value) (l : List Int) (w : World) : Prop :=
  Blk w b #[.int .i64 R, .int .i64 C, cv] 43 ∧ Res3 w t 43 ∧ Own w B 3 .i64 v l ∧ (∀ k, v.ownBlock = some k → k ≠ b ∧ k ≠ t) ∧ Below w0.heap.size w0 w ∧ B ≤ w.heap.size ∧ w0.heap.size ≤ b ∧ t ≠ b ∧ w0.heap.size ≤ B
theorem MG.store {w0 w : World} {t b B : Nat} {R C : Int} {cv v : Value} {l : List Int} (h : MG w0 t b B R C cv v l w) : MG w0 t b B R C v v l (w.setCell ⟨b, 2, none⟩ v) := by
  obtain ⟨h1, ⟨x, y, z, h2⟩, h3, h4, h5, h6, h7, h8, h9⟩ := h
  refine ⟨h1.set 2 v, ⟨x, y, z, h2.setOther (p := ⟨b, 2, none⟩) (by simpa using h8) v⟩, h3.same fun g hg => heap_setCell_other w ⟨b, 2, none⟩ g v (fun e => (h4 g hg).1 e), h4, h5.setCell (p := ⟨b, 2, none⟩) h7 v, ?_, h7, h8, h9⟩
  have := ((Chg.refl (fun q => q = b) w).setCell (p := ⟨b, 2, none⟩) rfl v).size
  omega
theorem MG.grow {w0 w w' : World} {t b B : Nat} {R C : Int} {cv v v' : Value} {l l' : List Int} {o : Obj} {g : Nat} (h : MG w0 t b B R C cv v l w) (hg : (w.alloc o).drew.grownBy w' v.ownBlock) (ho : Own w' B 3 .i64 v' l')
    (hv : ∀ k, v'.ownBlock = some k → k = g) (hor : v.ownBlock = some g ∨ g = w.heap.size + 1) : MG w0 t b B R C cv v' l' w' := by
  obtain ⟨h1, ⟨x, y, z, h2⟩, h3, h4, h5, h6, h7, h8, h9⟩ := h
  have hbl := h1.lt
  have htl := h2.lt
  have hsz : w.heap.size ≤ w'.heap.size := by have := hg.size; simp at this; omega
  refine ⟨?_, ⟨x, y, z, ?_⟩, ho, ?_, ?_, by omega, h7, h8, h9⟩
  · unfold Blk; rw [grown_same hg hbl (fun e => (h4 b e).1 rfl)]; exact h1
  · unfold Blk; rw [grown_same hg htl (fun e => (h4 t e).2 rfl)]; exact h2
  · intro k hk
    obtain rfl := hv k hk
    rcases hor with h | h
    · exact h4 k h
    · omega
  · exact Below.grown ((h5.alloc h5.size o).drew) hg (by simp; have := h5.size; omega) (fun k hk => by have := (World.ownsRow.lt h3 k hk).1; omega)
/-- at a step of a region that draws its order: append of one number to the row -/
theorem step_app_m {ops : Array Oper} {o : Oper} {a : Act} {K : Act → World → Prop} {Q : Exit → Act → World → Prop} {E : Prop} {c : Int} (w : World) (hgd : o.guard = none) (s x : Operand)
    (ho : o.op = .call { callee := .builtin .append, args := #[s, x], argTypes := #[22, 22] }) {w0 : World} {t b B : Nat} {R C : Int} {cv v : Value} {l : List Int}
    (hs : a.eval s = v) (hx : a.eval x = .slice (some ⟨w.heap.size, 0, none⟩) 1 1) (hq : MG w0 t b B R C cv v l w) (hl : l.length + 1 ≤ 17592186044416)
    (hK : ∀ v' w', MG w0 t b B R C cv v' (l ++ [c]) w' → K (a.put o.dst v') w') :
    if Region.wanted o (yielded ops a.tmps) = true then Oper.wp Tryd.prog o a (w.alloc (.cells #[.int .i64 c] 3)).drew K Q else E := by
  obtain ⟨i, hi, h0, h1, h2⟩ := info_parts infoInt
  refine step_append_lies _ hgd s x 22 ho B 3 i (.int .i64 0) 1 8 Tryd.underlying22 hi h0 h1 h2 rfl (by decide) v l.length (l.map (Value.int .i64)) hs ((World.ownsRow.alloc hq.2.2.1 _).drew)
    ⟨w.heap.size, 0, none⟩ 1 1 [.int .i64 c] hx rfl (news_cells w _ [.int .i64 c]) (ints_oneCell .i64 [c]) (by decide) (by unfold maxLen; omega) (by omega) (by have := hq.2.2.2.2.2.1; simp; omega) (w.heap.size + 1) (by simp) ?_
  intro g cap w' ho' hg hor _
  have hO : Own w' B 3 .i64 (.slice (some ⟨g, 0, none⟩) (l.length + 1) cap) (l ++ [c]) := by unfold Own; simpa using ho'
  exact hK _ w' (hq.grow hg hO (fun k hk => by simpa [Value.ownBlock] using hk.symm) hor)
end Go.Proofs.YtdmjikfjmimfmaaDoor
