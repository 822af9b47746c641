/- A quiver under way: a local struct whose two rows grow. -/
import Derived.Test.YtdmjikfjmimfmaaDoorMB
import Derived.Test.YtdmjikfjmimfmaaDoorVecOps
namespace Go.Proofs.YtdmjikfjmimfmaaDoor
open Go.RowKit
set_option linter.unusedVariables false
set_option linter.unusedSimpArgs false

theorem Own.same {w w' : World} {B : Nat} {e : TypeId} {k : IntKind} {v : Value} {l : List Int} (h : Own w B e k v l) (hb : ∀ g, v.ownBlock = some g → w'.heap[g]? = w.heap[g]?) : Own w' B e k v l := by
  refine ⟨h.1, ?_⟩
  rcases h.2 with h2 | ⟨g, cap, cur, rfl, h4, h5, h6⟩
  · exact .inl h2
  · refine .inr ⟨g, cap, cur, rfl, h4, ?_, h6⟩
    rw [hb g rfl]; exact h5
/-- the struct's block (its cells cf, ct), the result's block, the two rows (vf, vt) -/
def QG (w0 : World) (t b B : Nat) (n : Int) (cf ct vf vt : Value) (lf lt : List Int) (w : World) : Prop :=
  Blk w b #[.int .i64 n, cf, ct] 30 ∧ Res3 w t 30 ∧ Own w B 3 .i64 vf lf ∧ Own w B 3 .i64 vt lt ∧ (∀ k, vf.ownBlock = some k → vt.ownBlock ≠ some k) ∧ Below w0.heap.size w0 w ∧ B ≤ w.heap.size ∧ ((∀ k, vf.ownBlock = some k → k ≠ b ∧ k ≠ t) ∧ (∀ k, vt.ownBlock = some k → k ≠ b ∧ k ≠ t) ∧ w0.heap.size ≤ b ∧ t ≠ b ∧ w0.heap.size ≤ B)
theorem QG.drew {w0 w : World} {t b B : Nat} {n : Int} {cf ct vf vt : Value} {lf lt : List Int} (h : QG w0 t b B n cf ct vf vt lf lt w) : QG w0 t b B n cf ct vf vt lf lt w.drew := by
  obtain ⟨h1, h2, h3, h4, h5, h6, h7, h8⟩ := h
  exact ⟨h1, h2, h3.drewN 1, h4.drewN 1, h5, h6.drew, h7, h8⟩
theorem QG.store1 {w0 w : World} {t b B : Nat} {n : Int} {cf ct vf vt : Value} {lf lt : List Int} (h : QG w0 t b B n cf ct vf vt lf lt w) : QG w0 t b B n vf ct vf vt lf lt (w.setCell ⟨b, 1, none⟩ vf) := by
  obtain ⟨h1, ⟨x, y, z, h2⟩, h3, h4, h5, h6, h7, h8, h9, h10, h11, h12⟩ := h
  have hk : ∀ v l, Own w B 3 .i64 v l → (∀ k, v.ownBlock = some k → k ≠ b ∧ k ≠ t) → Own (w.setCell ⟨b, 1, none⟩ vf) B 3 .i64 v l := fun v l hv hn => hv.same fun g hg => heap_setCell_other w ⟨b, 1, none⟩ g vf (fun e => (hn g hg).1 e)
  refine ⟨h1.set 1 vf, ⟨x, y, z, h2.setOther (p := ⟨b, 1, none⟩) (by simpa using h11) vf⟩, hk _ _ h3 h8, hk _ _ h4 h9, h5, h6.setCell (p := ⟨b, 1, none⟩) h10 vf, ?_, h8, h9, h10, h11, h12⟩
  have := ((Chg.refl (fun q => q = b) w).setCell (p := ⟨b, 1, none⟩) rfl vf).size
  omega
theorem QG.store2 {w0 w : World} {t b B : Nat} {n : Int} {cf ct vf vt : Value} {lf lt : List Int} (h : QG w0 t b B n cf ct vf vt lf lt w) : QG w0 t b B n cf vt vf vt lf lt (w.setCell ⟨b, 2, none⟩ vt) := by
  obtain ⟨h1, ⟨x, y, z, h2⟩, h3, h4, h5, h6, h7, h8, h9, h10, h11, h12⟩ := h
  have hk : ∀ v l, Own w B 3 .i64 v l → (∀ k, v.ownBlock = some k → k ≠ b ∧ k ≠ t) → Own (w.setCell ⟨b, 2, none⟩ vt) B 3 .i64 v l := fun v l hv hn => hv.same fun g hg => heap_setCell_other w ⟨b, 2, none⟩ g vt (fun e => (hn g hg).1 e)
  refine ⟨h1.set 2 vt, ⟨x, y, z, h2.setOther (p := ⟨b, 2, none⟩) (by simpa using h11) vt⟩, hk _ _ h3 h8, hk _ _ h4 h9, h5, h6.setCell (p := ⟨b, 2, none⟩) h10 vt, ?_, h8, h9, h10, h11, h12⟩
  have := ((Chg.refl (fun q => q = b) w).setCell (p := ⟨b, 2, none⟩) rfl vt).size
  omega
theorem grown_same {w w' : World} {o : Obj} {row : Option Nat} (hg : (w.alloc o).drew.grownBy w' row) {k : Nat} (hk : k < w.heap.size) (hne : row ≠ some k) : w'.heap[k]? = w.heap[k]? := by
  rw [hg.block k (by show k < (w.alloc o).heap.size; simp; omega) (fun e => hne e.symm)]
  show (w.alloc o).heap[k]? = w.heap[k]?
  exact ((Below.refl _ w).alloc (Nat.le_refl _) o).block k hk
/-- one row has grown (it is v' now, in the block g) -/
theorem QG.grow1 {w0 w w' : World} {t b B : Nat} {n : Int} {cf ct vf vt v' : Value} {lf lt l' : List Int} {o : Obj} {g : Nat} (h : QG w0 t b B n cf ct vf vt lf lt w) (hg : (w.alloc o).drew.grownBy w' vf.ownBlock) (ho : Own w' B 3 .i64 v' l')
    (hv : ∀ k, v'.ownBlock = some k → k = g) (hor : vf.ownBlock = some g ∨ g = w.heap.size + 1) : QG w0 t b B n cf ct v' vt l' lt w' := by
  obtain ⟨h1, ⟨x, y, z, h2⟩, h3, h4, h5, h6, h7, h8, h9, h10, h11, h12⟩ := h
  have hbl := h1.lt
  have htl := h2.lt
  have hsz : w.heap.size ≤ w'.heap.size := by have := hg.size; simp at this; omega
  refine ⟨?_, ⟨x, y, z, ?_⟩, ho, h4.same fun k hk => grown_same hg (World.ownsRow.lt h4 k hk).2 (fun e => h5 k e hk), ?_, ?_, by omega, ?_, h9, h10, h11, h12⟩
  · unfold Blk; rw [grown_same hg hbl (fun e => (h8 b e).1 rfl)]; exact h1
  · unfold Blk; rw [grown_same hg htl (fun e => (h8 t e).2 rfl)]; exact h2
  · intro k hk e
    obtain rfl := hv k hk
    rcases hor with h | h
    · exact h5 k h e
    · have := (World.ownsRow.lt h4 k e).2; omega
  · exact Below.grown ((h6.alloc h6.size o).drew) hg (by simp; have := h6.size; omega) (fun k hk => by have := (World.ownsRow.lt h3 k hk).1; omega)
  · intro k hk
    obtain rfl := hv k hk
    rcases hor with h | h
    · exact h8 k h
    · omega
theorem QG.swap_rows {w0 w : World} {t b B : Nat} {n : Int} {cf ct vf vt : Value} {lf lt : List Int} (h : QG w0 t b B n cf ct vf vt lf lt w) : QG w0 t b B n cf ct vt vf lt lf w := by
  obtain ⟨h1, h2, h3, h4, h5, h6, h7, h8, h9, h10⟩ := h
  exact ⟨h1, h2, h4, h3, fun k hk e => h5 k e hk, h6, h7, h9, h8, h10⟩
/-- at a step of a region that draws its order: append of one number to the first row -/
theorem step_app_q1 {ops : Array Oper} {o : Oper} {a : Act} {K : Act → World → Prop} {Q : Exit → Act → World → Prop} {E : Prop} {c : Int} (w : World) (hgd : o.guard = none) (s x : Operand)
    (ho : o.op = .call { callee := .builtin .append, args := #[s, x], argTypes := #[22, 22] }) {w0 : World} {t b B : Nat} {n : Int} {cf ct vf vt : Value} {lf lt : List Int}
    (hs : a.eval s = vf) (hx : a.eval x = .slice (some ⟨w.heap.size, 0, none⟩) 1 1) (hq : QG w0 t b B n cf ct vf vt lf lt w) (hl : lf.length + 1 ≤ 17592186044416)
    (hK : ∀ v' w', QG w0 t b B n cf ct v' vt (lf ++ [c]) lt w' → K (a.put o.dst v') w') :
    if Region.wanted o (yielded ops a.tmps) = true then Oper.wp Tryd.prog o a (w.alloc (.cells #[.int .i64 c] 3)).drew K Q else E := by
  obtain ⟨i, hi, h0, h1, h2⟩ := info_parts infoInt
  refine step_append_lies _ hgd s x 22 ho B 3 i (.int .i64 0) 1 8 Tryd.underlying22 hi h0 h1 h2 rfl (by decide) vf lf.length (lf.map (Value.int .i64)) hs ((World.ownsRow.alloc hq.2.2.1 _).drew)
    ⟨w.heap.size, 0, none⟩ 1 1 [.int .i64 c] hx rfl (news_cells w _ [.int .i64 c]) (ints_oneCell .i64 [c]) (by decide) (by unfold maxLen; omega) (by omega) (by have := hq.2.2.2.2.2.2.1; simp; omega) (w.heap.size + 1) (by simp) ?_
  intro g cap w' ho' hg hor _
  have hO : Own w' B 3 .i64 (.slice (some ⟨g, 0, none⟩) (lf.length + 1) cap) (lf ++ [c]) := by unfold Own; simpa using ho'
  exact hK _ w' (hq.grow1 hg hO (fun k hk => by simpa [Value.ownBlock] using hk.symm) hor)
theorem step_app_q2 {ops : Array Oper} {o : Oper} {a : Act} {K : Act → World → Prop} {Q : Exit → Act → World → Prop} {E : Prop} {c : Int} (w : World) (hgd : o.guard = none) (s x : Operand)
    (ho : o.op = .call { callee := .builtin .append, args := #[s, x], argTypes := #[22, 22] }) {w0 : World} {t b B : Nat} {n : Int} {cf ct vf vt : Value} {lf lt : List Int}
    (hs : a.eval s = vt) (hx : a.eval x = .slice (some ⟨w.heap.size, 0, none⟩) 1 1) (hq : QG w0 t b B n cf ct vf vt lf lt w) (hl : lt.length + 1 ≤ 17592186044416)
    (hK : ∀ v' w', QG w0 t b B n cf ct vf v' lf (lt ++ [c]) w' → K (a.put o.dst v') w') :
    if Region.wanted o (yielded ops a.tmps) = true then Oper.wp Tryd.prog o a (w.alloc (.cells #[.int .i64 c] 3)).drew K Q else E :=
  step_app_q1 w hgd s x ho hs hx hq.swap_rows hl (fun v' w' h => hK v' w' h.swap_rows)
theorem own_blk {w : World} {B : Nat} {e : TypeId} {v : Value} {l : List Int} {k : Nat} (h : Own w B e .i64 v l) (hk : blk v = some k) : v.ownBlock = some k := by
  rcases h.2 with ⟨rfl, _⟩ | ⟨g, cap, cur, rfl, _⟩
  · simp [blk] at hk
  · cases hn : l.length with
    | zero => rw [hn] at hk; simp [blk] at hk
    | succ m => rw [hn] at hk; simpa [blk, Value.ownBlock] using hk
/-- what is handed on -/
theorem QG.ends {w0 w : World} {t b B : Nat} {n : Int} {cf ct vf vt : Value} {lf lt : List Int} (h : QG w0 t b B n cf ct vf vt lf lt w) :
    Ints w vf lf ∧ Ints w vt lt ∧ FreshV B vf ∧ FreshV B vt ∧ (∀ k, blk vf = some k → ¬ blk vt = some k) := by
  obtain ⟨_, _, h3, h4, h5, _⟩ := h
  have a := Ints.of_own h3
  have b := Ints.of_own h4
  exact ⟨a.1, b.1, a.2, b.2, fun k hk hk' => h5 k (own_blk h3 hk) (own_blk h4 hk')⟩
end Go.Proofs.YtdmjikfjmimfmaaDoor
