/- FnPaths: what the reference draws: names, quivers whose rows grow. -/
import Derived.Test.YtndooeffjkofdaaDoorPqSO
import Derived.Test.YtndooeffjkofdaaDoorCurN
namespace Go.Proofs.YtndooeffjkofdaaDoor
open Go.RowKit
set_option linter.unusedVariables false
set_option linter.unusedSimpArgs false

theorem Ints.chgC {w w' : World} {c : Nat} {v : Value} {l : List Int} (h : Ints w v l) (hc : Cur w c) (hg : CChg c w w') : Ints w' v l := by
  obtain ⟨cv, n, i, hh, hb, _⟩ := hc
  refine h.keep fun k hk => hg.block k (h.lt k hk) (fun e => ?_)
  subst e
  obtain ⟨a, cap, rfl, _, _, rfl | ⟨g2, off, cur2, rfl, hg2, _, _⟩⟩ := h
  · cases a <;> simp [blk] at hk
  · have hgk : g2 = k := by
      cases l with
      | nil => simp [blk] at hk
      | cons y l => simpa [blk] using hk
    rw [hgk, show w.heap[k]? = _ from hb] at hg2
    simp at hg2
def namesA : Array Value := #[.string ⟨#[65, 49]⟩, .string ⟨#[65, 50]⟩, .string ⟨#[65, 51]⟩, .string ⟨#[65, 51, 105, 110]⟩, .string ⟨#[65, 52]⟩, .string ⟨#[68, 52]⟩, .string ⟨#[68, 53]⟩, .string ⟨#[75, 50]⟩, .string ⟨#[115, 116, 97, 114, 52]⟩, .string ⟨#[115, 113, 117, 97, 114, 101]⟩, .string ⟨#[108, 111, 111, 112]⟩, .string ⟨#[99, 105, 114, 99, 108, 101]⟩]
theorem names_cell (w : World) (k : Nat) (hk : k < 12) : ∃ s, (w.alloc (.cells namesA 9)).cell? ⟨w.heap.size, k, none⟩ = some (.string s) := by
  have h := (Blk.new w namesA 9).cell k
  have hs : ∀ k, k < 12 → ∃ s, namesA[k]? = some (.string s) := by
    intro k hk
    rcases k with _ | _ | _ | _ | _ | _ | _ | _ | _ | _ | _ | _ | k
    all_goals first | exact ⟨_, rfl⟩ | omega
  obtain ⟨s, e⟩ := hs k hk
  exact ⟨s, by rw [← e]; exact h⟩
set_option maxRecDepth 100000 in
set_option maxHeartbeats 1000000 in
theorem s_l6Names (w : World) : Calls Tryd.prog 63 #[] w (fun e w' => e = .returned (.slice (some ⟨w.heap.size, 0, none⟩) 12 12) ∧ w' = w.alloc (.cells namesA 9)) := by
  go_enter Tryd.func63, Tryd.ntmps63
  go_wp2
  go_ret
  exact ⟨rfl, rfl⟩
set_option maxRecDepth 100000 in
set_option maxHeartbeats 1000000 in
theorem pick_two (c : Nat) (A B : ByteArray) (w : World) (hcur : Cur w c) :
    Calls Tryd.prog 52 #[.pointer (some ⟨c, 0, none⟩), .slice (some ⟨w.heap.size, 0, none⟩) 2 2] (w.alloc (.cells #[.string A, .string B] 9)) fun e w' => ∃ s, e = .returned (.string s) ∧ Cur w' c ∧ CChg c w w' := by
  have hal := (Below.refl w.heap.size w).alloc (Nat.le_refl _) (.cells #[.string A, .string B] 9)
  have hb := Blk.new w #[.string A, .string B] 9
  have HB := Lib.hid (And.intro hb (And.intro (hcur.below hal) (And.intro hal hcur.lt)))
  clear hal hb hcur
  go_enter Tryd.func52, Tryd.ntmps52
  go_wp2_with fail
  refine (s_l1Below c _ _ HB.out.2.1).mono ?_; rintro e w1 ⟨r, hr, rfl, hc1, hg1⟩
  have hk : w1.heap[w.heap.size]? = (w.alloc (.cells #[.string A, .string B] 9)).heap[w.heap.size]? := hg1.block _ (by simp) (fun e => by have := HB.out.2.2.2; omega)
  have hb1 : Blk w1 w.heap.size #[.string A, .string B] 9 := hk.trans HB.out.1
  have p0 := hb1.cell 0
  have p1 := hb1.cell 1
  simp only [List.getElem?_toArray, List.getElem?_cons_zero, List.getElem?_cons_succ] at p0 p1
  have H1 := Lib.hid (And.intro hc1 ((CChg.of_below HB.out.2.2.1).trans hg1))
  clear hc1 hg1 hk hb1
  rcases (show r = 0 ∨ r = 1 by rcases hr with h | h <;> omega) with rfl | rfl
  · clear hr
    go_wp2
    go_ret
    exact ⟨_, rfl, H1.out.1, H1.out.2⟩
  · clear hr
    go_wp2
    go_ret
    exact ⟨_, rfl, H1.out.1, H1.out.2⟩
/-- a local quiver struct (block b; its cells cf, ct), the result's block t, two rows (vf, vt), all from B on; the cursor lies below -/
def GQ (c B t b : Nat) (n : Int) (cf ct vf vt : Value) (lf lt : List Int) (w0 w : World) : Prop :=
  Blk w b #[.int .i64 n, cf, ct] 26 ∧ Res3 w t 26 ∧ Own w B 3 .i64 vf lf ∧ Own w B 3 .i64 vt lt ∧ (∀ k, vf.ownBlock = some k → vt.ownBlock ≠ some k) ∧ Cur w c ∧ TChg c B w0 w ∧ B ≤ w.heap.size ∧ ((∀ k, vf.ownBlock = some k → k ≠ b ∧ k ≠ t) ∧ (∀ k, vt.ownBlock = some k → k ≠ b ∧ k ≠ t) ∧ B ≤ b ∧ B ≤ t ∧ t ≠ b ∧ c < B)
theorem GQ.drew {c B t b : Nat} {n : Int} {cf ct vf vt : Value} {lf lt : List Int} {w0 w : World} (h : GQ c B t b n cf ct vf vt lf lt w0 w) : GQ c B t b n cf ct vf vt lf lt w0 w.drew := by
  obtain ⟨h1, h2, h3, h4, h5, h6, h7, h8⟩ := h
  exact ⟨h1, h2, h3.drewN 1, h4.drewN 1, h5, h6.drewN 1, ⟨h7.1, h7.2, h7.3, h7.4, h7.5⟩, h8⟩
theorem GQ.chg {c B t b : Nat} {n : Int} {cf ct vf vt : Value} {lf lt : List Int} {w0 w w' : World} (h : GQ c B t b n cf ct vf vt lf lt w0 w) (hc : Cur w' c) (hg : CChg c w w') : GQ c B t b n cf ct vf vt lf lt w0 w' := by
  obtain ⟨h1, ⟨x, y, z, h2⟩, h3, h4, h5, h6, h7, h8, h9, h10, h11, h12, h13, h14⟩ := h
  refine ⟨(hg.block b h1.lt (by omega)).trans h1, ⟨x, y, z, (hg.block t h2.lt (by omega)).trans h2⟩, h3.chg hg h14, h4.chg hg h14, h5, hc, h7.trans (TChg.of_c hg), Nat.le_trans h8 hg.size, h9, h10, h11, h12, h13, h14⟩
theorem GQ.store0 {c B t b : Nat} {n : Int} {cf ct vf vt : Value} {lf lt : List Int} {w0 w : World} (h : GQ c B t b n cf ct vf vt lf lt w0 w) (m : Int) : GQ c B t b m cf ct vf vt lf lt w0 (w.setCell ⟨b, 0, none⟩ (.int .i64 m)) := by
  obtain ⟨h1, ⟨x, y, z, h2⟩, h3, h4, h5, h6, h7, h8, h9, h10, h11, h12, h13, h14⟩ := h
  have hk : ∀ v l, Own w B 3 .i64 v l → (∀ k, v.ownBlock = some k → k ≠ b ∧ k ≠ t) → Own (w.setCell ⟨b, 0, none⟩ (.int .i64 m)) B 3 .i64 v l := fun v l hv hn => hv.same fun g hg => heap_setCell_other w ⟨b, 0, none⟩ g _ (fun e => (hn g hg).1 e)
  refine ⟨h1.set 0 (.int .i64 m), ⟨x, y, z, h2.setOther (p := ⟨b, 0, none⟩) (by simpa using h13) _⟩, hk _ _ h3 h9, hk _ _ h4 h10, h5, h6.setFar (p := ⟨b, 0, none⟩) (by show c < b; omega) _, h7.setCell (p := ⟨b, 0, none⟩) h11 _, ?_, h9, h10, h11, h12, h13, h14⟩
  have := ((Chg.refl (fun q => q = b) w).setCell (p := ⟨b, 0, none⟩) rfl (.int .i64 m)).size
  omega
theorem GQ.store1 {c B t b : Nat} {n : Int} {cf ct vf vt : Value} {lf lt : List Int} {w0 w : World} (h : GQ c B t b n cf ct vf vt lf lt w0 w) : GQ c B t b n vf ct vf vt lf lt w0 (w.setCell ⟨b, 1, none⟩ vf) := by
  obtain ⟨h1, ⟨x, y, z, h2⟩, h3, h4, h5, h6, h7, h8, h9, h10, h11, h12, h13, h14⟩ := h
  have hk : ∀ v l, Own w B 3 .i64 v l → (∀ k, v.ownBlock = some k → k ≠ b ∧ k ≠ t) → Own (w.setCell ⟨b, 1, none⟩ vf) B 3 .i64 v l := fun v l hv hn => hv.same fun g hg => heap_setCell_other w ⟨b, 1, none⟩ g vf (fun e => (hn g hg).1 e)
  refine ⟨h1.set 1 vf, ⟨x, y, z, h2.setOther (p := ⟨b, 1, none⟩) (by simpa using h13) vf⟩, hk _ _ h3 h9, hk _ _ h4 h10, h5, h6.setFar (p := ⟨b, 1, none⟩) (by show c < b; omega) vf, h7.setCell (p := ⟨b, 1, none⟩) h11 vf, ?_, h9, h10, h11, h12, h13, h14⟩
  have := ((Chg.refl (fun q => q = b) w).setCell (p := ⟨b, 1, none⟩) rfl vf).size
  omega
theorem GQ.swap {c B t b : Nat} {n : Int} {cf ct vf vt : Value} {lf lt : List Int} {w0 w : World} (h : GQ c B t b n cf ct vf vt lf lt w0 w) : GQ c B t b n cf ct vt vf lt lf w0 w := by
  obtain ⟨h1, h2, h3, h4, h5, h6, h7, h8, h9, h10, h11⟩ := h
  exact ⟨h1, h2, h4, h3, fun k hk e => h5 k e hk, h6, h7, h8, h10, h9, h11⟩
theorem GQ.store2 {c B t b : Nat} {n : Int} {cf ct vf vt : Value} {lf lt : List Int} {w0 w : World} (h : GQ c B t b n cf ct vf vt lf lt w0 w) : GQ c B t b n cf vt vf vt lf lt w0 (w.setCell ⟨b, 2, none⟩ vt) := by
  obtain ⟨h1, ⟨x, y, z, h2⟩, h3, h4, h5, h6, h7, h8, h9, h10, h11, h12, h13, h14⟩ := h
  have hk : ∀ v l, Own w B 3 .i64 v l → (∀ k, v.ownBlock = some k → k ≠ b ∧ k ≠ t) → Own (w.setCell ⟨b, 2, none⟩ vt) B 3 .i64 v l := fun v l hv hn => hv.same fun g hg => heap_setCell_other w ⟨b, 2, none⟩ g vt (fun e => (hn g hg).1 e)
  refine ⟨h1.set 2 vt, ⟨x, y, z, h2.setOther (p := ⟨b, 2, none⟩) (by simpa using h13) vt⟩, hk _ _ h3 h9, hk _ _ h4 h10, h5, h6.setFar (p := ⟨b, 2, none⟩) (by show c < b; omega) vt, h7.setCell (p := ⟨b, 2, none⟩) h11 vt, ?_, h9, h10, h11, h12, h13, h14⟩
  have := ((Chg.refl (fun q => q = b) w).setCell (p := ⟨b, 2, none⟩) rfl vt).size
  omega
/-- one row has grown from the world u on (it is v' now, in the block g) -/
theorem GQ.grow1 {c B t b : Nat} {n : Int} {cf ct vf vt v' : Value} {lf lt l' : List Int} {w0 u w' : World} {g : Nat} (h : GQ c B t b n cf ct vf vt lf lt w0 u) (hg : u.grownBy w' vf.ownBlock) (ho : Own w' B 3 .i64 v' l')
    (hv : ∀ k, v'.ownBlock = some k → k = g) (hor : vf.ownBlock = some g ∨ u.heap.size ≤ g) : GQ c B t b n cf ct v' vt l' lt w0 w' := by
  obtain ⟨h1, ⟨x, y, z, h2⟩, h3, h4, h5, h6, h7, h8, h9, h10, h11, h12, h13, h14⟩ := h
  have hsz := hg.size
  have hcl := h6.lt
  have hbel : Below B u w' := Below.grown (Below.refl B u) hg h8 (fun k hk => (World.ownsRow.lt h3 k hk).1)
  refine ⟨?_, ⟨x, y, z, ?_⟩, ho, h4.same fun k hk => hg.block k (World.ownsRow.lt h4 k hk).2 (fun e => h5 k e.symm hk), ?_, h6.belowB hbel h14, h7.trans (TChg.of_b hbel), by omega, ?_, h10, h11, h12, h13, h14⟩
  · unfold Blk; rw [hg.block b h1.lt (fun e => (h9 b e.symm).1 rfl)]; exact h1
  · unfold Blk; rw [hg.block t h2.lt (fun e => (h9 t e.symm).2 rfl)]; exact h2
  · intro k hk e
    obtain rfl := hv k hk
    rcases hor with h | h
    · exact h5 k h e
    · have := (World.ownsRow.lt h4 k e).2; omega
  · intro k hk
    obtain rfl := hv k hk
    rcases hor with h | h
    · exact h9 k h
    · have := h1.lt; have := h2.lt; omega
theorem GQ.grow {c B t b : Nat} {n : Int} {cf ct vf vt v' : Value} {lf lt l' : List Int} {w0 u w' : World} (h : GQ c B t b n cf ct vf vt lf lt w0 u) (hg : u.grownBy w' vf.ownBlock) (ho : Own w' B 3 .i64 v' l')
    (hloc : v'.ownBlock = vf.ownBlock ∨ v'.ownBlock = some u.heap.size) : GQ c B t b n cf ct v' vt l' lt w0 w' := by
  cases hv : v'.ownBlock with
  | none => exact h.grow1 (g := u.heap.size) hg ho (fun k hk => by rw [hv] at hk; cases hk) (.inr (Nat.le_refl _))
  | some g =>
    refine h.grow1 (g := g) hg ho (fun k hk => by rw [hv] at hk; simpa using hk.symm) ?_
    rcases hloc with e | e
    · exact .inl (e.symm.trans hv)
    · right; rw [hv] at e; simp at e; omega
theorem GQ.alloc {c B t b : Nat} {n : Int} {cf ct vf vt : Value} {lf lt : List Int} {w0 w : World} (h : GQ c B t b n cf ct vf vt lf lt w0 w) (o : Obj) : GQ c B t b n cf ct vf vt lf lt w0 (w.alloc o) := by
  obtain ⟨h1, ⟨x, y, z, h2⟩, h3, h4, h5, h6, h7, h8, h9⟩ := h
  have hb := (Below.refl w.heap.size w).alloc (Nat.le_refl _) o
  exact ⟨h1.below hb, ⟨x, y, z, h2.below hb⟩, h3.alloc o, h4.alloc o, h5, h6.below hb, h7.trans (TChg.of_b (hb.mono h8)), by simp; omega, h9⟩
end Go.Proofs.YtndooeffjkofdaaDoor
