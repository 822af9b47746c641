/- l4Reduce of the reference: what its loops keep. -/
import Derived.Test.YtjcgommdeplbbaaCopyM
import Derived.Test.YtjcgommdeplbbaaPower
namespace Go.Proofs.Ytjcgommdeplbbaa
open Go.RowKit
set_option linter.unusedVariables false
set_option linter.unusedSimpArgs false

theorem own_belowB {w w' : World} {B B' : Nat} {e : TypeId} {k : IntKind} {v : Value} {l : List Int} (h : Own w B e k v l) (b : Below B' w w') (hB : ∀ g, v.ownBlock = some g → g < B') : Own w' B e k v l := by
  refine ⟨h.1, ?_⟩
  rcases h.2 with h2 | ⟨g, cap, cur, rfl, h4, h5, h6⟩
  · exact .inl h2
  · refine .inr ⟨g, cap, cur, rfl, h4, ?_, h6⟩
    have hg : g < w.heap.size := World.ownsRow.lt h g rfl |>.2
    rw [b.block g (hB g rfl)]
    exact h5
/-- what stands in all loops of the reduction: the matrix's struct, the result's block, the cells, the row of leading ones -/
def RInv (w0 : World) (b6 t4 BL : Nat) (R C : Int) (cv lv : Value) (M lead : List Int) (w : World) : Prop :=
  Blk w b6 #[.int .i64 R, .int .i64 C, cv] 49 ∧ Res3 w t4 49 ∧ Own w (w0.heap.size + 2) 3 .i64 cv M ∧ Own w BL 3 .i64 lv lead ∧ Below w0.heap.size w0 w ∧ BL ≤ w.heap.size
theorem RInv.drewN {w0 w : World} {b6 t4 BL : Nat} {R C : Int} {cv lv : Value} {M lead : List Int} (h : RInv w0 b6 t4 BL R C cv lv M lead w) (n : Nat) : RInv w0 b6 t4 BL R C cv lv M lead (w.drewN n) := by
  obtain ⟨h1, h2, h3, h4, h5, h6⟩ := h
  exact ⟨h1, h2, h3.drewN n, h4.drewN n, below_drewN h5 n, h6⟩
theorem RInv.store {w0 w : World} {b6 t4 BL : Nat} {R C : Int} {g n cap : Nat} {lv : Value} {M lead : List Int} (h : RInv w0 b6 t4 BL R C (.slice (some ⟨g, 0, none⟩) n cap) lv M lead w) (h6 : g ≠ b6) (h4 : g ≠ t4) (hL : g < BL) (i : Nat) (x : Int) :
    RInv w0 b6 t4 BL R C (.slice (some ⟨g, 0, none⟩) n cap) lv (M.set i x) lead (w.setCell ⟨g, i, none⟩ (.int .i64 x)) := by
  obtain ⟨h1, ⟨y0, y1, y2, h2⟩, h3, h5, hb, hs⟩ := h
  have hck : Chg (fun q => q = g) w (w.setCell ⟨g, i, none⟩ (.int .i64 x)) := (Chg.refl (fun q => q = g) w).setCell (p := ⟨g, i, none⟩) rfl _
  have hg0 : w0.heap.size + 2 ≤ g := (World.ownsRow.lt h3 g rfl).1
  exact ⟨h1.setOther (p := ⟨g, i, none⟩) (fun e => h6 e.symm) _, ⟨y0, y1, y2, h2.setOther (p := ⟨g, i, none⟩) (fun e => h4 e.symm) _⟩, h3.store i x,
    own_chg1 h5 hck (fun q hq e => by have := (World.ownsRow.lt h5 q hq).1; omega), hb.setCell (p := ⟨g, i, none⟩) (show w0.heap.size ≤ g by omega) _, by have := hck.size; omega⟩
theorem RInv.app {w0 w w' : World} {b6 t4 BL : Nat} {R C : Int} {cv lv lv' : Value} {M lead lead' : List Int} (h : RInv w0 b6 t4 BL R C cv lv M lead w) (h6 : b6 < BL) (h4 : t4 < BL) (hL : ∀ g, cv.ownBlock = some g → g < BL) (h0 : w0.heap.size ≤ BL)
    (ho : Own w' BL 3 .i64 lv' lead') (hb : Below BL w w') : RInv w0 b6 t4 BL R C cv lv' M lead' w' := by
  obtain ⟨h1, ⟨y0, y1, y2, h2⟩, h3, _, hbb, hs⟩ := h
  exact ⟨h1.belowB hb h6, ⟨y0, y1, y2, h2.belowB hb h4⟩, own_belowB h3 hb hL, ho, hbb.trans (hb.mono h0), Nat.le_trans hs hb.size⟩
/-- the cells, one by one -/
theorem RInv.cells {w0 w : World} {b6 t4 BL : Nat} {R C : Int} {g n cap : Nat} {lv : Value} {M lead : List Int} (h : RInv w0 b6 t4 BL R C (.slice (some ⟨g, 0, none⟩) n cap) lv M lead w) {i : Nat} (hi : i < M.length) :
    w.cell? ⟨g, i, none⟩ = some (.int .i64 (M.getD i 0)) ∧ w.frozen? ⟨g, i, none⟩ = false := by
  obtain ⟨_, _, h3, _⟩ := h
  have hn := (Own.at h3).1
  subst hn
  obtain ⟨g', hg, _, _, hc, hf⟩ := (Own.at h3).2.2 (by omega)
  obtain rfl : g = g' := by simpa using hg
  exact ⟨hc i hi, hf i⟩
end Go.Proofs.Ytjcgommdeplbbaa
