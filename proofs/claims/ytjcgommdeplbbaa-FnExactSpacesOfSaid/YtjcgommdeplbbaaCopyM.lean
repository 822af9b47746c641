/- l3Copy of the reference: a matrix whose cells the call owns. -/
import Derived.Test.YtjcgommdeplbbaaAppO
namespace Go.Proofs.Ytjcgommdeplbbaa
open Go.RowKit
set_option linter.unusedVariables false
set_option linter.unusedSimpArgs false

theorem own_chg1 {w w' : World} {B : Nat} {e : TypeId} {k : IntKind} {v : Value} {l : List Int} {c : Nat} (h : Own w B e k v l) (hc : Chg (fun q => q = c) w w') (hB : ∀ g, v.ownBlock = some g → g ≠ c) : Own w' B e k v l := by
  refine World.ownsRow.kept h (row := some c) ⟨hc.os, hc.tape, hc.output, hc.size, fun i hi hne => hc.block i hi (fun e => hne (by rw [e]))⟩ ?_
  cases hb : v.ownBlock with
  | none => exact .inl rfl
  | some g => exact .inr (fun e => hB g hb (by simpa using e))
theorem own_base {w : World} {B B' : Nat} {e : TypeId} {k : IntKind} {v : Value} {l : List Int} (h : Own w B e k v l) (hB : B' ≤ B) : Own w B' e k v l := by
  refine ⟨h.1, ?_⟩
  rcases h.2 with h2 | ⟨g, cap, cur, h3, h4, h5⟩
  · exact .inl h2
  · exact .inr ⟨g, cap, cur, h3, Nat.le_trans hB h4, h5⟩
def CopyOwn (r c : Int) (l : List Int) (w : World) (e : Ending) (w' : World) : Prop :=
  ∃ v, e = .returned (.agg #[.int .i64 r, .int .i64 c, v]) ∧ Own w' w.heap.size 3 .i64 v l ∧ Below w.heap.size w w'
theorem copy_in {w0 W w : World} {b : Nat} {v : Value} {l : List Int} (r c : Int) (x : Res3 W b 49) (hb0 : w0.heap.size ≤ b) (hW : Below w0.heap.size w0 W) (hb : Below W.heap.size W w) (hv : Own w W.heap.size 3 .i64 v l) :
    Blk (((w.setCell ⟨b, 0, none⟩ (.int .i64 r)).setCell ⟨b, 1, none⟩ (.int .i64 c)).setCell ⟨b, 2, none⟩ v) b #[.int .i64 r, .int .i64 c, v] 49 ∧
    CopyOwn r c l w0 (.returned (.agg #[.int .i64 r, .int .i64 c, v])) (((w.setCell ⟨b, 0, none⟩ (.int .i64 r)).setCell ⟨b, 1, none⟩ (.int .i64 c)).setCell ⟨b, 2, none⟩ v) := by
  have hlt := x.lt
  have hck : Chg (fun q => q = b) w (((w.setCell ⟨b, 0, none⟩ (.int .i64 r)).setCell ⟨b, 1, none⟩ (.int .i64 c)).setCell ⟨b, 2, none⟩ v) :=
    (((Chg.refl (fun q => q = b) w).setCell (p := ⟨b, 0, none⟩) rfl _).setCell (p := ⟨b, 1, none⟩) rfl _).setCell (p := ⟨b, 2, none⟩) rfl _
  exact ⟨(x.below hb).blk_set _ _ _, v, rfl, own_base (own_chg1 hv hck (fun g hg e => by have := (World.ownsRow.lt hv g hg).1; omega)) hW.size, set3_below (hW.trans (hb.mono hW.size)) hb0 _ _ _⟩
set_option maxRecDepth 100000 in
set_option maxHeartbeats 4000000 in
theorem s_l3Copy (r c : Int) (v : Value) (l : List Int) (w : World) (hv : Ints w v l) (hl : l.length ≤ 64) :
    Calls Try.prog 66 #[.agg #[.int .i64 r, .int .i64 c, v]] w (CopyOwn r c l w) := by
  obtain ⟨a3, c3, rfl, hl3, hm3⟩ := hv.shape
  obtain ⟨W, hW⟩ : ∃ W, W = (w.alloc (.cells #[.int .i64 r, .int .i64 c, .slice a3 l.length c3] 49)).alloc (.cells #[.int .i64 0, .int .i64 0, .slice none 0 0] 49) := ⟨_, rfl⟩
  have M := (((MB.start w).addI hv).alloc #[.int .i64 r, .int .i64 c, .slice a3 l.length c3] 49).alloc #[.int .i64 0, .int .i64 0, .slice none 0 0] 49
  simp only [World.size_alloc] at M
  have hsW : W.heap.size = w.heap.size + 1 + 1 := by rw [hW]; simp
  rw [← hW] at M
  have M9 := Lib.hid M
  have HsW := Lib.hid hsW
  have HW0 := Lib.hid hW
  have hWb : Below w.heap.size w W := by rw [hW]; exact ((Below.refl _ w).alloc (Nat.le_refl _) _).alloc (by simp) _
  have HWb := Lib.hid hWb
  have HS := Lib.hid (fun (w' : World) (hb : Below (w.heap.size + 1) W w') => (show (w'.cell? ⟨w.heap.size, 0, none⟩ = some (.int .i64 r) ∧ w'.cell? ⟨w.heap.size, 1, none⟩ = some (.int .i64 c) ∧ w'.cell? ⟨w.heap.size, 2, none⟩ = some (.slice a3 l.length c3)) from ⟨(M9.out.b1.belowB hb (by omega)).cell 0, (M9.out.b1.belowB hb (by omega)).cell 1, (M9.out.b1.belowB hb (by omega)).cell 2⟩))
  have hlt1 : w.heap.size + 1 ≤ W.heap.size := by omega
  have HX := Lib.hid (fun (w' : World) (hb : Below W.heap.size W w') (y0 y1 y2 : Value) => HS.out _ (set3_below (hb.mono hlt1) (Nat.le_refl _) y0 y1 y2))
  have HF := Lib.hid (fun (w' : World) (hb : Below W.heap.size W w') => HS.out _ (hb.mono hlt1))
  have RR : Hid (Res3 W (w.heap.size + 1) 49) := ⟨_, _, _, M9.out.b0⟩
  clear hv M hW hWb hsW hlt1
  go_enter Try.func66, Try.ntmps66
  go_upto_region 1 with fail
  rw [← HW0.out]
  go_region_held3 (fun w' => (w'.cell? ⟨w.heap.size, 0, none⟩ = some (.int .i64 r) ∧ w'.cell? ⟨w.heap.size, 1, none⟩ = some (.int .i64 c) ∧ w'.cell? ⟨w.heap.size, 2, none⟩ = some (.slice a3 l.length c3)))
    (first
      | with_reducible exact HS.out _ ((Below.refl _ _).drew)
      | with_reducible exact HF.out _ (held_allocd (A := True) ⟨trivial, (Below.refl _ W).drew⟩ _)
      | with_reducible exact HF.out _ hb9
      | exact HX.out _ hb9 _ _ _)
    (first
      | (refine step_app_own W _ (by rfl) (.tmp 7) (.tmp 9) (by rfl) _ _ [] l (by rfl) (by rfl) ?_ (Own.made W 3 .i64 (Nat.le_refl _)).drew (held_allocd (A := True) ⟨trivial, (Below.refl _ W).drew⟩ _) (by simp; omega) ?_; (exact M9.out.i0.below (held_allocd (A := True) ⟨trivial, (Below.refl _ W).drew⟩ _)); intro v9 w9 hown9 hb9; rw [List.nil_append] at hown9; have hq9 := (Ints.of_own hown9).1.shape; have hj := Lib.hid (copy_in r c RR.out (Nat.le_succ _) HWb.out hb9 hown9); obtain ⟨a9, c9, rfl, _, _⟩ := hq9; obtain ⟨x0, x1, x2, q0, q1, q2, f0, f1, f2⟩ := (RR.out.below hb9).open_; clear hown9))
  clear HS HF HX
  go_wp2
  exact bodyPost_ret (v := .agg #[.int .i64 r, .int .i64 c, .slice a9 l.length c9]) (by simp [results, Try.results66, go_sem, hj.out.1.cell 0, hj.out.1.cell 1, hj.out.1.cell 2]) rfl hj.out.2
end Go.Proofs.Ytjcgommdeplbbaa
