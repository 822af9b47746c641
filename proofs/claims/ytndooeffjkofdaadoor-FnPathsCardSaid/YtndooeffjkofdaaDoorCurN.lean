/- What the reference draws for numbers and texts: any number of an int, a text of at most so many bytes. -/
import Derived.Test.YtndooeffjkofdaaDoorCur
import Derived.Test.YtndooeffjkofdaaDoorMg1
namespace Go.Proofs.YtndooeffjkofdaaDoor
open Go.RowKit
set_option linter.unusedVariables false
set_option linter.unusedSimpArgs false

def AnyI (r : Int) : Prop := -9223372036854775808 ≤ r ∧ r ≤ 9223372036854775807
theorem Own.chg {w w' : World} {B : Nat} {e : TypeId} {k : IntKind} {v : Value} {l : List Int} {c : Nat} (h : Own w B e k v l) (hc : CChg c w w') (hB : c < B) : Own w' B e k v l := by
  refine World.ownsRow.kept h (row := some c) ⟨hc.os, hc.tape, hc.output, hc.size, fun i hi hne => hc.block i hi (fun e => hne (by rw [e]))⟩ ?_
  cases hb : v.ownBlock with
  | none => exact .inl rfl
  | some g => exact .inr (fun e => by have := h.lt g hb; simp at e; omega)

/-- blocks other than c and those from B on stand -/
def TChg (c B : Nat) (w w' : World) : Prop := Chg (fun k => k = c ∨ B ≤ k) w w'
theorem TChg.refl (c B : Nat) (w : World) : TChg c B w w := Chg.refl _ w
theorem TChg.trans {c B : Nat} {a b d : World} (h : TChg c B a b) (k : TChg c B b d) : TChg c B a d := Chg.trans h k
theorem TChg.of_c {c B : Nat} {a b : World} (h : CChg c a b) : TChg c B a b := ⟨h.1, h.2, h.3, h.4, fun k hk hx => h.5 k hk (fun e => hx (.inl e))⟩
theorem TChg.of_b {c B : Nat} {a b : World} (h : Below B a b) : TChg c B a b := ⟨h.os, h.tape, h.output, h.size, fun k hk hx => h.block k (by
  rcases Nat.lt_or_ge k B with h | h
  · exact h
  · exact absurd (.inr h) hx)⟩
theorem TChg.cchg {c B : Nat} {a b : World} (h : TChg c B a b) (hB : a.heap.size ≤ B) : CChg c a b := Chg.mono h (fun k hk hx => by rcases hx with h | h; exact h; omega)
theorem TChg.setCell {c B : Nat} {a b : World} (h : TChg c B a b) {p : Addr} (hp : B ≤ p.block) (u : Value) : TChg c B a (b.setCell p u) := Chg.setCell h (.inr hp) u
theorem Cur.setFar {w : World} {c : Nat} (h : Cur w c) {p : Addr} (hp : c < p.block) (u : Value) : Cur (w.setCell p u) c := h.belowB ((Below.refl p.block w).setCell (Nat.le_refl _) u) hp
theorem pick_lit (c : Nat) (L : List Int) (hL : 0 < L.length) (hl : L.length ≤ 1000) (w : World) (hcur : Cur w c) :
    Calls Tryd.prog 53 #[.pointer (some ⟨c, 0, none⟩), .slice (some ⟨w.heap.size, 0, none⟩) L.length L.length] (w.alloc (.cells (L.map (Value.int .i64)).toArray 3)) fun e w' => ∃ r : Int, r ∈ L ∧ e = .returned (.int .i64 r) ∧ Cur w' c ∧ CChg c w w' := by
  obtain ⟨hI, hF⟩ := Ints.of_own (B := w.heap.size) (l := L) (w := w.alloc (.cells (L.map (Value.int .i64)).toArray 3)) (v := .slice (some ⟨w.heap.size, 0, none⟩) L.length L.length) (by
    have h := World.ownsRow_lit (size := 1) (e := 3) (base := w.heap.size) w (L.map (Value.int .i64)).toArray L.length (Nat.le_refl _) (by unfold maxLen; omega) (by simp)
    unfold Own
    simpa using h)
  have hal := (Below.refl w.heap.size w).alloc (Nat.le_refl _) (.cells (L.map (Value.int .i64)).toArray 3)
  refine (s_l1PickInt c _ L _ (hcur.below hal) hI (fun q hq => by have := hF q hq; have := hcur.lt; omega) hL).mono ?_
  rintro e w' ⟨r, hr, he, hc, hg⟩
  exact ⟨r, hr, he, hc, (CChg.of_below hal).trans hg⟩


end Go.Proofs.YtndooeffjkofdaaDoor
