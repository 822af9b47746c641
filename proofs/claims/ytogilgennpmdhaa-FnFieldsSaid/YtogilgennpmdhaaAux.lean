/- The laws' own helpers on slices of integers: toIntS, eqIntS, markIntS, heldIntS, szIntS. -/
import Derived.Test.YtogilgennpmdhaaMem
import Derived.BigQuiet
import Derived.Deep.QuietTactic
namespace Go.Proofs.Ytogilgennpmdhaa
open Go.RowKit
set_option linter.unusedVariables false
set_option linter.unusedSimpArgs false

/-- a slice of integers that came in: it can be read -/
def Raw (w : World) (v : Value) (l : List Int) : Prop :=
  ∃ a cap, v = .slice a l.length cap ∧ l.length ≤ cap ∧ cap ≤ 9223372036854775807 ∧
    (l = [] ∨ ∃ b off, a = some ⟨b, off, none⟩ ∧ b < w.heap.size ∧ ∀ i, i < l.length → w.cell? ⟨b, off + i, none⟩ = some (.int .i64 (l.getD i 0)))
theorem Raw.shape {w : World} {v : Value} {l : List Int} (h : Raw w v l) : ∃ a cap, v = .slice a l.length cap ∧ l.length ≤ cap ∧ cap ≤ 9223372036854775807 := by
  obtain ⟨a, cap, rfl, h1, h2, _⟩ := h; exact ⟨a, cap, rfl, h1, h2⟩
theorem Raw.below {w w' : World} {v : Value} {l : List Int} (h : Raw w v l) (b : Below w.heap.size w w') : Raw w' v l := by
  obtain ⟨a, cap, rfl, h1, h2, h3 | ⟨g, off, rfl, hb, hc⟩⟩ := h
  · exact ⟨a, cap, rfl, h1, h2, .inl h3⟩
  · exact ⟨_, cap, rfl, h1, h2, .inr ⟨g, off, rfl, Nat.lt_of_lt_of_le hb b.size, fun i hi => by rw [b.cell (p := ⟨g, off + i, none⟩) hb]; exact hc i hi⟩⟩
theorem Raw.drew {w : World} {v : Value} {l : List Int} (h : Raw w v l) : Raw w.drew v l := h
theorem Raw.cell {w : World} {a : Option Addr} {n cap : Nat} {l : List Int} (h : Raw w (.slice a n cap) l) {i : Nat} (hi : i < l.length) :
    ∃ b off, a = some ⟨b, off, none⟩ ∧ b < w.heap.size ∧ w.cell? ⟨b, off + i, none⟩ = some (.int .i64 (l.getD i 0)) := by
  obtain ⟨a', cap', e, h1, h2, h3⟩ := h
  simp only [Value.slice.injEq] at e
  obtain ⟨rfl, rfl, rfl⟩ := e
  rcases h3 with rfl | ⟨g, off, rfl, hg, hc⟩
  · simp at hi
  · exact ⟨g, off, rfl, hg, hc i hi⟩

/-- a value of integers made by a call: it reads as l, its elements lie in new blocks -/
def IntsNew (l : List Int) (w : World) (e : Ending) (w' : World) : Prop := ∃ v, e = .returned v ∧ Ints w' v l ∧ FreshV w.heap.size v ∧ Below w.heap.size w w'

theorem elem_name (l : List Int) (k : Nat) : ∃ x, l.getD k 0 = x := ⟨_, rfl⟩



/-- what came in, as the form's reading of a slice of integers gives it -/
theorem Raw.mk {W : World} {x : Addr} {l c : Nat} {zs : List Int} (hl : l ≤ c) (hm : c ≤ maxLen) (hz : zs.length = c)
    (hcell : ∀ i, i < zs.length → W.cell? (x.add i) = some (.int .i64 (zs.getD i 0))) : Raw W (.slice (some x) l c) (zs.take l) := by
  have hlen : (zs.take l).length = l := by rw [List.length_take]; omega
  refine ⟨some x, c, by rw [hlen], by omega, by simpa [maxLen] using hm, ?_⟩
  by_cases h0 : l = 0
  · left; simp [h0]
  · right
    obtain ⟨b, off, spot⟩ := x
    have hc0 := hcell 0 (by omega)
    obtain rfl : spot = none := by simpa [Addr.add] using World.cell?_spot hc0
    have hadd : ∀ i, (⟨b, off, none⟩ : Addr).add i = ⟨b, off + i, none⟩ := fun i => by unfold Addr.add; split <;> simp_all
    rw [hadd] at hc0
    refine ⟨b, off, rfl, World.block_lt_of_cell? W _ hc0, fun i hi => ?_⟩
    have h := hcell i (by omega)
    rw [hadd] at h
    rw [h]
    congr 2
    simp [List.getD, show i < l by omega]
theorem Raw.nil (W : World) : Raw W (.slice none 0 0) [] := ⟨none, 0, rfl, Nat.le_refl _, by omega, .inl rfl⟩
/-- what int64 holds -/
def Bd (l : List Int) : Prop := ∀ x ∈ l, -9223372036854775808 ≤ x ∧ x ≤ 9223372036854775807
theorem wf_i64 {n : Int} (h : (Lit.int .i64 n).wf = true) : -9223372036854775808 ≤ n ∧ n ≤ 9223372036854775807 := by
  simpa [Lit.wf, IntKind.min, IntKind.max, IntKind.bits, IntKind.signed] using h
theorem Bd.of_wf {zs : List Int} {l : Nat} (h : ∀ n ∈ zs, (Lit.int .i64 n).wf = true) : Bd (zs.take l) := fun x hx => wf_i64 (h x (List.mem_of_mem_take hx))
theorem Bd.nil : Bd [] := fun x hx => by simp at hx



/-- what is left of a size -/
def szI (left : Int) (l : List Int) : Int := if left < l.length then -1 else left - l.length

end Go.Proofs.Ytogilgennpmdhaa
