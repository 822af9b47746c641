/- A representation that came in: what a reading of it says of the memory. -/
import Derived.Test.YtmcjgaffecimlaaLawsRep
import Derived.WalkKit
import Derived.ProofKit
import Derived.OpenShut
import Derived.Lib.SmallJoins
import Derived.Deep.SlicePairs
namespace Go.Proofs.Ytmcjgaffecimlaa
open Go.ChangeShapes Go.WideShapes Go.ChangeAt Go.RowKit
set_option linter.unusedVariables false
set_option linter.unusedSimpArgs false

theorem cInt : Try.prog.cellsOf 3 = 1 := by kernel_rfl
theorem cInts : Try.prog.cellsOf 22 = 1 := by kernel_rfl
theorem cQui : Try.prog.cellsOf 44 = 3 := by kernel_rfl
theorem cMat : Try.prog.cellsOf 24 = 3 := by kernel_rfl
theorem cMats : Try.prog.cellsOf 45 = 1 := by kernel_rfl
theorem cRep : Try.prog.cellsOf 47 = 6 := by kernel_rfl
section
variable {H : Type} {enc : TypeId × Value → H} {W : World} {base : Nat} {held : Bool}
theorem four_of {α : Type} {xs : List α} (h : xs.length = 4) : ∃ a b c d, xs = [a, b, c, d] := by
  match xs, h with
  | [a, b, c, d], _ => exact ⟨a, b, c, d, rfl⟩
theorem three_of {α : Type} {xs : List α} (h : xs.length = 3) : ∃ a b c, xs = [a, b, c] := by
  match xs, h with
  | [a, b, c], _ => exact ⟨a, b, c, rfl⟩
theorem six_of {α : Type} {xs : List α} (h : xs.length = 6) : ∃ a b c d e f, xs = [a, b, c, d, e, f] := by
  match xs, h with
  | [a, b, c, d, e, f], _ => exact ⟨a, b, c, d, e, f, rfl⟩
theorem rep_fields {fuel : Nat} {v0 v1 v2 v3 v4 v5 : Value} {x : DataW H × List MemPlace} (h : DataW.trod enc Try.prog W base (fun _ => true) held fuel 47 [v0, v1, v2, v3, v4, v5] = some x) :
    ∃ n y0 y1 y2 y3, DataW.trod enc Try.prog W base (fun _ => true) held n 3 [v0] = some y0 ∧ DataW.trod enc Try.prog W base (fun _ => true) held n 44 [v1, v2, v3] = some y1 ∧
      DataW.trod enc Try.prog W base (fun _ => true) held n 22 [v4] = some y2 ∧ DataW.trod enc Try.prog W base (fun _ => true) held n 45 [v5] = some y3 := by
  obtain ⟨xs, n, _, _, _, hl, hf⟩ := DataW.trod_struct Try.underlying47 h
  obtain ⟨y0, y1, y2, y3, rfl⟩ := four_of hl
  have g0 := hf 0 _ rfl
  have g1 := hf 1 _ rfl
  have g2 := hf 2 _ rfl
  have g3 := hf 3 _ rfl
  simp [cInt, cInts, cQui, cMats] at g0 g1 g2 g3
  exact ⟨n, y0, y1, y2, y3, g0, g1, g2, g3⟩
theorem quiv_fields {fuel : Nat} {v1 v2 v3 : Value} {x : DataW H × List MemPlace} (h : DataW.trod enc Try.prog W base (fun _ => true) held fuel 44 [v1, v2, v3] = some x) :
    ∃ n y0 y1 y2, DataW.trod enc Try.prog W base (fun _ => true) held n 3 [v1] = some y0 ∧ DataW.trod enc Try.prog W base (fun _ => true) held n 22 [v2] = some y1 ∧ DataW.trod enc Try.prog W base (fun _ => true) held n 22 [v3] = some y2 := by
  obtain ⟨xs, n, _, _, _, hl, hf⟩ := DataW.trod_struct Try.underlying44 h
  obtain ⟨y0, y1, y2, rfl⟩ := three_of hl
  have g0 := hf 0 _ rfl
  have g1 := hf 1 _ rfl
  have g2 := hf 2 _ rfl
  simp [cInt, cInts] at g0 g1 g2
  exact ⟨n, y0, y1, y2, g0, g1, g2⟩
theorem mat_fields {fuel : Nat} {v1 v2 v3 : Value} {x : DataW H × List MemPlace} (h : DataW.trod enc Try.prog W base (fun _ => true) held fuel 24 [v1, v2, v3] = some x) :
    ∃ n y0 y1 y2, DataW.trod enc Try.prog W base (fun _ => true) held n 3 [v1] = some y0 ∧ DataW.trod enc Try.prog W base (fun _ => true) held n 3 [v2] = some y1 ∧ DataW.trod enc Try.prog W base (fun _ => true) held n 22 [v3] = some y2 := by
  obtain ⟨xs, n, _, _, _, hl, hf⟩ := DataW.trod_struct Try.underlying24 h
  obtain ⟨y0, y1, y2, rfl⟩ := three_of hl
  have g0 := hf 0 _ rfl
  have g1 := hf 1 _ rfl
  have g2 := hf 2 _ rfl
  simp [cInt, cInts] at g0 g1 g2
  exact ⟨n, y0, y1, y2, g0, g1, g2⟩
theorem int_val {fuel : Nat} {v : Value} {x : DataW H × List MemPlace} (h : DataW.trod enc Try.prog W base (fun _ => true) held fuel 3 [v] = some x) : ∃ a, v = .int .i64 a := by
  obtain ⟨a, e, _, _⟩ := DataW.trod_int Try.underlying3 h
  simp at e
  exact ⟨a, e⟩
theorem ints_raw {fuel : Nat} {v : Value} {x : DataW H × List MemPlace} (h : DataW.trod enc Try.prog W base (fun _ => true) held fuel 22 [v] = some x) : ∃ zs, Raw W v zs := by
  rcases open_ints Try.underlying22 Try.underlying3 (by kernel_rfl) h with ⟨hcs, _⟩ | ⟨x, l, c, zs, hcs, _, hl, hm, hz, _, hcell, hwz⟩
  · simp at hcs; subst hcs
    exact ⟨[], Raw.nil W⟩
  · simp at hcs; subst hcs
    exact ⟨_, Raw.mk hl hm (by simpa using hz) hcell⟩
theorem mats_raw {fuel : Nat} {v : Value} {x : DataW H × List MemPlace} (h : DataW.trod enc Try.prog W base (fun _ => true) held fuel 45 [v] = some x) : ∃ L, RawM W v L := by
  rcases Go.Deep.open_slice Try.underlying45 h with ⟨hcs, _⟩ | ⟨a, len, cap, m, n, D, Pl, hcs, hb, hl, hm, hmm, _, hx⟩
  · simp at hcs; subst hcs
    exact ⟨[], RawM.nil W⟩
  · simp at hcs; subst hcs
    simp only [if_true] at hmm
    have hmm' := hmm.symm
    subst hmm'
    have each : ∀ i, i < cap → ∃ q : Int × Int × List Int × Value, W.cell? (a.add (i * 3)) = some (.int .i64 q.1) ∧ W.cell? (a.add (i * 3 + 1)) = some (.int .i64 q.2.1) ∧ W.cell? (a.add (i * 3 + 2)) = some q.2.2.2 ∧ Raw W q.2.2.2 q.2.2.1 := by
      intro i hi
      obtain ⟨cs', h1, h2⟩ := hx i hi
      rw [cMat] at h1
      obtain ⟨_, hlen, hcell⟩ := World.cells?_some h1
      obtain ⟨v1, v2, v3, rfl⟩ := three_of hlen
      obtain ⟨k, y0, y1, y2, g0, g1, g2⟩ := mat_fields h2
      obtain ⟨r, rfl⟩ := int_val g0
      obtain ⟨c, rfl⟩ := int_val g1
      obtain ⟨zs, hz⟩ := ints_raw g2
      have e0 := hcell 0 (by omega)
      have e1 := hcell 1 (by omega)
      have e2 := hcell 2 (by omega)
      rw [Go.Deep.add_add] at e0 e1 e2
      exact ⟨(r, c, zs, v3), by simpa using e0, by simpa using e1, by simpa using e2, hz⟩
    obtain ⟨q, hq⟩ := Go.Deep.choose_lt each
    refine ⟨(List.range len).map fun i => ((q i).1, (q i).2.1, (q i).2.2.1), ?_⟩
    have hll : ((List.range len).map fun i => ((q i).1, (q i).2.1, (q i).2.2.1)).length = len := by simp
    refine ⟨some a, cap, by rw [hll], by omega, by simpa [maxLen] using hm, ?_⟩
    by_cases h0 : len = 0
    · left; simp [h0]
    · right
      obtain ⟨b, off, spot⟩ := a
      have hc0 := (hq 0 (by omega)).1
      obtain rfl : spot = none := by simpa [Addr.add] using World.cell?_spot hc0
      have hadd : ∀ i, (⟨b, off, none⟩ : Addr).add i = ⟨b, off + i, none⟩ := fun i => by unfold Addr.add; split <;> simp_all
      rw [hadd] at hc0
      refine ⟨b, off, rfl, World.block_lt_of_cell? W _ hc0, fun i hi => ?_⟩
      rw [hll] at hi
      obtain ⟨h1, h2, h3, h4⟩ := hq i (by omega)
      rw [hadd] at h1 h2 h3
      have hg : mtG ((List.range len).map fun i => ((q i).1, (q i).2.1, (q i).2.2.1)) i = ((q i).1, (q i).2.1, (q i).2.2.1) := by simp [mtG, List.getD, hi]
      rw [hg]
      exact ⟨_, h1, by rw [Nat.add_assoc]; exact h2, by rw [Nat.add_assoc]; exact h3, h4⟩
/-- the whole argument -/
theorem open_rep {r : Reach} {b0 : Nat} {v : Value} {d : DataW H} {p : List MemPlace} (hv : Value.okWide Try.prog W r b0 47 v) (h : DataW.Trod enc Try.prog W base (fun _ => true) held 47 v d p) :
    ∃ (P n : Int) (vf vt vd vm : Value) (lf lt ld : List Int) (L : List Mt), v = .agg #[.int .i64 P, .int .i64 n, vf, vt, vd, vm] ∧ Raw W vf lf ∧ Raw W vt lt ∧ Raw W vd ld ∧ RawM W vm L := by
  obtain ⟨cs, rfl, hsz⟩ := okWide_struct Try.underlying47 hv
  rw [cRep] at hsz
  obtain ⟨fuel, hf⟩ := h
  obtain ⟨l⟩ := cs
  obtain ⟨v0, v1, v2, v3, v4, v5, rfl⟩ := six_of (show l.length = 6 by simpa using hsz)
  obtain ⟨n, y0, y1, y2, y3, g0, g1, g2, g3⟩ := rep_fields hf
  obtain ⟨P, rfl⟩ := int_val g0
  obtain ⟨n2, z0, z1, z2, k0, k1, k2⟩ := quiv_fields g1
  obtain ⟨nn, rfl⟩ := int_val k0
  obtain ⟨lf, hlf⟩ := ints_raw k1
  obtain ⟨lt, hlt⟩ := ints_raw k2
  obtain ⟨ld, hld⟩ := ints_raw g2
  obtain ⟨L, hL⟩ := mats_raw g3
  exact ⟨P, nn, v2, v3, v4, v5, lf, lt, ld, L, rfl, hlf, hlt, hld, hL⟩
end
end Go.Proofs.Ytmcjgaffecimlaa
