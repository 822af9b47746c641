/- Stores into a slice of paths: one path set; the tail cleared; a shorter slice of the same row. -/
import Derived.Test.YtndooeffjkofdaaDoorBetC
import Derived.Lib.SliceRun
import Derived.Deep.Upon
namespace Go.Proofs.YtndooeffjkofdaaDoor
open Go.RowKit
set_option linter.unusedVariables false
set_option linter.unusedSimpArgs false

theorem flatP_get {us : List Value} {L : List Pt} (h : us.length = L.length) : ∀ i, (flatP us L)[i * 2]? = (L[i]?.map fun p => Value.int .i64 p.1) ∧ (flatP us L)[i * 2 + 1]? = us[i]? := by
  induction us generalizing L with
  | nil => cases L with
    | nil => intro i; simp [flatP]
    | cons p L => simp at h
  | cons u us ih => cases L with
    | nil => simp at h
    | cons p L =>
      intro i
      cases i with
      | zero => simp [flatP]
      | succ i =>
        have h2 := ih (L := L) (by simpa using h) i
        rw [show (i + 1) * 2 = i * 2 + 1 + 1 by omega]
        simp only [flatP, List.getElem?_cons_succ]
        exact h2
theorem flatP_set {us : List Value} {L : List Pt} (h : us.length = L.length) {i : Nat} (hi : i < L.length) (st : Int) (ar : List Int) (u : Value) : flatP (us.set i u) (L.set i (st, ar)) = ((flatP us L).set (i * 2) (.int .i64 st)).set (i * 2 + 1) u := by
  induction us generalizing L i with
  | nil => cases L with
    | nil => simp at hi
    | cons p L => simp at h
  | cons v us ih => cases L with
    | nil => simp at h
    | cons p L =>
      cases i with
      | zero => simp [flatP]
      | succ i =>
        rw [show (i + 1) * 2 = i * 2 + 1 + 1 by omega]
        simp only [List.set_cons_succ, flatP]
        rw [ih (L := L) (by simpa using h) (by simpa using hi)]
theorem arP_set {B : Nat} {w : World} {st : Int} {ar : List Int} {u : Value} (hu : Ints w u ar) (hf : FreshV B u) : ∀ {us : List Value} {L : List Pt}, arP B w us L → ∀ i, arP B w (us.set i u) (L.set i (st, ar))
  | [], [], _, i => by simp [arP]
  | _ :: _, _ :: _, h, 0 => ⟨hu, hf, h.2.2⟩
  | _ :: _, _ :: _, h, i + 1 => ⟨h.1, h.2.1, arP_set hu hf h.2.2 i⟩
  | [], _ :: _, h, _ => h.elim
  | _ :: _, [], h, _ => h.elim
theorem arP_take {B : Nat} {w : World} : ∀ {us : List Value} {L : List Pt}, arP B w us L → ∀ i, arP B w (us.take i) (L.take i)
  | _, _, _, 0 => by simp [arP]
  | [], [], _, i + 1 => by simp [arP]
  | _ :: _, _ :: _, h, i + 1 => ⟨h.1, h.2.1, arP_take h.2.2 i⟩
  | [], _ :: _, h, _ + 1 => h.elim
  | _ :: _, [], h, _ + 1 => h.elim
theorem flatP_take : ∀ {us : List Value} {L : List Pt}, us.length = L.length → ∀ i, flatP (us.take i) (L.take i) = (flatP us L).take (i * 2)
  | _, _, _, 0 => by simp [flatP]
  | [], [], _, i + 1 => by simp [flatP]
  | u :: us, p :: L, h, i + 1 => by
    have h2 := flatP_take (us := us) (L := L) (by simpa using h) i
    rw [show (i + 1) * 2 = i * 2 + 1 + 1 by omega]
    simp [flatP, h2]
  | [], _ :: _, h, _ + 1 => by simp at h
  | _ :: _, [], h, _ + 1 => by simp at h
/-- the block of a slice of paths, whole -/
theorem OwnP.block {w : World} {B : Nat} {a : Option Addr} {n c : Nat} {L : List Pt} (h : OwnP w B (.slice a n c) L) (hn : 0 < L.length) :
    ∃ g us cur, a = some ⟨g, 0, none⟩ ∧ B ≤ g ∧ n = L.length ∧ w.heap[g]? = some (.cells cur 28 (0, 0)) ∧ L.length ≤ c ∧ c ≤ maxLen ∧ cur.size = c * 2 ∧ cur.toList.take (L.length * 2) = flatP us L ∧ arP B w us L := by
  obtain ⟨us, ⟨hl, h2⟩, hr⟩ := h
  rcases h2 with ⟨_, h0⟩ | ⟨g, cap, cur, e, hb, hg, hnc, hcm, hcs, htake⟩
  · omega
  · simp only [Value.slice.injEq] at e
    obtain ⟨rfl, rfl, rfl⟩ := e
    exact ⟨g, us, cur, rfl, hb, rfl, hg, hnc, hcm, hcs, htake, hr⟩
/-- the integers of a path lie in no row of paths -/
theorem far_row {w : World} {u : Value} {l : List Int} {g : Nat} {cur : Array Value} (h : Ints w u l) (hg : w.heap[g]? = some (.cells cur 28 (0, 0))) : ∀ k, blk u = some k → k ≠ g := by
  intro k hk e
  obtain ⟨a, cap, rfl, _, _, rfl | ⟨g2, off, cur2, rfl, hg2, _, _⟩⟩ := h
  · cases a <;> simp [blk] at hk
  · have hgk : g2 = k := by
      cases l with
      | nil => simp [blk] at hk
      | cons y l => simpa [blk] using hk
    rw [hgk, e, hg] at hg2
    simp at hg2
/-- one path of the row is set -/
theorem OwnP.setAt {w : World} {B : Nat} {g n c : Nat} {L : List Pt} (h : OwnP w B (.slice (some ⟨g, 0, none⟩) n c) L) {i : Nat} (hi : i < L.length) {st : Int} {u : Value} {ar : List Int} (hu : Ints w u ar) (hf : FreshV B u) :
    OwnP ((w.setCell ⟨g, i * 2, none⟩ (.int .i64 st)).setCell ⟨g, i * 2 + 1, none⟩ u) B (.slice (some ⟨g, 0, none⟩) n c) (L.set i (st, ar)) := by
  obtain ⟨g', us, cur, e, hb, hn, hg, hlc, hcm, hcs, htake, hr⟩ := h.block (by omega)
  simp only [Option.some.injEq, Addr.mk.injEq, and_true] at e
  subst e
  have hus := hr.len
  have hg1 := heap_setCell_same w g (i * 2) cur _ (.int .i64 st) hg
  have hg2 := heap_setCell_same _ g (i * 2 + 1) _ _ u hg1
  have hkeep : ∀ v l, Ints w v l → FreshV B v → Ints ((w.setCell ⟨g, i * 2, none⟩ (.int .i64 st)).setCell ⟨g, i * 2 + 1, none⟩ u) v l := fun v l hv _ =>
    hv.keep fun k hk => by
      have hkg := far_row hv hg k hk
      rw [heap_setCell_other _ ⟨g, i * 2 + 1, none⟩ _ _ (by simpa using hkg), heap_setCell_other _ ⟨g, i * 2, none⟩ _ _ (by simpa using hkg)]
  refine ⟨us.set i u, ⟨?_, .inr ⟨g, c, _, ?_, hb, hg2, ?_, hcm, ?_, ?_⟩⟩, arP_set (hkeep _ _ hu hf) hf (hr.keep hkeep) i⟩
  · rw [flatP_len (by simp [hus])]
  · simp [hn]
  · simpa using hlc
  · simpa using hcs
  · rw [flatP_set hus hi, ← htake]
    simp only [List.length_set, Array.toList_setIfInBounds]
    rw [List.take_set, List.take_set]
/-- a shorter slice of the row, whatever stands behind it -/
theorem OwnP.shrink {w w' : World} {B : Nat} {g n c : Nat} {L : List Pt} (h : OwnP w B (.slice (some ⟨g, 0, none⟩) n c) L) (hn : 0 < L.length) {i : Nat} (hi : i ≤ L.length)
    (hg' : ∀ cur, w.heap[g]? = some (.cells cur 28 (0, 0)) → ∃ cur', w'.heap[g]? = some (.cells cur' 28 (0, 0)) ∧ cur'.size = cur.size ∧ ∀ j, j < i * 2 → cur'[j]? = cur[j]?)
    (ho : ∀ k, k < w.heap.size → k ≠ g → w'.heap[k]? = w.heap[k]?) :
    OwnP w' B (.slice (some ⟨g, 0, none⟩) i c) (L.take i) := by
  obtain ⟨g', us, cur, e, hb, hn, hg, hlc, hcm, hcs, htake, hr⟩ := h.block hn
  simp only [Option.some.injEq, Addr.mk.injEq, and_true] at e
  subst e
  have hus := hr.len
  obtain ⟨cur', h1, h2, h3⟩ := hg' cur hg
  have hkeep : ∀ v l, Ints w v l → FreshV B v → Ints w' v l := fun v l hv _ => hv.keep fun k hk => ho k (hv.lt k hk) (far_row hv hg k hk)
  have hlt : (L.take i).length = i := by simp; omega
  refine ⟨us.take i, ⟨?_, .inr ⟨g, c, cur', ?_, hb, h1, ?_, hcm, by rw [h2, hcs], ?_⟩⟩, arP_take (hr.keep hkeep) i⟩
  · rw [flatP_len (by simp [hus])]
  · rw [hlt]
  · rw [hlt]; omega
  · rw [hlt, flatP_take hus, ← htake, List.take_take, Nat.min_eq_left (by omega)]
    apply List.ext_getElem?
    intro j
    rw [List.getElem?_take, List.getElem?_take]
    by_cases hj : j < i * 2
    · rw [if_pos hj, if_pos hj, Array.getElem?_toList, Array.getElem?_toList]; exact h3 j hj
    · rw [if_neg hj, if_neg hj]
theorem setCells_row {T : TypeId} {g : Nat} : ∀ (vs : List Value) (o : Nat) (w : World) (cur : Array Value), w.heap[g]? = some (.cells cur T (0, 0)) → ∃ cur', (w.setCells g o vs).heap[g]? = some (.cells cur' T (0, 0)) ∧ cur'.size = cur.size ∧ ∀ j, j < o → cur'[j]? = cur[j]?
  | [], _, _, cur, h => ⟨cur, h, rfl, fun _ _ => rfl⟩
  | v :: vs, o, w, cur, h => by
    obtain ⟨cur', h1, h2, h3⟩ := setCells_row vs (o + 1) _ _ (heap_setCell_same w g o cur T v h)
    refine ⟨cur', h1, by simpa using h2, fun j hj => ?_⟩
    rw [h3 j (by omega), Array.getElem?_setIfInBounds, if_neg (by omega)]
theorem zero_path (w : World) : (zeroValue 28).run Tryd.prog w = .ok (.agg #[.int .i64 0, .slice none 0 0]) w := by kernel_rfl
/-- the tail of the row is cleared -/
theorem run_clear_pts (w : World) {B g n c i m : Nat} {L : List Pt} (h : OwnP w B (.slice (some ⟨g, 0, none⟩) n c) L) (hi : i + m = L.length) (hm : 0 < m) :
    ∃ zs : List Value, ∀ (ty : TypeId) (c2 : Nat), (Builtin.clear_ #[36] ty #[.slice (some ⟨g, i * 2, none⟩) m c2]).run Tryd.prog w = .ok (.tuple #[]) (w.setCells g (i * 2) zs) := by
  obtain ⟨g', us, cur, e, hb, hn, hg, hlc, hcm, hcs, htake, hr⟩ := h.block (by omega)
  simp only [Option.some.injEq, Addr.mk.injEq, and_true] at e
  subst e
  obtain ⟨m, rfl⟩ : ∃ k, m = k + 1 := ⟨m - 1, by omega⟩
  refine ⟨(Builtin.zeroCells (Value.agg #[.int .i64 0, .slice none 0 0]).cells (m + 1)).toList, fun ty c2 => ?_⟩
  have hz : (Value.agg #[.int .i64 0, .slice none 0 0]).cells = #[.int .i64 0, .slice none 0 0] := rfl
  have hlen : (Builtin.zeroCells (Value.agg #[.int .i64 0, .slice none 0 0]).cells (m + 1)).toList.length = (m + 1) * 2 := by rw [hz]; simp [Builtin.zeroCells]
  have hst := run_storeCells_cells (P := Tryd.prog) g (i * 2) (Builtin.zeroCells (Value.agg #[.int .i64 0, .slice none 0 0]).cells (m + 1)).toList 0 w
    (fun j hj => by
      rw [hlen] at hj
      rw [cell_of_row w g _ cur _ _ hg, Array.getElem?_eq_getElem (by omega)]; rfl)
    (fun j hj => by simp [World.frozen?, hg])
    (fun v hv => by
      rw [hz] at hv
      simp only [Builtin.zeroCells, Array.toList_map, List.mem_map] at hv
      obtain ⟨k, _, rfl⟩ := hv
      have : k % 2 = 0 ∨ k % 2 = 1 := by omega
      rcases this with h | h <;> simp [h] <;> rfl)
  simp only [Nat.add_zero] at hst
  simp [Builtin.clear_, run_underlying Tryd.underlying36, zero_path, hst]
end Go.Proofs.YtndooeffjkofdaaDoor
