/- A slice of spaces that the call owns, all of it in blocks of a given kind, the rows in blocks of their own. The rows of a matrix: slices in blocks of their own. A slice of pairs of integers that the call owns. -/
import Derived.Test.YtjcgommdeplbbaaMg8
import Derived.Test.YtjcgommdeplbbaaCols
import Derived.Test.YtjcgommdeplbbaaSinks
import Derived.Maps.AppendAt
namespace Go.Proofs.Ytjcgommdeplbbaa
open Go.RowKit
set_option linter.unusedVariables false
set_option linter.unusedSimpArgs false

/-- no two of the slices lie in one block -/
def disV (us : List Value) : Prop := us.Pairwise fun a b => ∀ q, blk a = some q → blk b ≠ some q
/-- u is a slice of the values vs, which read as the rows ll -/
def RwV (w : World) (u : Value) (vs : List Value) (ll : List (List Int)) : Prop :=
  (∃ a cap, u = .slice a ll.length cap ∧ ll.length ≤ cap ∧ cap ≤ maxLen ∧
    (ll = [] ∨ ∃ g off cur, a = some ⟨g, off, none⟩ ∧ w.heap[g]? = some (.cells cur 37 (0, 0)) ∧ off + ll.length ≤ cur.size ∧ (cur.toList.drop off).take ll.length = vs)) ∧ arR 0 w vs ll
theorem RwV.rws {w : World} {u : Value} {vs : List Value} {ll : List (List Int)} (h : RwV w u vs ll) : Rws 0 w u ll := by
  obtain ⟨⟨a, cap, rfl, h1, h2, rfl | ⟨g, off, cur, rfl, hg, hs, ht⟩⟩, hr⟩ := h
  · exact ⟨_, cap, rfl, h1, h2, .inl rfl⟩
  · exact ⟨_, cap, rfl, h1, h2, .inr ⟨g, off, cur, rfl, Nat.zero_le _, hg, hs, by rw [ht]; exact hr⟩⟩
theorem RwV.shape {w : World} {u : Value} {vs : List Value} {ll : List (List Int)} (h : RwV w u vs ll) : ∃ a c, u = .slice a ll.length c ∧ ll.length ≤ c ∧ c ≤ 9223372036854775807 := h.rws.shape
theorem arR.keepM {w w' : World} : ∀ {vs : List Value} {ll : List (List Int)}, (∀ x ∈ vs, ∀ q, blk x = some q → w'.heap[q]? = w.heap[q]?) → arR 0 w vs ll → arR 0 w' vs ll
  | [], [], _, _ => trivial
  | v :: vs, _ :: _, hk, h => ⟨h.1.keep (hk v (by simp)), h.2.1, arR.keepM (fun x hx => hk x (by simp [hx])) h.2.2⟩
  | [], _ :: _, _, h => h.elim
  | _ :: _, [], _, h => h.elim
theorem RwV.keep {w w' : World} {u : Value} {vs : List Value} {ll : List (List Int)} (h : RwV w u vs ll) (hu : ∀ q, blk u = some q → w'.heap[q]? = w.heap[q]?) (hv : ∀ x ∈ vs, ∀ q, blk x = some q → w'.heap[q]? = w.heap[q]?) : RwV w' u vs ll := by
  obtain ⟨⟨a, cap, rfl, h1, h2, h3⟩, hr⟩ := h
  refine ⟨⟨a, cap, rfl, h1, h2, ?_⟩, hr.keepM hv⟩
  rcases h3 with rfl | ⟨g, off, cur, rfl, hg, hs, ht⟩
  · exact .inl rfl
  · cases ll with
    | nil => exact .inl rfl
    | cons l ll => exact .inr ⟨g, off, cur, rfl, by rw [hu g rfl]; exact hg, hs, ht⟩
theorem RwV.ult {w : World} {u : Value} {vs : List Value} {ll : List (List Int)} (h : RwV w u vs ll) : ∀ q, blk u = some q → q < w.heap.size := by
  obtain ⟨⟨a, cap, rfl, h1, h2, h3⟩, hr⟩ := h
  intro q hq
  rcases h3 with rfl | ⟨g, off, cur, rfl, hg, hs, ht⟩
  · cases a <;> simp [blk] at hq
  · cases ll with
    | nil => simp [blk] at hq
    | cons l ll =>
      have : g = q := by simpa [blk] using hq
      subst this
      exact (Array.getElem?_eq_some_iff.1 hg).1
theorem arR_lt0 {B : Nat} {w : World} : ∀ {vs : List Value} {ll : List (List Int)}, arR B w vs ll → ∀ x ∈ vs, ∀ q, blk x = some q → B ≤ q ∧ q < w.heap.size
  | [], [], _, x, hx => by simp at hx
  | v :: vs, _ :: _, h, x, hx => by
    intro q hq
    rcases List.mem_cons.1 hx with rfl | hx
    · exact ⟨h.2.1 q hq, h.1.lt q hq⟩
    · exact arR_lt0 h.2.2 x hx q hq
  | [], _ :: _, h, _, _ => h.elim
  | _ :: _, [], h, _, _ => h.elim
theorem RwV.vlt {w : World} {u : Value} {vs : List Value} {ll : List (List Int)} (h : RwV w u vs ll) : ∀ x ∈ vs, ∀ q, blk x = some q → q < w.heap.size := fun x hx q hq => (arR_lt0 h.2 x hx q hq).2
/-- the row of rows and the rows lie in no row of spaces -/
theorem RwV.far {w : World} {u : Value} {vs : List Value} {ll : List (List Int)} (h : RwV w u vs ll) {g : Nat} {cur : Array Value} (hg : w.heap[g]? = some (.cells cur 33 (0, 0))) : (∀ q, blk u = some q → q ≠ g) ∧ ∀ x ∈ vs, ∀ q, blk x = some q → q ≠ g := by
  obtain ⟨⟨a, cap, rfl, h1, h2, h3⟩, hr⟩ := h
  constructor
  · intro q hq e
    subst e
    rcases h3 with rfl | ⟨g2, off, cur2, rfl, hg2, hs, ht⟩
    · cases a <;> simp [blk] at hq
    · cases ll with
      | nil => simp [blk] at hq
      | cons l ll =>
        have : g2 = q := by simpa [blk] using hq
        subst this
        rw [hg] at hg2; simp at hg2
  · clear h1 h2 h3
    intro x hx q hq e
    subst e
    induction vs generalizing ll with
    | nil => simp at hx
    | cons v vs ih =>
      cases ll with
      | nil => exact hr.elim
      | cons l ll =>
        rcases List.mem_cons.1 hx with rfl | hx
        · obtain ⟨a2, c2, rfl, _, _, rfl | ⟨g3, o3, cur3, rfl, hg3, _, _⟩⟩ := hr.1
          · cases a2 <;> simp [blk] at hq
          · cases l with
            | nil => simp [blk] at hq
            | cons y l =>
              have : g3 = q := by simpa [blk] using hq
              subst this
              rw [hg] at hg3; simp at hg3
        · exact ih hr.2.2 hx
/-- the spaces' rows of rows us, their rows vss, in blocks of the kind P -/
def arX (P : Nat → Prop) (w : World) : List Value → List (List Value) → List Sp → Prop
  | [], [], [] => True
  | u :: us, vs :: vss, p :: L => RwV w u vs p.2 ∧ (∀ q, blk u = some q → P q) ∧ (∀ x ∈ vs, ∀ q, blk x = some q → P q) ∧ arX P w us vss L
  | _, _, _ => False
theorem arX.ars {P : Nat → Prop} {w : World} : ∀ {us : List Value} {vss : List (List Value)} {L : List Sp}, arX P w us vss L → arS 0 w us L
  | [], [], [], _ => trivial
  | _ :: _, _ :: _, _ :: _, h => ⟨h.1.rws, arX.ars h.2.2.2⟩
  | [], [], _ :: _, h => h.elim
  | [], _ :: _, _, h => h.elim
  | _ :: _, [], _, h => h.elim
  | _ :: _, _ :: _, [], h => h.elim
theorem arX.keep {P Q : Nat → Prop} {w w' : World} (hPQ : ∀ q, P q → Q q) (hk : ∀ q, P q → w'.heap[q]? = w.heap[q]?) : ∀ {us : List Value} {vss : List (List Value)} {L : List Sp}, arX P w us vss L → arX Q w' us vss L
  | [], [], [], _ => trivial
  | _ :: _, _ :: _, _ :: _, h => ⟨h.1.keep (fun q hq => hk q (h.2.1 q hq)) (fun x hx q hq => hk q (h.2.2.1 x hx q hq)), fun q hq => hPQ q (h.2.1 q hq), fun x hx q hq => hPQ q (h.2.2.1 x hx q hq), arX.keep hPQ hk h.2.2.2⟩
  | [], [], _ :: _, h => h.elim
  | [], _ :: _, _, h => h.elim
  | _ :: _, [], _, h => h.elim
  | _ :: _, _ :: _, [], h => h.elim
theorem arX.app {P : Nat → Prop} {w : World} {us2 : List Value} {vss2 : List (List Value)} {L2 : List Sp} (h2 : arX P w us2 vss2 L2) : ∀ {us : List Value} {vss : List (List Value)} {L : List Sp}, arX P w us vss L → arX P w (us ++ us2) (vss ++ vss2) (L ++ L2)
  | [], [], [], _ => h2
  | _ :: _, _ :: _, _ :: _, h => ⟨h.1, h.2.1, h.2.2.1, arX.app h2 h.2.2.2⟩
  | [], [], _ :: _, h => h.elim
  | [], _ :: _, _, h => h.elim
  | _ :: _, [], _, h => h.elim
  | _ :: _, _ :: _, [], h => h.elim
/-- the rows lie in blocks of the kind P, too -/
theorem arX.mem {P : Nat → Prop} {w : World} : ∀ {us : List Value} {vss : List (List Value)} {L : List Sp}, arX P w us vss L → ∀ x ∈ vss.flatten, ∀ q, blk x = some q → P q
  | [], [], [], _, x, hx => by simp at hx
  | _ :: _, vs :: vss, _ :: _, h, x, hx => by
    rw [List.flatten_cons, List.mem_append] at hx
    rcases hx with hx | hx
    · exact h.2.2.1 x hx
    · exact arX.mem h.2.2.2 x hx
  | [], [], _ :: _, h, _, _ => h.elim
  | [], _ :: _, _, h, _, _ => h.elim
  | _ :: _, [], _, h, _, _ => h.elim
  | _ :: _, _ :: _, [], h, _, _ => h.elim
theorem arX.far {P : Nat → Prop} {w w' : World} {g : Nat} {cur : Array Value} (hg : w.heap[g]? = some (.cells cur 33 (0, 0))) (hk : ∀ q, q < w.heap.size → q ≠ g → w'.heap[q]? = w.heap[q]?) : ∀ {us : List Value} {vss : List (List Value)} {L : List Sp}, arX P w us vss L → arX P w' us vss L
  | [], [], [], _ => trivial
  | _ :: _, _ :: _, _ :: _, h => ⟨h.1.keep (fun q hq => hk q (h.1.ult q hq) ((h.1.far hg).1 q hq)) (fun x hx q hq => hk q (h.1.vlt x hx q hq) ((h.1.far hg).2 x hx q hq)), h.2.1, h.2.2.1, arX.far hg hk h.2.2.2⟩
  | [], [], _ :: _, h => h.elim
  | [], _ :: _, _, h => h.elim
  | _ :: _, [], _, h => h.elim
  | _ :: _, _ :: _, [], h => h.elim
/-- a slice of spaces that the call owns; its blocks are of the kind P; the rows lie in blocks of their own -/
def OwnX (P : Nat → Prop) (w : World) (v : Value) (L : List Sp) : Prop := ∃ us vss, w.ownsRow 0 33 2 v L.length (flatS us L) ∧ (∀ g, v.ownBlock = some g → P g) ∧ arX P w us vss L ∧ disV vss.flatten
theorem OwnX.owns {P : Nat → Prop} {w : World} {v : Value} {L : List Sp} (h : OwnX P w v L) : OwnS w 0 v L := by
  obtain ⟨us, vss, h1, _, h2, _⟩ := h; exact ⟨us, h1, h2.ars⟩
theorem OwnX.nil (P : Nat → Prop) (w : World) : OwnX P w (.slice none 0 0) [] := ⟨[], [], World.ownsRow_nil w 0 _ 2, fun g hg => by simp [Value.ownBlock] at hg, trivial, List.Pairwise.nil⟩
theorem OwnX.keep {P Q : Nat → Prop} {w w' : World} {v : Value} {L : List Sp} (h : OwnX P w v L) (hPQ : ∀ q, P q → Q q) (hk : ∀ q, P q → w'.heap[q]? = w.heap[q]?) : OwnX Q w' v L := by
  obtain ⟨us, vss, ⟨h1, h2⟩, h3, h4, h5⟩ := h
  refine ⟨us, vss, ⟨h1, ?_⟩, fun g hg => hPQ g (h3 g hg), h4.keep hPQ hk, h5⟩
  rcases h2 with h2 | ⟨g, cap, cur, rfl, hb, hg, r⟩
  · exact .inl h2
  · exact .inr ⟨g, cap, cur, rfl, hb, by rw [hk g (h3 g rfl)]; exact hg, r⟩
theorem OwnX.shape {P : Nat → Prop} {w : World} {v : Value} {L : List Sp} (h : OwnX P w v L) : ∃ a c, v = .slice a L.length c ∧ L.length ≤ c ∧ c ≤ 9223372036854775807 := h.owns.shape
/-- append of one space, laid into a block of its own -/
theorem run_app_spx (ty : TypeId) {P P' : Nat → Prop} (w : World) (v : Value) (L : List Sp) (n : Int) (u : Value) (vs : List Value) (ll : List (List Int)) (hown : OwnX P w v L) (hP : ∀ q, P q → q < w.heap.size ∧ P' q)
    (hu : RwV w u vs ll) (hub : ∀ q, blk u = some q → P' q) (hvb : ∀ x ∈ vs, ∀ q, blk x = some q → P' q ∧ ¬ P q) (hdv : disV vs) (hnew : P' (w.heap.size + 1)) (hl : L.length + 1 ≤ 1099511627776) :
    ∃ v' w', (Builtin.append_ #[22, 22] ty #[v, .slice (some ⟨w.heap.size, 0, none⟩) 1 1]).run Try.prog (w.alloc (.cells #[.int .i64 n, u] 33)) = .ok v' w' ∧ OwnX P' w' v' (L ++ [(n, ll)]) ∧ (w.alloc (.cells #[.int .i64 n, u] 33)).grownBy w' v.ownBlock := by
  obtain ⟨i, hi, h0, h1, h2⟩ := info_parts infoSpace
  obtain ⟨us, vss, hu1, hu2, hu3, hu4⟩ := hown
  have hal : Below w.heap.size w (w.alloc (.cells #[.int .i64 n, u] 33)) := (Below.refl _ w).alloc (Nat.le_refl _) _
  have hown2 := World.ownsRow.alloc hu1 (.cells #[.int .i64 n, u] 33)
  have hone : u.oneCell' = true := by obtain ⟨b, c, rfl, _⟩ := hu.shape; rfl
  have hus : us.length = L.length := hu3.ars.len
  have h3a : arX P' (w.alloc (.cells #[.int .i64 n, u] 33)) us vss L := hu3.keep (fun q hq => (hP q hq).2) (fun q hq => hal.block q (hP q hq).1)
  have hua : RwV (w.alloc (.cells #[.int .i64 n, u] 33)) u vs ll := hu.keep (fun q hq => hal.block q (hu.ult q hq)) (fun x hx q hq => hal.block q (hu.vlt x hx q hq))
  obtain ⟨v', w', hrun, ho', hg', _, hloc⟩ := run_append_own_at (P := Try.prog) (w.alloc (.cells #[.int .i64 n, u] 33)) 0 22 ty 33 i (.agg #[.int .i64 0, .slice none 0 0]) 2 32 Try.underlying22 hi h0 h1 h2 rfl (by decide) v L.length (flatS us L) hown2
    ⟨w.heap.size, 0, none⟩ 1 1 [.int .i64 n, u] (by simp) (news_cells w _ [.int .i64 n, u]) (by simp [hone]; rfl) (by unfold maxLen; omega) (by omega) (Nat.zero_le _)
  refine ⟨v', w', hrun, ⟨us ++ [u], vss ++ [vs], ?_, ?_, ?_, ?_⟩, hg'⟩
  · rw [flatS_app hus, List.length_append]; exact ho'
  · intro g hg
    rcases hloc with e | e
    · exact (hP g (hu2 g (e.symm.trans hg))).2
    · rw [e] at hg
      have : w.heap.size + 1 = g := by simpa using hg
      rw [← this]; exact hnew
  · rcases hown2.2 with ⟨hv0, _⟩ | ⟨g, cap, cur, hv0, _, hh, _⟩
    · have hk : ∀ q, q < (w.alloc (.cells #[.int .i64 n, u] 33)).heap.size → w'.heap[q]? = (w.alloc (.cells #[.int .i64 n, u] 33)).heap[q]? := fun q hq => hg'.block q hq (by rw [hv0]; simp [Value.ownBlock])
      refine arX.app (us2 := [u]) (vss2 := [vs]) (L2 := [(n, ll)]) ⟨hua.keep (fun q hq => hk q (hua.ult q hq)) (fun x hx q hq => hk q (hua.vlt x hx q hq)), hub, fun x hx q hq => (hvb x hx q hq).1, trivial⟩ ?_
      refine (hu3.keep (Q := P) (fun q hq => hq) (fun q hq => (hk q (by have := (hP q hq).1; simp; omega)).trans (hal.block q (hP q hq).1))).keep (fun q hq => (hP q hq).2) (fun _ _ => rfl)
    · have hk : ∀ q, q < (w.alloc (.cells #[.int .i64 n, u] 33)).heap.size → q ≠ g → w'.heap[q]? = (w.alloc (.cells #[.int .i64 n, u] 33)).heap[q]? := fun q hq hne => hg'.block q hq (by rw [hv0]; simp [Value.ownBlock]; exact hne)
      refine arX.app (us2 := [u]) (vss2 := [vs]) (L2 := [(n, ll)]) ⟨hua.keep (fun q hq => hk q (hua.ult q hq) ((hua.far hh).1 q hq)) (fun x hx q hq => hk q (hua.vlt x hx q hq) ((hua.far hh).2 x hx q hq)), hub, fun x hx q hq => (hvb x hx q hq).1, trivial⟩ (h3a.far hh hk)
  · rw [List.flatten_append, List.flatten_singleton]
    unfold disV at *
    rw [List.pairwise_append]
    exact ⟨hu4, hdv, fun a ha b hb q hq e => (hvb b hb q e).2 (hu3.mem a ha q hq)⟩
/-- in a region that draws -/
theorem step_app_spx {ops : Array Oper} {o : Oper} {a : Act} {K : Act → World → Prop} {Q : Exit → Act → World → Prop} {E : Prop} {P P' : Nat → Prop} (w : World) (hgd : o.guard = none) (s x : Operand)
    (ho : o.op = .call { callee := .builtin .append, args := #[s, x], argTypes := #[22, 22] }) (v : Value) (L : List Sp) (n : Int) (u : Value) (vs : List Value) (ll : List (List Int))
    (hs : a.eval s = v) (hx : a.eval x = .slice (some ⟨w.heap.size, 0, none⟩) 1 1) (hown : OwnX P w v L) (hP : ∀ q, P q → q < w.heap.size ∧ P' q)
    (hu : RwV w u vs ll) (hub : ∀ q, blk u = some q → P' q) (hvb : ∀ x ∈ vs, ∀ q, blk x = some q → P' q ∧ ¬ P q) (hdv : disV vs) (hnew : P' (w.heap.size + 1)) (hl : L.length + 1 ≤ 1099511627776)
    (hK : ∀ v' w', OwnX P' w' v' (L ++ [(n, ll)]) → (w.alloc (.cells #[.int .i64 n, u] 33)).grownBy w' v.ownBlock → K (a.put o.dst v') w') :
    if Region.wanted o (yielded ops a.tmps) = true then Oper.wp Try.prog o a (w.alloc (.cells #[.int .i64 n, u] 33)) K Q else E := by
  have hw : Region.wanted o (yielded ops a.tmps) = true := by simp [Region.wanted, hgd]
  rw [if_pos hw]
  obtain ⟨v', w', hrun, h1, h2⟩ := run_app_spx o.type w v L n u vs ll hown hP hu hub hvb hdv hnew hl
  unfold Oper.wp
  simp [execOp, ho, resolve, invoke, builtin, hs, hx, hrun, Result.andThen]
  exact hK v' w' h1 h2
end Go.Proofs.Ytjcgommdeplbbaa

namespace Go.Proofs.Ytjcgommdeplbbaa
open Go.RowKit
set_option linter.unusedVariables false
set_option linter.unusedSimpArgs false

def OwnRD (w : World) (B : Nat) (v : Value) (ll : List (List Int)) : Prop := ∃ vs, w.ownsRow B 37 1 v ll.length vs ∧ arR B w vs ll ∧ disV vs
theorem OwnRD.own {w : World} {B : Nat} {v : Value} {ll : List (List Int)} (h : OwnRD w B v ll) : OwnR w B v ll := by
  obtain ⟨vs, h1, h2, _⟩ := h; exact ⟨vs, h1, h2⟩
theorem OwnRD.nil (w : World) (B : Nat) : OwnRD w B (.slice none 0 0) [] := ⟨[], World.ownsRow_nil w B _ 1, trivial, List.Pairwise.nil⟩
theorem OwnRD.below {w w' : World} {B : Nat} {v : Value} {ll : List (List Int)} (h : OwnRD w B v ll) (b : Below w.heap.size w w') : OwnRD w' B v ll := by
  obtain ⟨vs, h1, h2, h3⟩ := h
  refine ⟨vs, World.ownsRow.kept h1 (row := none) ⟨b.os, b.tape, b.output, b.size, fun i hi _ => b.block i hi⟩ ?_, h2.keep fun _ _ hv _ => hv.below b, h3⟩
  cases v.ownBlock <;> simp
theorem OwnRD.mono {w : World} {B B' : Nat} {v : Value} {ll : List (List Int)} (h : OwnRD w B v ll) (hB : B' ≤ B) : OwnRD w B' v ll := by
  obtain ⟨vs, ⟨hl, h2⟩, hr, h3⟩ := h
  refine ⟨vs, ⟨hl, ?_⟩, hr.mono hB, h3⟩
  rcases h2 with h | ⟨g, cap, cur, e, hb, rest⟩
  · exact .inl h
  · exact .inr ⟨g, cap, cur, e, Nat.le_trans hB hb, rest⟩
/-- as a space's rows -/
theorem OwnRD.rwv {w : World} {B : Nat} {v : Value} {ll : List (List Int)} (h : OwnRD w B v ll) : ∃ vs, RwV w v vs ll ∧ (∀ q, blk v = some q → B ≤ q) ∧ (∀ x ∈ vs, ∀ q, blk x = some q → B ≤ q) ∧ disV vs := by
  obtain ⟨vs, ⟨hl, h2⟩, hr, h3⟩ := h
  refine ⟨vs, ⟨?_, hr.mono (Nat.zero_le _)⟩, ?_, fun x hx q hq => (arR_lt0 hr x hx q hq).1, h3⟩
  · rcases h2 with ⟨rfl, h0⟩ | ⟨g, cap, cur, rfl, hb, hg, hnc, hcm, hcs, htake⟩
    · have : ll = [] := List.length_eq_zero_iff.1 h0
      subst this
      exact ⟨_, 0, rfl, Nat.le_refl _, by decide, .inl rfl⟩
    · exact ⟨_, cap, rfl, hnc, hcm, .inr ⟨g, 0, cur, rfl, hg, by omega, by rw [List.drop_zero, show ll.length = ll.length * 1 by omega, htake]⟩⟩
  · intro q hq
    rcases h2 with ⟨rfl, h0⟩ | ⟨g, cap, cur, rfl, hb, hg, hnc, hcm, hcs, htake⟩
    · simp [blk] at hq
    · cases ll with
      | nil => simp [blk] at hq
      | cons l ll =>
        have : g = q := by simpa [blk] using hq
        omega
theorem app_rowD {ops : Array Oper} {rest : List Oper} {o : Oper} {a : Act} {Q : Exit → Act → World → Prop} {c : Value} (w0 w1 w : World) (hgd : o.guard = none) (s x : Operand)
    (ho : o.op = .call { callee := .builtin .append, args := #[s, x], argTypes := #[31, 31] }) (B : Nat) (v : Value) (ll : List (List Int)) (l : List Int)
    (hs : a.eval s = v) (hx : a.eval x = .slice (some ⟨w.heap.size, 0, none⟩) 1 1) (hone : c.oneCell' = true) (hc : Ints w c l) (hf : FreshV w1.heap.size c) (hb1 : Below w1.heap.size w1 w) (hB1 : B ≤ w1.heap.size) (hown : OwnRD w1 B v ll) (hbel : Below B w0 w) (hB : B ≤ w.heap.size) (hl : ll.length + 1 ≤ 1048576)
    (hK : ∀ v' w', OwnRD w' B v' (ll ++ [l]) → Below B w0 w' → B ≤ w'.heap.size → wpList Try.prog ops Q rest (a.put o.dst v') w') :
    wpList Try.prog ops Q (o :: rest) a (w.alloc (.cells #[c] 37)) := by
  obtain ⟨i, hi, h0, h1, h2⟩ := info_parts infoRow
  obtain ⟨vs, hown', hr', hd⟩ := hown
  have hlt := fun x hx q hq => (arR_lt0 hr' x hx q hq).2
  have hown : w.ownsRow B 37 1 v ll.length vs := World.ownsRow.kept hown' (row := none) ⟨hb1.os, hb1.tape, hb1.output, hb1.size, fun i hi _ => hb1.block i hi⟩ (by cases v.ownBlock <;> simp)
  have hr : arR B w vs ll := hr'.keep fun _ _ hv _ => hv.below hb1
  have hown2 := World.ownsRow.alloc hown (.cells #[c] 37)
  refine wpList_append_own _ hgd s x 31 ho B 37 i (.slice none 0 0) 1 24 Try.underlying31 hi h0 h1 h2 rfl (by decide) v ll.length vs hs hown2
    ⟨w.heap.size, 0, none⟩ 1 1 [c] hx rfl (news_cells w _ [c]) (by simpa using hone) (by unfold maxLen; omega) (by omega) (by simp; omega) ?_
  intro v' w' ho' hg _
  have hb : Below B w0 w' := (hbel.alloc hB _).grown hg (by simp; omega) (fun k hk => (World.ownsRow.lt hown k hk).1)
  have hal : Below w.heap.size w (w.alloc (.cells #[c] 37)) := (Below.refl _ w).alloc (Nat.le_refl _) _
  refine hK v' w' ⟨vs ++ [c], by simpa using ho', ?_, ?_⟩ hb ?_
  · exact (hr.keep fun _ _ h _ => (h.below hal).grownR hown2 hg).snoc ((hc.below hal).grownR hown2 hg) (hf.mono hB1)
  · unfold disV at *
    rw [List.pairwise_append]
    refine ⟨hd, by simp, fun a ha b hb q hq e => ?_⟩
    rw [List.mem_singleton] at hb
    subst hb
    have := hlt a ha q hq
    have := hf q e
    omega
  · have := hg.size; simp at this; omega

def RowsDis (ll : List (List Int)) (w : World) (e : Ending) (w' : World) : Prop := ∃ v, e = .returned v ∧ OwnRD w' w.heap.size v ll ∧ Below w.heap.size w w'
set_option maxRecDepth 100000 in
set_option maxHeartbeats 1000000 in
theorem i_rowsD (r c : Nat) (v : Value) (l : List Int) (w : World) (hv : Ints w v l) (hl : l.length = r * c) (hr8 : r ≤ 64) (hc8 : c ≤ 64) :
    Calls Try.prog 29 #[.agg #[.int .i64 r, .int .i64 c, v]] w (RowsDis (rowsK c l r) w) := by
  obtain ⟨a, cap, rfl, hlc, hcm⟩ := hv.shape
  have M := Lib.hid (((MB.start w).addI hv).alloc #[.int .i64 r, .int .i64 c, .slice a l.length cap] 49)
  have HL := Lib.hid hl
  clear hv hl
  obtain ⟨W, hW⟩ : ∃ W, W = w.alloc (.cells #[.int .i64 r, .int .i64 c, .slice a l.length cap] 49) := ⟨_, rfl⟩
  have hWs : W.heap.size = w.heap.size + 1 := by rw [hW]; simp
  rw [← hW] at M
  have HWs := Lib.hid hWs; have HW := Lib.hid hW
  clear hWs hW
  go_enter Try.func29, Try.ntmps29
  go_wp2
  rw [← HW.out]
  go_loopw [3, 7] (fun s i wr => ∃ k : Nat, k ≤ r ∧ i = .int .i64 k ∧ OwnRD wr W.heap.size s (rowsK c l k) ∧ Below W.heap.size W wr) (fun _ i _ => r - (intOf i).toNat)
  case atStart => exact ⟨0, Nat.zero_le _, rfl, OwnRD.nil _ _, Below.refl _ _⟩
  case round =>
    obtain ⟨k, hk, rfl, hown, hbel⟩ := hrel
    have M1 := Lib.hid (M.out.call hbel)
    have HO := Lib.hid hown
    obtain ⟨a3, c3, rfl, hx3, hy3⟩ := hown.own.rws.shape
    rw [rowsK_len] at *
    have HB := Lib.hid hbel
    clear hown hbel
    obtain ⟨p0, p1, p2⟩ := blk3 M1.out.b0
    by_cases hlt : k < r
    · go_wp2_with fail
      refine (i_row _ _ r c k rfl _ l _ M1.out.i0 HL.out hlt hr8 hc8).mono ?_; rintro e w1 ⟨v1, rfl, hv1, _, _, b1⟩
      have hlen1 := rowL_len HL.out hlt
      have hq1 := Lib.hid hv1
      have HB1 := Lib.hid (HB.out.trans (b1.mono HB.out.size))
      have HB01 := Lib.hid b1
      obtain ⟨a4, c4, rfl, _, _⟩ := hv1.shape
      clear hv1 b1 p0 p1 p2
      rw [hlen1] at *
      clear hlen1
      go_wp2_with fail
      refine (Clone_ints _ (rowL c k l) _ hq1.out (by rw [rowL_len HL.out hlt]; omega)).mono ?_; rintro e w2 ⟨v2, rfl, hv2, hf2, b2⟩
      have HV2 := Lib.hid hv2
      have HF2 := Lib.hid (hf2.mono (show wr.heap.size ≤ w1.heap.size from HB01.out.size))
      have HB02 := Lib.hid (HB01.out.trans (b2.mono HB01.out.size))
      have HB2 := Lib.hid (HB1.out.trans (b2.mono HB1.out.size))
      obtain ⟨a5, c5, rfl, _, _⟩ := hv2.shape
      clear hv2 hf2 b2
      go_wp2_with (at_builtin; refine app_rowD W wr _ rfl (.tmp 10) (.tmp 15) rfl W.heap.size _ (rowsK c l k) (rowL c k l) rfl rfl rfl HV2.out HF2.out HB02.out HB.out.size HO.out HB2.out HB2.out.size (by rw [rowsK_len]; omega) ?_)
      intro v6 w6 hown6 hbel6 hB6
      rw [rowsK_succ] at hown6
      have HO6 := Lib.hid hown6; have HB6 := Lib.hid hbel6
      clear hown6 hbel6 hB6
      go_wp2
      go_roundw
      case rel => exact ⟨k + 1, by omega, by go_num, HO6.out, HB6.out⟩
      case measure => simp [intOf]; omega
    · obtain rfl : k = r := by omega
      go_wp2
      go_ret
      exact ⟨_, rfl, HO.out.mono (by have := HWs.out; omega), M1.out.bel⟩
end Go.Proofs.Ytjcgommdeplbbaa

namespace Go.Proofs.Ytjcgommdeplbbaa
open Go.RowKit
set_option linter.unusedVariables false
set_option linter.unusedSimpArgs false

theorem infoPair : (Try.prog.info? 43).map (fun i => (i.zero, i.size, i.bytes)) = some (some (.agg #[.int .i64 0, .int .i64 0]), 2, 16) := by kernel_rfl
def flatC : List (Int × Int) → List Value
  | [] => []
  | p :: L => .int .i64 p.1 :: .int .i64 p.2 :: flatC L
theorem flatC_len : ∀ L : List (Int × Int), (flatC L).length = L.length * 2
  | [] => rfl
  | p :: L => by simp [flatC, flatC_len L]; omega
theorem flatC_app (L M : List (Int × Int)) : flatC (L ++ M) = flatC L ++ flatC M := by
  induction L with
  | nil => rfl
  | cons p L ih => simp [flatC, ih]
theorem flatC_get : ∀ (L : List (Int × Int)) (i : Nat), i < L.length → (flatC L)[i * 2]? = some (.int .i64 (L.getD i (0, 0)).1) ∧ (flatC L)[i * 2 + 1]? = some (.int .i64 (L.getD i (0, 0)).2)
  | [], i, h => by simp at h
  | p :: L, 0, _ => ⟨rfl, rfl⟩
  | p :: L, i + 1, h => by
    obtain ⟨h1, h2⟩ := flatC_get L i (by simpa using h)
    rw [show (i + 1) * 2 = i * 2 + 1 + 1 by omega]
    exact ⟨by simpa [flatC, List.getD] using h1, by simpa [flatC, List.getD] using h2⟩
theorem flatC_one (L : List (Int × Int)) : ∀ x ∈ flatC L, x.oneCell' = true := by
  induction L with
  | nil => simp [flatC]
  | cons p L ih =>
    intro x hx
    simp only [flatC, List.mem_cons] at hx
    rcases hx with rfl | rfl | hx
    · rfl
    · rfl
    · exact ih x hx
def OwnC (w : World) (B : Nat) (v : Value) (L : List (Int × Int)) : Prop := w.ownsRow B 43 2 v L.length (flatC L)
theorem OwnC.nil (w : World) (B : Nat) : OwnC w B (.slice none 0 0) [] := World.ownsRow_nil w B _ 2
theorem OwnC.below {w w' : World} {B : Nat} {v : Value} {L : List (Int × Int)} (h : OwnC w B v L) (b : Below w.heap.size w w') : OwnC w' B v L := by
  refine World.ownsRow.kept h (row := none) ⟨b.os, b.tape, b.output, b.size, fun i hi _ => b.block i hi⟩ ?_
  cases v.ownBlock <;> simp
theorem OwnC.keep {w w' : World} {B : Nat} {v : Value} {L : List (Int × Int)} (h : OwnC w B v L) (hk : ∀ g, v.ownBlock = some g → w'.heap[g]? = w.heap[g]?) : OwnC w' B v L := by
  obtain ⟨h1, h2⟩ := h
  refine ⟨h1, ?_⟩
  rcases h2 with h2 | ⟨g, cap, cur, rfl, hb, hg, r⟩
  · exact .inl h2
  · exact .inr ⟨g, cap, cur, rfl, hb, by rw [hk g rfl]; exact hg, r⟩
theorem OwnC.shape {w : World} {B : Nat} {v : Value} {L : List (Int × Int)} (h : OwnC w B v L) : ∃ a c, v = .slice a L.length c ∧ L.length ≤ c ∧ c ≤ 9223372036854775807 := by
  obtain ⟨_, h2⟩ := h
  rcases h2 with ⟨rfl, h0⟩ | ⟨g, cap, cur, rfl, _, _, hnc, hcm, _⟩
  · exact ⟨none, 0, by rw [h0], by omega, by omega⟩
  · exact ⟨_, cap, rfl, hnc, by simpa [maxLen] using hcm⟩
theorem OwnC.cell {w : World} {B : Nat} {a : Option Addr} {n c : Nat} {L : List (Int × Int)} (h : OwnC w B (.slice a n c) L) {i : Nat} (hi : i < L.length) :
    ∃ g, a = some ⟨g, 0, none⟩ ∧ B ≤ g ∧ g < w.heap.size ∧ w.cell? ⟨g, i * 2, none⟩ = some (.int .i64 (L.getD i (0, 0)).1) ∧ w.cell? ⟨g, i * 2 + 1, none⟩ = some (.int .i64 (L.getD i (0, 0)).2) := by
  obtain ⟨hl, h2⟩ := h
  rcases h2 with ⟨_, h0⟩ | ⟨g, cap, cur, e, hb, hg, hnc, hcm, hcs, htake⟩
  · omega
  · simp only [Value.slice.injEq] at e
    obtain ⟨rfl, rfl, rfl⟩ := e
    obtain ⟨e1, e2⟩ := flatC_get L i hi
    refine ⟨g, rfl, hb, (Array.getElem?_eq_some_iff.1 hg).1, ?_, ?_⟩
    · rw [cell_of_row w g _ cur _ _ hg, ← e1, ← htake, List.getElem?_take_of_lt (by omega), Array.getElem?_toList]
    · rw [cell_of_row w g _ cur _ _ hg, ← e2, ← htake, List.getElem?_take_of_lt (by omega), Array.getElem?_toList]
/-- append of one pair, laid into a block of its own -/
theorem app_pr {ops : Array Oper} {rest : List Oper} {o : Oper} {a : Act} {Q : Exit → Act → World → Prop} (w : World) (hgd : o.guard = none) (s x : Operand)
    (ho : o.op = .call { callee := .builtin .append, args := #[s, x], argTypes := #[41, 41] }) (B : Nat) (v : Value) (L : List (Int × Int)) (i j : Int)
    (hs : a.eval s = v) (hx : a.eval x = .slice (some ⟨w.heap.size, 0, none⟩) 1 1) (hown : OwnC w B v L) (hB : B ≤ w.heap.size) (hl : L.length + 1 ≤ 1099511627776)
    (hK : ∀ v' w', OwnC w' B v' (L ++ [(i, j)]) → (w.alloc (.cells #[.int .i64 i, .int .i64 j] 43)).grownBy w' v.ownBlock → (v'.ownBlock = v.ownBlock ∨ v'.ownBlock = some (w.heap.size + 1)) → wpList Try.prog ops Q rest (a.put o.dst v') w') :
    wpList Try.prog ops Q (o :: rest) a (w.alloc (.cells #[.int .i64 i, .int .i64 j] 43)) := by
  obtain ⟨inf, hi, h0, h1, h2⟩ := info_parts infoPair
  have hown2 := World.ownsRow.alloc hown (.cells #[.int .i64 i, .int .i64 j] 43)
  refine wpList_append_own_at _ hgd s x 41 ho B 43 inf (.agg #[.int .i64 0, .int .i64 0]) 2 16 Try.underlying41 hi h0 h1 h2 rfl (by decide) v L.length (flatC L) hs hown2
    ⟨w.heap.size, 0, none⟩ 1 1 [.int .i64 i, .int .i64 j] hx (by simp) (news_cells w _ [.int .i64 i, .int .i64 j]) (by simp; exact ⟨rfl, rfl⟩) (by unfold maxLen; omega) (by omega) (by simp; omega) ?_
  intro v' w' ho' hg' _ hloc
  refine hK v' w' ?_ hg' (by simpa using hloc)
  unfold OwnC
  rw [flatC_app, List.length_append]; exact ho'

end Go.Proofs.Ytjcgommdeplbbaa
