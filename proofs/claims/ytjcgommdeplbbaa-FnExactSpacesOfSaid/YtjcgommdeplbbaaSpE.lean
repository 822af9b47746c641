/- SpacesOf, of the reference: l5List. -/
import Derived.Test.YtjcgommdeplbbaaMg8
import Derived.Test.YtjcgommdeplbbaaAppRows
import Derived.Test.YtjcgommdeplbbaaCount
namespace Go.Proofs.Ytjcgommdeplbbaa
open Go.RowKit
set_option linter.unusedVariables false
set_option linter.unusedSimpArgs false

/-- all the vectors, in order -/
def vecs (p : Int) (N : Nat) (M : Nat) : List (List Int) := (List.range M).map fun (c : Nat) => vecL p N (c : Int)
/-- one round: v ahead of each of the bases -/
def inn (v : List Int) (R : List (List (List Int))) : List (List (List Int)) := (R.map (v :: ·)).filter rrB
def refL (p : Int) (N M : Nat) : Nat → List (List (List Int))
  | 0 => [[]]
  | k + 1 => (vecs p N M).flatMap fun v => inn v (refL p N M k)
def outS (N : Nat) (L : List (List (List Int))) : List Sp := L.map fun B => ((N : Int), B)
theorem outS_len (N : Nat) (L : List (List (List Int))) : (outS N L).length = L.length := by simp [outS]
theorem outS_app (N : Nat) (L M : List (List (List Int))) : outS N (L ++ M) = outS N L ++ outS N M := by simp [outS]
theorem outS_get (N : Nat) (L : List (List (List Int))) {i : Nat} (hi : i < L.length) : (outS N L).getD i (0, []) = ((N : Int), L.getD i []) := by
  simp [outS, List.getD, hi]
theorem vecs_succ (p : Int) (N c : Nat) : vecs p N (c + 1) = vecs p N c ++ [vecL p N (c : Int)] := by simp [vecs, List.range_succ]
theorem inn_take {v : List Int} {R : List (List (List Int))} {i : Nat} (hi : i < R.length) : inn v (R.take (i + 1)) = inn v (R.take i) ++ (if rrB (v :: R.getD i []) = true then [v :: R.getD i []] else []) := by
  unfold inn
  rw [List.take_add_one, List.getElem?_eq_getElem hi]
  simp only [Option.toList_some, List.map_append, List.map_cons, List.map_nil, List.filter_append, List.getD, List.getElem?_eq_getElem hi, Option.getD_some, List.filter_cons, List.filter_nil]
theorem refL_mem {p : Int} {N M : Nat} : ∀ {k : Nat} {B : List (List Int)}, B ∈ refL p N M k → B.length = k ∧ ∀ b ∈ B, b ∈ vecs p N M
  | 0, B, h => by simp [refL] at h; subst h; simp
  | k + 1, B, h => by
    simp only [refL, List.mem_flatMap, inn, List.mem_filter, List.mem_map] at h
    obtain ⟨v, hv, ⟨B', hB', rfl⟩, _⟩ := h
    obtain ⟨h1, h2⟩ := refL_mem hB'
    refine ⟨by simp [h1], fun b hb => ?_⟩
    rcases List.mem_cons.1 hb with rfl | hb
    · exact hv
    · exact h2 b hb
theorem inn_le (v : List Int) (R : List (List (List Int))) : (inn v R).length ≤ R.length := by
  unfold inn
  exact Nat.le_trans (List.length_filter_le _ _) (by simp)
theorem flatInn_le (R : List (List (List Int))) : ∀ (V : List (List Int)), (V.flatMap fun v => inn v R).length ≤ V.length * R.length
  | [] => by simp
  | v :: V => by
    have h1 := flatInn_le R V
    have h2 := inn_le v R
    rw [List.flatMap_cons, List.length_append, List.length_cons, Nat.succ_mul]
    omega
theorem refL_le (p : Int) (N M : Nat) : ∀ k, (refL p N M k).length ≤ M ^ k
  | 0 => by simp [refL]
  | k + 1 => by
    have h1 := flatInn_le (refL p N M k) (vecs p N M)
    have h2 := refL_le p N M k
    have h3 : (vecs p N M).length = M := by simp [vecs]
    rw [h3] at h1
    have h4 : M * (refL p N M k).length ≤ M * M ^ k := Nat.mul_le_mul_left _ h2
    rw [Nat.pow_succ, Nat.mul_comm]
    exact Nat.le_trans h1 h4
theorem vecL_isV {p : Int} (hp : isF p = true) {N : Nat} (hN : N ≤ 64) (c : Int) : isV p (vecL p N c) = true := by
  have h0 := isF_cases hp
  unfold isV
  rw [Bool.and_eq_true, Bool.and_eq_true]
  refine ⟨⟨hp, by rw [vecL_len]; simp; omega⟩, ?_⟩
  unfold okV
  rw [List.all_eq_true]
  intro x hx
  unfold vecL gen at hx
  simp only [List.mem_map] at hx
  obtain ⟨t, _, rfl⟩ := hx
  have h1 := Int.emod_nonneg (c / p ^ (N - 1 - t)) (show p ≠ 0 by omega)
  have h2 := Int.emod_lt_of_pos (c / p ^ (N - 1 - t)) (show 0 < p by omega)
  exact inR_mk (by omega) (by omega)

/-- append of rows to an own slice of rows, in a plain region -/
theorem app_rows {ops : Array Oper} {rest : List Oper} {o : Oper} {a : Act} {Q : Exit → Act → World → Prop} (w : World) (hgd : o.guard = none) (s x : Operand)
    (ho : o.op = .call { callee := .builtin .append, args := #[s, x], argTypes := #[31, 31] }) (B : Nat) (v vx : Value) (ll ls : List (List Int))
    (hs : a.eval s = v) (hx : a.eval x = vx) (hown : OwnR w B v ll) (hx2 : Rws B w vx ls) (hB : B ≤ w.heap.size) (hl : ll.length + ls.length ≤ 1048576)
    (hK : ∀ v' w', OwnR w' B v' (ll ++ ls) → w.grownBy w' v.ownBlock → wpList Try.prog ops Q rest (a.put o.dst v') w') :
    wpList Try.prog ops Q (o :: rest) a w :=
  wpList_plain hgd fun _ hK' => by
    obtain ⟨v', w', hrun, h1, h2⟩ := run_app_rows o.type B v vx ll ls w hown hx2 hB hl
    unfold Oper.wp execOp
    simp only [ho, resolve, invoke, builtin, Sem.run_bind, Sem.run_pure, Result.andThen_ok, List.map_toArray, List.map_cons, List.map_nil, hs, hx, hrun]
    exact hK' _ _ (hK v' w' h1 h2)
theorem OwnR.one {w : World} {B : Nat} (hB : B ≤ w.heap.size) {v : Value} {l : List Int} (hv : Ints w v l) (hf : FreshV B v) : OwnR (w.alloc (.cells #[v] 37)) B (.slice (some ⟨w.heap.size, 0, none⟩) 1 1) [l] :=
  ⟨[v], ⟨rfl, .inr ⟨w.heap.size, 1, #[v], rfl, hB, heap_alloc_new w _, Nat.le_refl _, by decide, rfl, rfl⟩⟩, hv.below ((Below.refl _ w).alloc (Nat.le_refl _) _), hf, trivial⟩
theorem OwnS.one {w : World} {B : Nat} (hB : B ≤ w.heap.size) {n : Int} {u : Value} {ll : List (List Int)} (hu : Rws B w u ll) : OwnS (w.alloc (.cells #[.int .i64 n, u] 33)) B (.slice (some ⟨w.heap.size, 0, none⟩) 1 1) [(n, ll)] :=
  ⟨[u], ⟨rfl, .inr ⟨w.heap.size, 1, #[.int .i64 n, u], rfl, hB, heap_alloc_new w _, Nat.le_refl _, by decide, rfl, rfl⟩⟩, hu.below ((Below.refl _ w).alloc (Nat.le_refl _) _), trivial⟩
/-- a row of integers lies in no row of spaces -/
theorem Ints.grownS {w w' : World} {B : Nat} {u v : Value} {l : List Int} {L : List Sp} (h : Ints w u l) (ho : OwnS w B v L) (hg : w.grownBy w' v.ownBlock) : Ints w' u l := by
  obtain ⟨us, h1, _⟩ := ho
  refine h.keep fun k hku => ?_
  obtain ⟨a', cap', rfl, _, _, rfl | ⟨g2, off2, cur2, rfl, hg2, _, _⟩⟩ := h
  · cases a' <;> simp [blk] at hku
  · have hgk : g2 = k := by
      cases l with
      | nil => simp [blk] at hku
      | cons y l => simpa [blk] using hku
    subst hgk
    refine hg.block g2 (Array.getElem?_eq_some_iff.1 hg2).1 (fun e => ?_)
    rcases h1.2 with ⟨rfl, _⟩ | ⟨g, cap, cur', rfl, _, hh, _⟩
    · simp [Value.ownBlock] at e
    · have : g2 = g := by simpa [Value.ownBlock] using e
      subst this
      rw [hg2] at hh
      simp at hh
theorem OwnS.other {w w' : World} {B B2 : Nat} {u v : Value} {L R : List Sp} (h : OwnS w B2 u R) (ho : OwnS w B v L) (hg : w.grownBy w' v.ownBlock) (hne : ∀ g, u.ownBlock = some g → v.ownBlock ≠ some g) : OwnS w' B2 u R := by
  obtain ⟨us, h1, h2⟩ := h
  obtain ⟨vs, h3, _⟩ := ho
  exact ⟨us, World.ownsRow.kept h1 hg (by
    cases e : u.ownBlock with
    | none => exact .inl rfl
    | some g => exact .inr fun e2 => hne g e e2.symm), h2.keep fun _ _ hr => hr.grownS h3 hg⟩
/-- the loops of l5List: the result under way, and the bases of one vector less -/
def LI (w : World) (B0 H : Nat) (s rest : Value) (L R : List Sp) (wr : World) : Prop :=
  OwnS wr B0 s L ∧ (∀ g, s.ownBlock = some g → g = B0 ∨ H ≤ g) ∧ OwnS wr (B0 + 1) rest R ∧ (∀ g, rest.ownBlock = some g → g < H) ∧ Below w.heap.size w wr ∧ H ≤ wr.heap.size ∧ w.heap.size ≤ B0 ∧ B0 < H
theorem LI.below {w : World} {B0 H : Nat} {s rest : Value} {L R : List Sp} {wr w' : World} (h : LI w B0 H s rest L R wr) (b : Below wr.heap.size wr w') : LI w B0 H s rest L R w' := by
  obtain ⟨h1, h2, h3, h4, h5, h6, h7, h8⟩ := h
  exact ⟨h1.below b, h2, h3.below b, h4, h5.trans (b.mono (by omega)), by have := b.size; omega, h7, h8⟩
theorem LI.app {w : World} {B0 H : Nat} {s s' rest u : Value} {L R : List Sp} {x : Sp} {n : Int} {wr w' : World} (h : LI w B0 H s rest L R wr) (ho : OwnS w' B0 s' (L ++ [x])) (hg : (wr.alloc (.cells #[.int .i64 n, u] 33)).grownBy w' s.ownBlock)
    (hl : s'.ownBlock = s.ownBlock ∨ s'.ownBlock = some (wr.heap.size + 1)) : LI w B0 H s' rest (L ++ [x]) R w' := by
  have hal : Below wr.heap.size wr (wr.alloc (.cells #[.int .i64 n, u] 33)) := (Below.refl _ wr).alloc (Nat.le_refl _) _
  obtain ⟨h1, h2, h3, h4, h5, h6, h7, h8⟩ := h
  have hlt := h3.ownLt
  have hs := hg.size
  rw [World.size_alloc] at hs
  refine ⟨ho, fun g e => ?_, (h3.below hal).other (h1.below hal) hg (fun g e e2 => ?_), h4, ?_, by omega, h7, h8⟩
  · rcases hl with hl | hl
    · exact h2 g (hl.symm.trans e)
    · rw [hl] at e; simp at e; omega
  · have := h4 g e; have := (hlt g e).1
    rcases h2 g e2 with h | h <;> omega
  · refine (h5.alloc h5.size _).grown hg (by rw [World.size_alloc]; omega) (fun k hk => ?_)
    have := (h1.ownLt k hk).1
    omega
end Go.Proofs.Ytjcgommdeplbbaa
