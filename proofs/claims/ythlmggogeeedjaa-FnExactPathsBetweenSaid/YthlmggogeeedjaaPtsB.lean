/- Slices of paths: a first path, an arrow laid ahead of a path's arrows; bounds of the list of all paths. -/
import Derived.Test.YthlmggogeeedjaaPts
import Derived.Test.YthlmggogeeedjaaAppA
namespace Go.Proofs.Ythlmggogeeedjaa
open Go.RowKit
set_option linter.unusedVariables false
set_option linter.unusedSimpArgs false

/-- new paths -/
def PtsNew (L : List Pt) (w : World) (e : Ending) (w' : World) : Prop := ∃ v, e = .returned v ∧ OwnP w' w.heap.size v L ∧ Below w.heap.size w w'
theorem PtsNew.of_eq {L L' : List Pt} {w w' : World} {e : Ending} (h : PtsNew L w e w') (h1 : L = L') : PtsNew L' w e w' := h1 ▸ h
theorem own_none (w : World) (B : Nat) (hB : B ≤ w.heap.size) : Own (w.alloc (.cells #[] 3)) B 3 .i64 (.slice (some ⟨w.heap.size, 0, none⟩) 0 0) [] :=
  World.ownsRow_lit (size := 1) (e := 3) (base := B) w #[] 0 hB (by decide) rfl
theorem OwnP.one (w : World) {B : Nat} (st : Int) {u : Value} {ar : List Int} (hu : Ints w u ar) (hf : FreshV B u) (hB : B ≤ w.heap.size) : OwnP (w.alloc (.cells #[.int .i64 st, u] 42)) B (.slice (some ⟨w.heap.size, 0, none⟩) 1 1) [(st, ar)] :=
  ⟨[u], World.ownsRow_lit (size := 2) (e := 42) (base := B) w #[.int .i64 st, u] 1 hB (by decide) rfl, hu.below ((Below.refl _ w).alloc (Nat.le_refl _) _), hf, trivial⟩
/-- an arrow laid ahead of any arrows -/
theorem app_cons {ops : Array Oper} {rest : List Oper} {o : Oper} {a : Act} {Q : Exit → Act → World → Prop} {c : Int} (w : World) (hgd : o.guard = none) (s x : Operand)
    (ho : o.op = .call { callee := .builtin .append, args := #[s, x], argTypes := #[22, 22] }) (vx : Value) (ls : List Int)
    (hs : a.eval s = .slice (some ⟨w.heap.size, 0, none⟩) 1 1) (hx : a.eval x = vx) (hsrc : Ints w vx ls) (hl : ls.length ≤ 1048576)
    (hK : ∀ v' w', Ints w' v' (c :: ls) → FreshV w.heap.size v' → Below w.heap.size w w' → wpList Try.prog ops Q rest (a.put o.dst v') w') :
    wpList Try.prog ops Q (o :: rest) a (w.alloc (.cells #[.int .i64 c] 3)) :=
  wpList_plain hgd fun _ hK' => by
    have hb1 : Below w.heap.size w (w.alloc (.cells #[.int .i64 c] 3)) := (Below.refl _ w).alloc (Nat.le_refl _) _
    have hown : Own (w.alloc (.cells #[.int .i64 c] 3)) w.heap.size 3 .i64 (.slice (some ⟨w.heap.size, 0, none⟩) 1 1) [c] :=
      World.ownsRow_lit (size := 1) (e := 3) (base := w.heap.size) w #[.int .i64 c] 1 (Nat.le_refl _) (by decide) rfl
    obtain ⟨v', w', hrun, h1, h2, _⟩ := run_app_any2 o.type w.heap.size _ vx [c] ls _ hown (hsrc.below hb1) hb1.size (by simp; omega)
    unfold Oper.wp execOp
    simp only [ho, resolve, invoke, builtin, Sem.run_bind, Sem.run_pure, Result.andThen_ok, List.map_toArray, List.map_cons, List.map_nil, hs, hx, hrun]
    have hI := Ints.of_own h1
    exact hK' _ _ (hK v' w' hI.1 hI.2 (hb1.grown h2 hb1.size (fun k hk => (World.ownsRow.lt hown k hk).1)))
/-- the first j paths of P, each with an arrow ahead -/
def MQ (v i : Int) (P : List (List Int)) (j : Nat) : List Pt := (P.take j).map fun p => (v, i :: p)
theorem MQ_succ {v i : Int} {P : List (List Int)} {j : Nat} (h : j < P.length) : MQ v i P (j + 1) = MQ v i P j ++ [(v, i :: P.getD j [])] := by
  unfold MQ
  rw [List.take_add_one, List.map_append, List.getElem?_eq_getElem h]
  simp [List.getD, h]
theorem MQ_len {v i : Int} {P : List (List Int)} {j : Nat} (h : j ≤ P.length) : (MQ v i P j).length = j := by simp [MQ]; omega
theorem pts_get {u : Int} {P : List (List Int)} {j : Nat} (h : j < P.length) : (P.map fun p => ((u, p) : Pt)).getD j (0, []) = (u, P.getD j []) := by simp [List.getD, h]
/-- all paths from v, as paths -/
def pP (f t : List Int) (d : Nat) (v : Int) : List Pt := (pF f t d v).map fun p => (v, p)
def pPK (f t : List Int) (d : Nat) (v : Int) (k : Nat) : List Pt := (pK f t d v k).map fun p => (v, p)
theorem pP_len (f t : List Int) (d : Nat) (v : Int) : (pP f t d v).length = (pF f t d v).length := by unfold pP; rw [List.length_map]
theorem pPK_zero (f t : List Int) (d : Nat) (v : Int) : pPK f t d v 0 = [(v, [])] := by simp [pPK, pK_zero]
theorem pPK_no {f t : List Int} {d : Nat} {v : Int} {k : Nat} (h : f.getD k 0 ≠ v) : pPK f t d v (k + 1) = pPK f t d v k := by
  unfold pPK; rw [pK_succ, if_neg h, List.append_nil]
theorem pPK_yes {f t : List Int} {d : Nat} {v : Int} {k : Nat} (h : f.getD k 0 = v) : pPK f t d v (k + 1) = pPK f t d v k ++ MQ v k (pF f t d (t.getD k 0)) (pF f t d (t.getD k 0)).length := by
  unfold pPK MQ; rw [pK_succ, if_pos h, List.map_append, List.take_length, List.map_map]; rfl
theorem pPK_all (f t : List Int) (d : Nat) (v : Int) : pPK f t d v f.length = pP f t (d + 1) v := by unfold pPK pP; rw [pK_all]
theorem flat_le (g : Nat → List (List Int)) (m : Nat) (h : ∀ i, (g i).length ≤ m) : ∀ k, ((List.range k).flatMap g).length ≤ k * m := by
  intro k; induction k with
  | zero => simp
  | succ k ih => simp only [List.range_succ, List.flatMap_append, List.length_append, List.flatMap_cons, List.flatMap_nil, List.append_nil]; have := h k; rw [Nat.succ_mul]; omega
theorem pF_len {f t : List Int} (h6 : f.length ≤ 6) : ∀ d v, (pF f t d v).length ≤ 7 ^ d := by
  intro d; induction d with
  | zero => intro v; simp [pF]
  | succ d ih =>
    intro v
    have h := flat_le (fun i => if f.getD i 0 = v then (pF f t d (t.getD i 0)).map ((i : Int) :: ·) else []) (7 ^ d) (fun i => by
      show (if f.getD i 0 = v then (pF f t d (t.getD i 0)).map ((i : Int) :: ·) else []).length ≤ _
      by_cases e : f.getD i 0 = v
      · rw [if_pos e, List.length_map]; exact ih _
      · rw [if_neg e]; exact Nat.zero_le _) f.length
    have hm : f.length * 7 ^ d ≤ 6 * 7 ^ d := Nat.mul_le_mul_right _ h6
    have h1 : 1 ≤ 7 ^ d := Nat.one_le_pow _ _ (by decide)
    unfold pF
    rw [Nat.pow_succ, List.length_cons]
    omega
theorem pow7 {d : Nat} (hd : d ≤ 6) : 7 ^ d ≤ 117649 := Nat.pow_le_pow_right (n := 7) (by decide) hd
theorem pF_small {f t : List Int} {d : Nat} (h6 : f.length ≤ 6) (hd : d ≤ 6) (v : Int) : (pF f t d v).length ≤ 117649 := Nat.le_trans (pF_len h6 d v) (pow7 hd)
theorem pPK_small {f t : List Int} {d k : Nat} (h6 : f.length ≤ 6) (hd : d ≤ 6) (v : Int) (hk : k ≤ 6) : (pPK f t d v k).length ≤ 705895 := by
  unfold pPK pK
  have h := flat_le (fun i => if f.getD i 0 = v then (pF f t d (t.getD i 0)).map ((i : Int) :: ·) else []) 117649 (fun i => by
      show (if f.getD i 0 = v then (pF f t d (t.getD i 0)).map ((i : Int) :: ·) else []).length ≤ _
      by_cases e : f.getD i 0 = v
      · rw [if_pos e, List.length_map]; exact pF_small h6 hd _
      · rw [if_neg e]; exact Nat.zero_le _) k
  rw [List.length_map, List.length_cons]
  omega
theorem pF_arr {f t : List Int} : ∀ d v, ∀ p ∈ pF f t d v, p.length ≤ d := by
  intro d; induction d with
  | zero => intro v p hp; simp [pF] at hp; simp [hp]
  | succ d ih =>
    intro v p hp
    unfold pF at hp
    rw [List.mem_cons, List.mem_flatMap] at hp
    rcases hp with rfl | ⟨i, _, hi⟩
    · simp
    · by_cases e : f.getD i 0 = v
      · rw [if_pos e, List.mem_map] at hi
        obtain ⟨q, hq, rfl⟩ := hi
        have := ih _ _ hq
        simp; omega
      · rw [if_neg e] at hi; cases hi
theorem pF_arrAt {f t : List Int} {d : Nat} {v : Int} {j : Nat} (h : j < (pF f t d v).length) : ((pF f t d v).getD j []).length ≤ d := by
  refine pF_arr (f := f) (t := t) d v _ ?_
  simp [List.getD, h]
theorem isQ_all {N : Nat} {f t : List Int} (h : isQ N f t = true) : (∀ j, j < f.length → 0 ≤ f.getD j 0 ∧ f.getD j 0 < N) ∧ (∀ j, j < t.length → 0 ≤ t.getD j 0 ∧ t.getD j 0 < N) ∧ f.length = t.length ∧ f.length ≤ 6 ∧ 1 ≤ N ∧ N ≤ 5 := by
  unfold isQ at h
  simp only [Bool.and_eq_true, decide_eq_true_eq] at h
  obtain ⟨⟨⟨⟨h1, h2⟩, h3⟩, h4⟩, h5⟩ := h
  obtain ⟨n1, n5⟩ := inR_true h1
  have g : ∀ l : List Int, allR l 0 ((N : Int) - 1) = true → ∀ j, j < l.length → 0 ≤ l.getD j 0 ∧ l.getD j 0 < N := fun l hl j hj => by
    unfold allR at hl
    rw [List.all_eq_true] at hl
    obtain ⟨a, b⟩ := inR_true (hl (l.getD j 0) (by simp [List.getD, hj]))
    omega
  exact ⟨g f h4, g t h5, h2, h3, by omega, by omega⟩
end Go.Proofs.Ythlmggogeeedjaa
