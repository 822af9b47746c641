/- Rows of integers and of bytes that a call makes for itself: append of new elements, make, the text of bytes; each as one law of the walk. -/
import Derived.Test.YthlmggogeeedjaaBase
namespace Go.Proofs.Ythlmggogeeedjaa
open Go.RowKit
set_option linter.unusedVariables false
set_option linter.unusedSimpArgs false

theorem infoInt : (Try.prog.info? 3).map (fun i => (i.zero, i.size, i.bytes)) = some (some (.int .i64 0), 1, 8) := by kernel_rfl
theorem infoByte : (Try.prog.info? 5).map (fun i => (i.zero, i.size, i.bytes)) = some (some (.int .u8 0), 1, 1) := by kernel_rfl

/-- the call owns a slice of numbers of kind k, type e -/
def Own (w : World) (B : Nat) (e : TypeId) (k : IntKind) (v : Value) (l : List Int) : Prop := w.ownsRow B e 1 v l.length (l.map (Value.int k))

theorem Own.alloc {w : World} {B : Nat} {e : TypeId} {k : IntKind} {v : Value} {l : List Int} (h : Own w B e k v l) (o : Obj) : Own (w.alloc o) B e k v l := World.ownsRow.alloc h o
theorem Own.drew {w : World} {B : Nat} {e : TypeId} {k : IntKind} {v : Value} {l : List Int} (h : Own w B e k v l) : Own w.drew B e k v l := h
theorem Own.drewN {w : World} {B : Nat} {e : TypeId} {k : IntKind} {v : Value} {l : List Int} (h : Own w B e k v l) (n : Nat) : Own (w.drewN n) B e k v l := h
theorem Own.nil (w : World) (B : Nat) (e : TypeId) (k : IntKind) : Own w B e k (.slice none 0 0) [] := World.ownsRow_nil w B e 1
theorem Own.made (w : World) {B : Nat} (e : TypeId) (k : IntKind) (hB : B ≤ w.heap.size) : Own (w.alloc (.cells #[] e)) B e k (.slice (some ⟨w.heap.size, 0, none⟩) 0 0) [] :=
  World.ownsRow_made w #[] 0 hB (by decide) rfl
theorem Own.below {w w' : World} {B : Nat} {e : TypeId} {k : IntKind} {v : Value} {l : List Int} (h : Own w B e k v l) (b : Below w.heap.size w w') : Own w' B e k v l := by
  refine World.ownsRow.kept h (row := none) ⟨b.os, b.tape, b.output, b.size, fun i hi _ => b.block i hi⟩ ?_
  cases v.ownBlock <;> simp
theorem Own.at {w : World} {B : Nat} {e : TypeId} {k : IntKind} {a : Option Addr} {n c : Nat} {l : List Int} (h : Own w B e k (.slice a n c) l) :
    n = l.length ∧ n ≤ c ∧ (0 < n → ∃ g, a = some ⟨g, 0, none⟩ ∧ B ≤ g ∧ g < w.heap.size ∧ (∀ i, i < n → w.cell? ⟨g, i, none⟩ = some (.int k (l.getD i 0))) ∧ ∀ i, w.frozen? ⟨g, i, none⟩ = false) := by
  rcases h.2 with ⟨h1, h2⟩ | ⟨g, cap, cur, h1, hb, hg, hnc, hcm, hcs, htake⟩
  · simp only [Value.slice.injEq] at h1; obtain ⟨rfl, rfl, rfl⟩ := h1; exact ⟨by simpa using h2.symm, Nat.le_refl _, fun h => absurd h (by omega)⟩
  · simp only [Value.slice.injEq] at h1; obtain ⟨rfl, rfl, rfl⟩ := h1
    refine ⟨rfl, hnc, fun _ => ⟨g, rfl, hb, (Array.getElem?_eq_some_iff.1 hg).1, fun i hi => ?_, fun i => frozen_of_row w g i cur _ hg⟩⟩
    rw [cell_of_row w g _ cur _ _ hg]
    have h1 : (cur.toList.take (l.length * 1))[i]? = (l.map (Value.int k))[i]? := by rw [htake]
    rw [List.getElem?_take, if_pos (by simpa using hi)] at h1
    rw [← Array.getElem?_toList, h1]
    simp [hi]
theorem Own.store {w : World} {B : Nat} {e : TypeId} {k : IntKind} {g n c : Nat} {l : List Int} (h : Own w B e k (.slice (some ⟨g, 0, none⟩) n c) l) (j : Nat) (x : Int) :
    Own (w.setCell ⟨g, j, none⟩ (.int k x)) B e k (.slice (some ⟨g, 0, none⟩) n c) (l.set j x) := by
  have hn := (Own.at h).1
  subst hn
  have := (World.ownsRow.stored h j (.int k x)).1
  unfold Own
  rw [List.map_set, List.length_set]
  exact this
theorem Own.lt {w : World} {B : Nat} {e : TypeId} {k : IntKind} {v : Value} {l : List Int} (h : Own w B e k v l) : ∀ g, v.ownBlock = some g → B ≤ g ∧ g < w.heap.size := World.ownsRow.lt h

/-- one more place of a row is filled -/
theorem set_fill (F : List Int) (N k : Nat) (hF : F.length = N) (hk : k < N) (x : Int) (hx : F.getD k 0 = x) :
    (F.take k ++ List.replicate (N - k) 0).set k x = F.take (k + 1) ++ List.replicate (N - (k + 1)) 0 := by
  have e1 : N - k = (N - (k + 1)) + 1 := by omega
  have e2 : (F.take k).length = k := by rw [List.length_take]; omega
  have e3 : F.take (k + 1) = F.take k ++ [x] := by
    rw [List.take_succ_eq_append_getElem (by omega)]
    congr 2
    rw [← hx]; simp [List.getD, List.getElem?_eq_getElem (show k < F.length by omega)]
  rw [e1, List.replicate_succ, List.set_append_right _ _ (by omega), e2, Nat.sub_self, List.set_cons_zero, e3, List.append_assoc]
  rfl
theorem fill_done (F : List Int) (N : Nat) (hF : F.length = N) : F.take N ++ List.replicate (N - N) 0 = F := by
  rw [Nat.sub_self]; simp [← hF]

theorem news_cells (w : World) (e : TypeId) (cs : List Value) : ∀ j u, cs[j]? = some u → (w.alloc (.cells cs.toArray e)).cell? ((⟨w.heap.size, 0, none⟩ : Addr).add j) = some u := by
  intro j u h
  have e1 : (⟨w.heap.size, 0, none⟩ : Addr).add j = ⟨w.heap.size, j, none⟩ := by unfold Addr.add; split <;> simp_all
  rw [e1, World.cell?_alloc_at _ _ _ _ rfl]
  simpa using h

/-- the same: integers -/
theorem app_ints {ops : Array Oper} {rest : List Oper} {o : Oper} {a : Act} {Q : Exit → Act → World → Prop} (w0 w : World) (hgd : o.guard = none) (s x : Operand)
    (ho : o.op = .call { callee := .builtin .append, args := #[s, x], argTypes := #[22, 22] }) (B : Nat) (v : Value) (l news : List Int) (m : Nat) (hm : news.length = m)
    (hs : a.eval s = v) (hx : a.eval x = .slice (some ⟨w.heap.size, 0, none⟩) m m) (hown : Own w B 3 .i64 v l) (hbel : Below B w0 w) (hB : B ≤ w.heap.size) (hl : l.length + m ≤ 17592186044416)
    (hK : ∀ v' w', Own w' B 3 .i64 v' (l ++ news) → Below B w0 w' → B ≤ w'.heap.size → wpList Try.prog ops Q rest (a.put o.dst v') w') :
    wpList Try.prog ops Q (o :: rest) a (w.alloc (.cells (news.map (Value.int .i64)).toArray 3)) := by
  obtain ⟨i, hi, h0, h1, h2⟩ := info_parts infoInt
  refine wpList_append_own _ hgd s x 22 ho B 3 i (.int .i64 0) 1 8 Try.underlying22 hi h0 h1 h2 rfl (by decide) v l.length (l.map (Value.int .i64)) hs (World.ownsRow.alloc hown _)
    ⟨w.heap.size, 0, none⟩ m m (news.map (Value.int .i64)) hx (by simp [hm]) (news_cells w _ _) (ints_oneCell _ _) (by unfold maxLen; omega) (by omega) (by simp; omega) ?_
  intro v' w' ho' hg _
  have hb : Below B w0 w' := (hbel.alloc hB _).grown hg (by simp; omega) (fun k hk => (World.ownsRow.lt hown k hk).1)
  refine hK v' w' ?_ hb ?_
  · unfold Own; simpa [hm] using ho'
  · have := hg.size; simp at this; omega

/-- one new element -/
theorem app_int {ops : Array Oper} {rest : List Oper} {o : Oper} {a : Act} {Q : Exit → Act → World → Prop} {c : Int} (w0 w : World) (hgd : o.guard = none) (s x : Operand)
    (ho : o.op = .call { callee := .builtin .append, args := #[s, x], argTypes := #[22, 22] }) (B : Nat) (v : Value) (l : List Int)
    (hs : a.eval s = v) (hx : a.eval x = .slice (some ⟨w.heap.size, 0, none⟩) 1 1) (hown : Own w B 3 .i64 v l) (hbel : Below B w0 w) (hB : B ≤ w.heap.size) (hl : l.length + 1 ≤ 17592186044416)
    (hK : ∀ v' w', Own w' B 3 .i64 v' (l ++ [c]) → Below B w0 w' → B ≤ w'.heap.size → wpList Try.prog ops Q rest (a.put o.dst v') w') :
    wpList Try.prog ops Q (o :: rest) a (w.alloc (.cells #[.int .i64 c] 3)) :=
  app_ints w0 w hgd s x ho B v l [c] 1 rfl hs hx hown hbel hB hl hK
/-- make of n zeros -/
theorem mk_ints {ops : Array Oper} {rest : List Oper} {o : Oper} {a : Act} {Q : Exit → Act → World → Prop} (w0 w : World) (hgd : o.guard = none) (l c : Operand) (ho : o.op = Op.makeSlice 22 l c)
    (B n : Nat) (hl : a.eval l = .int .i64 n) (hc : a.eval c = .int .i64 n) (hbel : Below B w0 w) (hB : B ≤ w.heap.size) (hn : n ≤ 17592186044416)
    (hK : ∀ w', Own w' B 3 .i64 (.slice (some ⟨w.heap.size, 0, none⟩) n n) (List.replicate n 0) → Below B w0 w' → B ≤ w'.heap.size → wpList Try.prog ops Q rest (a.put o.dst (.slice (some ⟨w.heap.size, 0, none⟩) n n)) w') :
    wpList Try.prog ops Q (o :: rest) a w := by
  obtain ⟨i, hi, h0, h1, h2⟩ := info_parts infoInt
  refine wpList_make_full w hgd l c 22 ho B 3 i (.int .i64 0) 1 Try.underlying22 hi h0 h1 .i64 .i64 n n n hl hc rfl rfl (by rw [h2]; omega) (by unfold maxLen; omega) hB ?_
  intro w' ho' hg
  refine hK w' ?_ (hbel.grown hg hB (fun k hk => by cases hk)) (by have := hg.size; omega)
  unfold Own
  simp only [Nat.mul_one] at ho'
  rw [show (Value.int .i64 0).cells = #[.int .i64 0] from rfl, toList_madeCells_one] at ho'
  simpa using ho'

/-- the block of n zeros that make lays -/
def zerosArr (n : Nat) : Array Value := madeCells #[.int .i64 0] n
theorem run_make_ints (n : Nat) (hn : n ≤ 17592186044416) (w : World) : (Instr.makeSlice 22 (.int .i64 n) (.int .i64 n)).run Try.prog w =
    .ok (.slice (some ⟨w.heap.size, 0, none⟩) n n) (w.alloc (.cells (zerosArr n) 3)) := by
  obtain ⟨i, hi, h0, h1, h2⟩ := info_parts infoInt
  have h := run_make (P := Try.prog) w 22 3 i (.int .i64 0) Try.underlying22 hi h0 .i64 .i64 n n (by omega) (Int.le_refl _) (by rw [h2]; omega) (by omega)
  rw [h1] at h
  simpa [zerosArr, Value.cells] using h
theorem own_zeros (w : World) (B n : Nat) (hB : B ≤ w.heap.size) (hn : n ≤ 17592186044416) : Own (w.alloc (.cells (zerosArr n) 3)) B 3 .i64 (.slice (some ⟨w.heap.size, 0, none⟩) n n) (List.replicate n 0) := by
  have h := World.ownsRow_lit (size := 1) (e := 3) (base := B) w (zerosArr n) n hB (by unfold maxLen; omega) (by simp [zerosArr, size_madeCells])
  have e : (zerosArr n).toList = (List.replicate n 0).map (Value.int .i64) := by unfold zerosArr; rw [toList_madeCells_one]; simp
  unfold Own
  rw [e] at h
  simpa using h

end Go.Proofs.Ythlmggogeeedjaa
