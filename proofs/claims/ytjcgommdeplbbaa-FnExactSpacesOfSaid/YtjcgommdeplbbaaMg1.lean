/- Plain words shared by all texts of this seat: the field test, and small facts on numbers and endings. No program is read here. Rows of integers and of bytes that a call makes for itself: append of new elements, make, the text of bytes; each as one law of the walk. Slices of integers in memory: a slice value that reads as a list, what keeps it so, and what a call may change. No function of the program is walked here. What IsField, ReduceMod and the tests of a range return, of the program and of the reference. The tests of a range, of the program and of the reference. -/
import Derived.Test.YtjcgommdeplbbaaRows
import Derived.WalkKit
import Derived.WalkSpells
import Derived.WalkLawsBesides
import Derived.Lib.Hide
namespace Go.Proofs.Ytjcgommdeplbbaa
open Go.RowKit
set_option linter.unusedVariables false
set_option linter.unusedSimpArgs false

/-- the primes of the program -/
def isF (p : Int) : Bool := p == 2 || p == 3 || p == 5

theorem isF_cases {p : Int} (h : isF p = true) : p = 2 ∨ p = 3 ∨ p = 5 := by
  unfold isF at h; simp at h; omega
theorem isF_not {p : Int} (h : isF p = false) : p ≠ 2 ∧ p ≠ 3 ∧ p ≠ 5 := by
  unfold isF at h; simp at h; omega

/-- a number lies in a range -/
def inR (n lo hi : Int) : Bool := decide (lo ≤ n) && decide (n ≤ hi)
theorem inR_true {n lo hi : Int} (h : inR n lo hi = true) : lo ≤ n ∧ n ≤ hi := by
  unfold inR at h; simpa using h
theorem inR_false {n lo hi : Int} (h : inR n lo hi = false) : n < lo ∨ hi < n := by
  unfold inR at h; simp at h; omega
theorem inR_mk {n lo hi : Int} (h : lo ≤ n) (h' : n ≤ hi) : inR n lo hi = true := by
  unfold inR; simp; omega
theorem inR_lo {n lo hi : Int} (h : n < lo) : inR n lo hi = false := by
  unfold inR; simp; omega
theorem inR_hi {n lo hi : Int} (h : hi < n) : inR n lo hi = false := by
  unfold inR; simp; omega

theorem ret_int {k : IntKind} {a b : Int} (h : a = b) : Ending.returned (.int k a) = .returned (.int k b) := by rw [h]
theorem ret_bool {a b : Bool} (h : a = b) : Ending.returned (.bool a) = .returned (.bool b) := by rw [h]

theorem ofInt_i64 (a : Nat) (ha : a < 9223372036854775808) : (BitVec.ofInt 64 (a : Int)).toNat = a := by
  rw [BitVec.ofInt_natCast, BitVec.toNat_ofNat]; exact Nat.mod_eq_of_lt (by omega)
theorem i64_or_nat (a b : Nat) (ha : a < 9223372036854775808) (hb : b < 9223372036854775808) : bits .or .i64 (a : Int) (b : Int) = ((a ||| b : Nat) : Int) := by
  have hx : a ||| b < 2 ^ 63 := Nat.or_lt_two_pow (by omega) (by omega)
  show IntKind.i64.wrap ((BitVec.ofInt 64 (a : Int) ||| BitVec.ofInt 64 (b : Int)).toNat : Int) = _
  rw [BitVec.toNat_or, ofInt_i64 a ha, ofInt_i64 b hb, IntKind.wrap_i64]
  omega
theorem i64_and_nat (a b : Nat) (ha : a < 9223372036854775808) (hb : b < 9223372036854775808) : bits .and .i64 (a : Int) (b : Int) = ((a &&& b : Nat) : Int) := by
  have hx : a &&& b < 2 ^ 63 := Nat.and_lt_two_pow _ (by omega)
  show IntKind.i64.wrap ((BitVec.ofInt 64 (a : Int) &&& BitVec.ofInt 64 (b : Int)).toNat : Int) = _
  rw [BitVec.toNat_and, ofInt_i64 a ha, ofInt_i64 b hb, IntKind.wrap_i64]
  omega

theorem ret_str {a b : ByteArray} (h : a = b) : Ending.returned (.string a) = .returned (.string b) := by rw [h]
theorem below_call {B : Nat} {a b c : World} (h : Below B a b) (k : Below b.heap.size b c) (hB : B ≤ b.heap.size) : Below B a c :=
  h.trans (k.mono hB)

def IntAns (r : Int) (w : World) (e : Ending) (w' : World) : Prop := e = .returned (.int .i64 r) ∧ w = w'

end Go.Proofs.Ytjcgommdeplbbaa

namespace Go.Proofs.Ytjcgommdeplbbaa
open Go.RowKit
set_option linter.unusedVariables false
set_option linter.unusedSimpArgs false

theorem infoInt : (Try.prog.info? 3).map (fun i => (i.zero, i.size, i.bytes)) = some (some (.int .i64 0), 1, 8) := by kernel_rfl
theorem infoByte : (Try.prog.info? 5).map (fun i => (i.zero, i.size, i.bytes)) = some (some (.int .u8 0), 1, 1) := by kernel_rfl

/-- the call owns a slice of numbers of kind k, type e -/
def Own (w : World) (B : Nat) (e : TypeId) (k : IntKind) (v : Value) (l : List Int) : Prop := w.ownsRow B e 1 v l.length (l.map (Value.int k))

theorem Own.alloc {w : World} {B : Nat} {e : TypeId} {k : IntKind} {v : Value} {l : List Int} (h : Own w B e k v l) (o : Obj) : Own (w.alloc o) B e k v l := World.ownsRow.alloc h o
theorem Own.drew {w : World} {B : Nat} {e : TypeId} {k : IntKind} {v : Value} {l : List Int} (h : Own w B e k v l) : Own w.drew B e k v l := h
theorem Own.drewN {w : World} {B : Nat} {e : TypeId} {k : IntKind} {v : Value} {l : List Int} (h : Own w B e k v l) (n : Nat) : Own (w.drewN n) B e k v l := h
theorem Own.nil (w : World) (B : Nat) (e : TypeId) (k : IntKind) : Own w B e k (.slice none 0 0) [] := World.ownsRow_nil w B e 1
theorem Own.made (w : World) {B : Nat} (e : TypeId) (k : IntKind) (hB : B ≤ w.heap.size) : Own (w.alloc (.cells #[] e)) B e k (.slice (some ⟨w.heap.size, 0, none⟩) 0 0) [] :=
  World.ownsRow_made w #[] 0 hB (by decide) rfl
theorem Own.below {w w' : World} {B : Nat} {e : TypeId} {k : IntKind} {v : Value} {l : List Int} (h : Own w B e k v l) (b : Below w.heap.size w w') : Own w' B e k v l := by
  refine World.ownsRow.kept h (row := none) ⟨b.os, b.tape, b.output, b.size, fun i hi _ => b.block i hi⟩ ?_
  cases v.ownBlock <;> simp
theorem Own.at {w : World} {B : Nat} {e : TypeId} {k : IntKind} {a : Option Addr} {n c : Nat} {l : List Int} (h : Own w B e k (.slice a n c) l) :
    n = l.length ∧ n ≤ c ∧ (0 < n → ∃ g, a = some ⟨g, 0, none⟩ ∧ B ≤ g ∧ g < w.heap.size ∧ (∀ i, i < n → w.cell? ⟨g, i, none⟩ = some (.int k (l.getD i 0))) ∧ ∀ i, w.frozen? ⟨g, i, none⟩ = false) := by
  rcases h.2 with ⟨h1, h2⟩ | ⟨g, cap, cur, h1, hb, hg, hnc, hcm, hcs, htake⟩
  · simp only [Value.slice.injEq] at h1; obtain ⟨rfl, rfl, rfl⟩ := h1; exact ⟨by simpa using h2.symm, Nat.le_refl _, fun h => absurd h (by omega)⟩
  · simp only [Value.slice.injEq] at h1; obtain ⟨rfl, rfl, rfl⟩ := h1
    refine ⟨rfl, hnc, fun _ => ⟨g, rfl, hb, (Array.getElem?_eq_some_iff.1 hg).1, fun i hi => ?_, fun i => frozen_of_row w g i cur _ hg⟩⟩
    rw [cell_of_row w g _ cur _ _ hg]
    have h1 : (cur.toList.take (l.length * 1))[i]? = (l.map (Value.int k))[i]? := by rw [htake]
    rw [List.getElem?_take, if_pos (by simpa using hi)] at h1
    rw [← Array.getElem?_toList, h1]
    simp [hi]
theorem Own.store {w : World} {B : Nat} {e : TypeId} {k : IntKind} {g n c : Nat} {l : List Int} (h : Own w B e k (.slice (some ⟨g, 0, none⟩) n c) l) (j : Nat) (x : Int) :
    Own (w.setCell ⟨g, j, none⟩ (.int k x)) B e k (.slice (some ⟨g, 0, none⟩) n c) (l.set j x) := by
  have hn := (Own.at h).1
  subst hn
  have := (World.ownsRow.stored h j (.int k x)).1
  unfold Own
  rw [List.map_set, List.length_set]
  exact this
theorem Own.lt {w : World} {B : Nat} {e : TypeId} {k : IntKind} {v : Value} {l : List Int} (h : Own w B e k v l) : ∀ g, v.ownBlock = some g → B ≤ g ∧ g < w.heap.size := World.ownsRow.lt h

/-- one more place of a row is filled -/
theorem set_fill (F : List Int) (N k : Nat) (hF : F.length = N) (hk : k < N) (x : Int) (hx : F.getD k 0 = x) :
    (F.take k ++ List.replicate (N - k) 0).set k x = F.take (k + 1) ++ List.replicate (N - (k + 1)) 0 := by
  have e1 : N - k = (N - (k + 1)) + 1 := by omega
  have e2 : (F.take k).length = k := by rw [List.length_take]; omega
  have e3 : F.take (k + 1) = F.take k ++ [x] := by
    rw [List.take_succ_eq_append_getElem (by omega)]
    congr 2
    rw [← hx]; simp [List.getD, List.getElem?_eq_getElem (show k < F.length by omega)]
  rw [e1, List.replicate_succ, List.set_append_right _ _ (by omega), e2, Nat.sub_self, List.set_cons_zero, e3, List.append_assoc]
  rfl
theorem fill_done (F : List Int) (N : Nat) (hF : F.length = N) : F.take N ++ List.replicate (N - N) 0 = F := by
  rw [Nat.sub_self]; simp [← hF]

theorem news_cells (w : World) (e : TypeId) (cs : List Value) : ∀ j u, cs[j]? = some u → (w.alloc (.cells cs.toArray e)).cell? ((⟨w.heap.size, 0, none⟩ : Addr).add j) = some u := by
  intro j u h
  have e1 : (⟨w.heap.size, 0, none⟩ : Addr).add j = ⟨w.heap.size, j, none⟩ := by unfold Addr.add; split <;> simp_all
  rw [e1, World.cell?_alloc_at _ _ _ _ rfl]
  simpa using h

/-- the same: integers -/
theorem app_ints {ops : Array Oper} {rest : List Oper} {o : Oper} {a : Act} {Q : Exit → Act → World → Prop} (w0 w : World) (hgd : o.guard = none) (s x : Operand)
    (ho : o.op = .call { callee := .builtin .append, args := #[s, x], argTypes := #[37, 37] }) (B : Nat) (v : Value) (l news : List Int) (m : Nat) (hm : news.length = m)
    (hs : a.eval s = v) (hx : a.eval x = .slice (some ⟨w.heap.size, 0, none⟩) m m) (hown : Own w B 3 .i64 v l) (hbel : Below B w0 w) (hB : B ≤ w.heap.size) (hl : l.length + m ≤ 17592186044416)
    (hK : ∀ v' w', Own w' B 3 .i64 v' (l ++ news) → Below B w0 w' → B ≤ w'.heap.size → wpList Try.prog ops Q rest (a.put o.dst v') w') :
    wpList Try.prog ops Q (o :: rest) a (w.alloc (.cells (news.map (Value.int .i64)).toArray 3)) := by
  obtain ⟨i, hi, h0, h1, h2⟩ := info_parts infoInt
  refine wpList_append_own _ hgd s x 37 ho B 3 i (.int .i64 0) 1 8 Try.underlying37 hi h0 h1 h2 rfl (by decide) v l.length (l.map (Value.int .i64)) hs (World.ownsRow.alloc hown _)
    ⟨w.heap.size, 0, none⟩ m m (news.map (Value.int .i64)) hx (by simp [hm]) (news_cells w _ _) (ints_oneCell _ _) (by unfold maxLen; omega) (by omega) (by simp; omega) ?_
  intro v' w' ho' hg _
  have hb : Below B w0 w' := (hbel.alloc hB _).grown hg (by simp; omega) (fun k hk => (World.ownsRow.lt hown k hk).1)
  refine hK v' w' ?_ hb ?_
  · unfold Own; simpa [hm] using ho'
  · have := hg.size; simp at this; omega

/-- one new element -/
theorem app_int {ops : Array Oper} {rest : List Oper} {o : Oper} {a : Act} {Q : Exit → Act → World → Prop} {c : Int} (w0 w : World) (hgd : o.guard = none) (s x : Operand)
    (ho : o.op = .call { callee := .builtin .append, args := #[s, x], argTypes := #[37, 37] }) (B : Nat) (v : Value) (l : List Int)
    (hs : a.eval s = v) (hx : a.eval x = .slice (some ⟨w.heap.size, 0, none⟩) 1 1) (hown : Own w B 3 .i64 v l) (hbel : Below B w0 w) (hB : B ≤ w.heap.size) (hl : l.length + 1 ≤ 17592186044416)
    (hK : ∀ v' w', Own w' B 3 .i64 v' (l ++ [c]) → Below B w0 w' → B ≤ w'.heap.size → wpList Try.prog ops Q rest (a.put o.dst v') w') :
    wpList Try.prog ops Q (o :: rest) a (w.alloc (.cells #[.int .i64 c] 3)) :=
  app_ints w0 w hgd s x ho B v l [c] 1 rfl hs hx hown hbel hB hl hK
/-- make of n zeros -/
theorem mk_ints {ops : Array Oper} {rest : List Oper} {o : Oper} {a : Act} {Q : Exit → Act → World → Prop} (w0 w : World) (hgd : o.guard = none) (l c : Operand) (ho : o.op = Op.makeSlice 37 l c)
    (B n : Nat) (hl : a.eval l = .int .i64 n) (hc : a.eval c = .int .i64 n) (hbel : Below B w0 w) (hB : B ≤ w.heap.size) (hn : n ≤ 17592186044416)
    (hK : ∀ w', Own w' B 3 .i64 (.slice (some ⟨w.heap.size, 0, none⟩) n n) (List.replicate n 0) → Below B w0 w' → B ≤ w'.heap.size → wpList Try.prog ops Q rest (a.put o.dst (.slice (some ⟨w.heap.size, 0, none⟩) n n)) w') :
    wpList Try.prog ops Q (o :: rest) a w := by
  obtain ⟨i, hi, h0, h1, h2⟩ := info_parts infoInt
  refine wpList_make_full w hgd l c 37 ho B 3 i (.int .i64 0) 1 Try.underlying37 hi h0 h1 .i64 .i64 n n n hl hc rfl rfl (by rw [h2]; omega) (by unfold maxLen; omega) hB ?_
  intro w' ho' hg
  refine hK w' ?_ (hbel.grown hg hB (fun k hk => by cases hk)) (by have := hg.size; omega)
  unfold Own
  simp only [Nat.mul_one] at ho'
  rw [show (Value.int .i64 0).cells = #[.int .i64 0] from rfl, toList_madeCells_one] at ho'
  simpa using ho'

/-- the block of n zeros that make lays -/
def zerosArr (n : Nat) : Array Value := madeCells #[.int .i64 0] n
theorem run_make_ints (n : Nat) (hn : n ≤ 17592186044416) (w : World) : (Instr.makeSlice 37 (.int .i64 n) (.int .i64 n)).run Try.prog w =
    .ok (.slice (some ⟨w.heap.size, 0, none⟩) n n) (w.alloc (.cells (zerosArr n) 3)) := by
  obtain ⟨i, hi, h0, h1, h2⟩ := info_parts infoInt
  have h := run_make (P := Try.prog) w 37 3 i (.int .i64 0) Try.underlying37 hi h0 .i64 .i64 n n (by omega) (Int.le_refl _) (by rw [h2]; omega) (by omega)
  rw [h1] at h
  simpa [zerosArr, Value.cells] using h
theorem own_zeros (w : World) (B n : Nat) (hB : B ≤ w.heap.size) (hn : n ≤ 17592186044416) : Own (w.alloc (.cells (zerosArr n) 3)) B 3 .i64 (.slice (some ⟨w.heap.size, 0, none⟩) n n) (List.replicate n 0) := by
  have h := World.ownsRow_lit (size := 1) (e := 3) (base := B) w (zerosArr n) n hB (by unfold maxLen; omega) (by simp [zerosArr, size_madeCells])
  have e : (zerosArr n).toList = (List.replicate n 0).map (Value.int .i64) := by unfold zerosArr; rw [toList_madeCells_one]; simp
  unfold Own
  rw [e] at h
  simpa using h

end Go.Proofs.Ytjcgommdeplbbaa

namespace Go.Proofs.Ytjcgommdeplbbaa
open Go.RowKit
set_option linter.unusedVariables false
set_option linter.unusedSimpArgs false

/-- Outside the blocks X, nothing that was there has turned. -/
structure Chg (X : Nat → Prop) (w w' : World) : Prop where
  os : w'.os = w.os
  tape : w'.tape = w.tape
  output : w'.output = w.output
  size : w.heap.size ≤ w'.heap.size
  block : ∀ k, k < w.heap.size → ¬ X k → w'.heap[k]? = w.heap[k]?

theorem Chg.refl (X : Nat → Prop) (w : World) : Chg X w w := ⟨rfl, rfl, rfl, Nat.le_refl _, fun _ _ _ => rfl⟩
theorem Chg.trans {X : Nat → Prop} {a b c : World} (h : Chg X a b) (k : Chg X b c) : Chg X a c :=
  ⟨k.os.trans h.os, k.tape.trans h.tape, k.output.trans h.output, Nat.le_trans h.size k.size,
   fun i hi hx => (k.block i (Nat.lt_of_lt_of_le hi h.size) hx).trans (h.block i hi hx)⟩
theorem Chg.mono {X Y : Nat → Prop} {a b : World} (h : Chg X a b) (hxy : ∀ k, k < a.heap.size → X k → Y k) : Chg Y a b :=
  ⟨h.os, h.tape, h.output, h.size, fun i hi hy => h.block i hi (fun hx => hy (hxy i hi hx))⟩
theorem Chg.below {X : Nat → Prop} {a b : World} {B : Nat} (h : Chg X a b) (hB : B ≤ a.heap.size) (hx : ∀ k, X k → B ≤ k) : Below B a b :=
  ⟨h.os, h.tape, h.output, h.size, fun k hk => h.block k (by omega) (fun e => by have := hx k e; omega)⟩
theorem Chg.of_below {X : Nat → Prop} {a b : World} (h : Below a.heap.size a b) : Chg X a b :=
  ⟨h.os, h.tape, h.output, h.size, fun k hk _ => h.block k hk⟩
theorem Chg.setCell {X : Nat → Prop} {a b : World} (h : Chg X a b) {p : Addr} (hp : X p.block) (u : Value) : Chg X a (b.setCell p u) :=
  h.trans ⟨rfl, rfl, rfl, by simp [World.setCell], fun k _ hX => Below.heap_setCell _ _ _ _ (fun e => hX (e ▸ hp))⟩

theorem below_chg {X : Nat → Prop} {B : Nat} {a b c : World} (h : Below B a b) (k : Chg X b c) (hB : B ≤ b.heap.size) (hx : ∀ k, X k → B ≤ k) : Below B a c :=
  h.trans (k.below hB hx)

/-- the block that a slice value with elements leads to -/
def blk : Value → Option Nat
  | .slice (some a) (_ + 1) _ => some a.block
  | _ => none
/-- a slice whose elements lie in blocks from B on -/
def FreshV (B : Nat) (v : Value) : Prop := ∀ k, blk v = some k → B ≤ k
theorem FreshV.mono {B B' : Nat} {v : Value} (h : FreshV B v) (hB : B' ≤ B) : FreshV B' v := fun k hk => Nat.le_trans hB (h k hk)
theorem FreshV.nil (B : Nat) : FreshV B (.slice none 0 0) := fun k hk => by simp [blk] at hk

/-- The slice value v reads as the integers l: it has no element, or it leads into a block of integers that nobody has frozen. -/
def Ints (w : World) (v : Value) (l : List Int) : Prop :=
  ∃ a cap, v = .slice a l.length cap ∧ l.length ≤ cap ∧ cap ≤ maxLen ∧
    (l = [] ∨ ∃ g off cur, a = some ⟨g, off, none⟩ ∧ w.heap[g]? = some (.cells cur 3 (0, 0)) ∧ off + l.length ≤ cur.size ∧ ∀ i, i < l.length → cur[off + i]? = some (.int .i64 (l.getD i 0)))

theorem Ints.nil (w : World) : Ints w (.slice none 0 0) [] := ⟨none, 0, rfl, Nat.le_refl _, by decide, .inl rfl⟩

theorem Ints.lt {w : World} {v : Value} {l : List Int} (h : Ints w v l) : ∀ k, blk v = some k → k < w.heap.size := by
  obtain ⟨a, cap, rfl, _, _, rfl | ⟨g, off, cur, rfl, hg, _⟩⟩ := h <;> intro k hk
  · cases a <;> simp [blk] at hk
  · cases l with
    | nil => simp [blk] at hk
    | cons x l => simp [blk] at hk; subst hk; exact (Array.getElem?_eq_some_iff.1 hg).1

theorem Ints.keep {w w' : World} {v : Value} {l : List Int} (h : Ints w v l) (hk : ∀ k, blk v = some k → w'.heap[k]? = w.heap[k]?) : Ints w' v l := by
  obtain ⟨a, cap, rfl, h1, h2, rfl | ⟨g, off, cur, rfl, hg, h3⟩⟩ := h
  · exact ⟨_, cap, rfl, h1, h2, .inl rfl⟩
  · cases l with
    | nil => exact ⟨_, cap, rfl, h1, h2, .inl rfl⟩
    | cons x l => exact ⟨_, cap, rfl, h1, h2, .inr ⟨g, off, cur, rfl, by rw [hk g rfl]; exact hg, h3⟩⟩

theorem Ints.chg {X : Nat → Prop} {w w' : World} {v : Value} {l : List Int} (h : Ints w v l) (c : Chg X w w') (hx : ∀ k, blk v = some k → ¬ X k) : Ints w' v l :=
  h.keep fun k hk => c.block k (h.lt k hk) (hx k hk)
theorem Ints.below {w w' : World} {v : Value} {l : List Int} (h : Ints w v l) (c : Below w.heap.size w w') : Ints w' v l :=
  h.keep fun k hk => c.block k (h.lt k hk)
theorem Ints.belowB {B : Nat} {w w' : World} {v : Value} {l : List Int} (h : Ints w v l) (c : Below B w w') (hB : ∀ k, blk v = some k → k < B) : Ints w' v l :=
  h.keep fun k hk => c.block k (hB k hk)

/-- its shape, for the walk -/
theorem Ints.shape {w : World} {v : Value} {l : List Int} (h : Ints w v l) : ∃ a cap, v = .slice a l.length cap ∧ l.length ≤ cap ∧ cap ≤ 9223372036854775807 := by
  obtain ⟨a, cap, rfl, h1, h2, _⟩ := h
  exact ⟨a, cap, rfl, h1, by simpa [maxLen] using h2⟩
/-- a cell, in the walk's words -/
theorem Ints.cell {w : World} {a : Option Addr} {n cap : Nat} {l : List Int} (h : Ints w (.slice a n cap) l) {i : Nat} (hi : i < l.length) :
    ∃ g off, a = some ⟨g, off, none⟩ ∧ g < w.heap.size ∧ w.cell? ⟨g, off + i, none⟩ = some (.int .i64 (l.getD i 0)) ∧ w.frozen? ⟨g, off + i, none⟩ = false := by
  obtain ⟨a', cap', e, h1, h2, h3⟩ := h
  simp only [Value.slice.injEq] at e
  obtain ⟨rfl, rfl, rfl⟩ := e
  rcases h3 with rfl | ⟨g, off, cur, rfl, hg, hs, hc⟩
  · simp at hi
  · exact ⟨g, off, rfl, (Array.getElem?_eq_some_iff.1 hg).1, by rw [cell_of_row w g _ cur _ _ hg]; exact hc i hi, frozen_of_row w g _ cur _ hg⟩
/-- one cell is written -/
theorem Ints.set {w : World} {g off n cap : Nat} {l : List Int} (h : Ints w (.slice (some ⟨g, off, none⟩) n cap) l) {i : Nat} (hi : i < l.length) (x : Int) :
    Ints (w.setCell ⟨g, off + i, none⟩ (.int .i64 x)) (.slice (some ⟨g, off, none⟩) n cap) (l.set i x) ∧ blk (.slice (some ⟨g, off, none⟩) n cap) = some g := by
  obtain ⟨a', cap', e, h1, h2, h3⟩ := h
  simp only [Value.slice.injEq] at e
  obtain ⟨e1, rfl, rfl⟩ := e
  rcases h3 with rfl | ⟨g', off', cur, e2, hg, hs, hc⟩
  · simp at hi
  · subst e1
    simp only [Option.some.injEq, Addr.mk.injEq, and_true] at e2
    obtain ⟨rfl, rfl⟩ := e2
    refine ⟨⟨_, cap, by rw [List.length_set], by simpa using h1, h2, .inr ⟨g, off, cur.setIfInBounds (off + i) (.int .i64 x), rfl, heap_setCell_same w g _ cur _ _ hg, by simpa using hs, fun j hj => ?_⟩⟩, ?_⟩
    · rw [List.length_set] at hj
      rw [Array.getElem?_setIfInBounds]
      by_cases hij : i = j
      · subst hij
        rw [if_pos rfl, if_pos (by omega)]
        simp [List.getD, hj]
      · rw [if_neg (by omega), hc j hj]
        simp [List.getD, hij]
    · cases l with
      | nil => simp at hi
      | cons x l => rfl

theorem Ints.of_own {w : World} {B : Nat} {v : Value} {l : List Int} (h : Own w B 3 .i64 v l) : Ints w v l ∧ FreshV B v := by
  obtain ⟨hl, h2⟩ := h
  rcases h2 with ⟨rfl, h0⟩ | ⟨g, cap, cur, rfl, hb, hg, hnc, hcm, hcs, htake⟩
  · have : l = [] := List.length_eq_zero_iff.1 h0
    subst this
    exact ⟨Ints.nil w, FreshV.nil B⟩
  · refine ⟨⟨_, cap, rfl, hnc, hcm, .inr ⟨g, 0, cur, rfl, hg, by omega, fun i hi => ?_⟩⟩, fun k hk => ?_⟩
    · have h1 : (cur.toList.take (l.length * 1))[i]? = (l.map (Value.int .i64))[i]? := by rw [htake]
      rw [List.getElem?_take, if_pos (by simpa using hi)] at h1
      simp only [Nat.zero_add]
      rw [← Array.getElem?_toList, h1]
      simp [hi]
    · cases l with
      | nil => simp [blk] at hk
      | cons x l => simp [blk] at hk; omega

def IntAnsC (r : Int) (w : World) (e : Ending) (w' : World) : Prop := e = .returned (.int .i64 r) ∧ Below w.heap.size w w'
def BoolAns (r : Bool) (w : World) (e : Ending) (w' : World) : Prop := e = .returned (.bool r) ∧ w = w'
def BoolAnsB (r : Bool) (w : World) (e : Ending) (w' : World) : Prop := e = .returned (.bool r) ∧ Below w.heap.size w w'

/-- a block of a local variable -/
def Blk (w : World) (b : Nat) (cs : Array Value) (T : TypeId) : Prop := w.heap[b]? = some (.cells cs T (0, 0))
theorem Blk.new (w : World) (cs : Array Value) (T : TypeId) : Blk (w.alloc (.cells cs T)) w.heap.size cs T := heap_alloc_new w _
theorem Blk.lt {w : World} {b : Nat} {cs : Array Value} {T : TypeId} (h : Blk w b cs T) : b < w.heap.size := (Array.getElem?_eq_some_iff.1 h).1
theorem Blk.below {w w' : World} {b : Nat} {cs : Array Value} {T : TypeId} (h : Blk w b cs T) (c : Below w.heap.size w w') : Blk w' b cs T := by
  unfold Blk; rw [c.block b h.lt]; exact h
theorem Blk.belowB {B : Nat} {w w' : World} {b : Nat} {cs : Array Value} {T : TypeId} (h : Blk w b cs T) (c : Below B w w') (hb : b < B) : Blk w' b cs T := by
  unfold Blk; rw [c.block b hb]; exact h
theorem Blk.chg {X : Nat → Prop} {w w' : World} {b : Nat} {cs : Array Value} {T : TypeId} (h : Blk w b cs T) (c : Chg X w w') (hx : ¬ X b) : Blk w' b cs T := by
  unfold Blk; rw [c.block b h.lt hx]; exact h
theorem Blk.cell {w : World} {b : Nat} {cs : Array Value} {T : TypeId} (h : Blk w b cs T) (i : Nat) : w.cell? ⟨b, i, none⟩ = cs[i]? := cell_of_row w b i cs T _ h
theorem Blk.frozen {w : World} {b : Nat} {cs : Array Value} {T : TypeId} (h : Blk w b cs T) (i : Nat) : w.frozen? ⟨b, i, none⟩ = false := frozen_of_row w b i cs T h
theorem Blk.set {w : World} {b : Nat} {cs : Array Value} {T : TypeId} (h : Blk w b cs T) (i : Nat) (u : Value) : Blk (w.setCell ⟨b, i, none⟩ u) b (cs.setIfInBounds i u) T := heap_setCell_same w b i cs T u h
theorem Blk.setOther {w : World} {b : Nat} {cs : Array Value} {T : TypeId} (h : Blk w b cs T) {p : Addr} (hp : b ≠ p.block) (u : Value) : Blk (w.setCell p u) b cs T := by
  unfold Blk; rw [heap_setCell_other w p b u hp]; exact h

/-- three cells of a local block are written: a struct of three fields is stored -/
def set3 (w : World) (b : Nat) (y0 y1 y2 : Value) : World := ((w.setCell ⟨b, 0, none⟩ y0).setCell ⟨b, 1, none⟩ y1).setCell ⟨b, 2, none⟩ y2
theorem set3_blk {w : World} {b : Nat} {x0 x1 x2 : Value} {T : TypeId} (h : Blk w b #[x0, x1, x2] T) (y0 y1 y2 : Value) : Blk (set3 w b y0 y1 y2) b #[y0, y1, y2] T :=
  ((h.set 0 y0).set 1 y1).set 2 y2
theorem set3_below {B : Nat} {a w : World} (h : Below B a w) {b : Nat} (hb : B ≤ b) (y0 y1 y2 : Value) : Below B a (set3 w b y0 y1 y2) :=
  ((h.setCell (p := ⟨b, 0, none⟩) hb y0).setCell (p := ⟨b, 1, none⟩) hb y1).setCell (p := ⟨b, 2, none⟩) hb y2
theorem set3_other {w : World} {b : Nat} (y0 y1 y2 : Value) {k : Nat} (hk : k ≠ b) : (set3 w b y0 y1 y2).heap[k]? = w.heap[k]? := by
  unfold set3
  rw [heap_setCell_other _ _ _ _ hk, heap_setCell_other _ _ _ _ hk, heap_setCell_other _ _ _ _ hk]
theorem set3_ints {w : World} {v : Value} {l : List Int} (h : Ints w v l) {b : Nat} (hb : ∀ k, blk v = some k → k ≠ b) (y0 y1 y2 : Value) : Ints (set3 w b y0 y1 y2) v l :=
  h.keep fun k hk => set3_other y0 y1 y2 (hb k hk)

end Go.Proofs.Ytjcgommdeplbbaa

namespace Go.Proofs.Ytjcgommdeplbbaa
open Go.RowKit
set_option linter.unusedVariables false
set_option linter.unusedSimpArgs false

set_option maxRecDepth 100000 in
set_option maxHeartbeats 400000 in
theorem s_IsField (p : Int) (w : World) :
    Calls Try.prog 17 #[.int .i64 p] w fun e w' => e = .returned (.bool (isF p)) ∧ w = w' := by
  by_cases h2 : p = 2
  · subst h2; go_enter Try.func17, Try.ntmps17; go_wp2; go_ret; exact ⟨rfl, rfl⟩
  by_cases h3 : p = 3
  · subst h3; go_enter Try.func17, Try.ntmps17; go_wp2; go_ret; exact ⟨rfl, rfl⟩
  by_cases h5 : p = 5
  · subst h5; go_enter Try.func17, Try.ntmps17; go_wp2; go_ret; exact ⟨rfl, rfl⟩
  have e : isF p = false := by unfold isF; simp; omega
  have E := Lib.hid e; clear e
  have e2 : (p == 2) = false := by simp; omega
  have e3 : (p == 3) = false := by simp; omega
  have e5 : (p == 5) = false := by simp; omega
  clear h2 h3 h5
  go_enter Try.func17, Try.ntmps17; go_wp2; go_ret; exact ⟨ret_bool E.out.symm, rfl⟩

set_option maxRecDepth 100000 in
set_option maxHeartbeats 400000 in
theorem i_IsField (p : Int) (w : World) :
    Calls Try.prog 22 #[.int .i64 p] w fun e w' => e = .returned (.bool (isF p)) ∧ w = w' := by
  by_cases h2 : p = 2
  · subst h2; go_enter Try.func22, Try.ntmps22; go_wp2; go_ret; exact ⟨rfl, rfl⟩
  by_cases h3 : p = 3
  · subst h3; go_enter Try.func22, Try.ntmps22; go_wp2; go_ret; exact ⟨rfl, rfl⟩
  by_cases h5 : p = 5
  · subst h5; go_enter Try.func22, Try.ntmps22; go_wp2; go_ret; exact ⟨rfl, rfl⟩
  have e : isF p = false := by unfold isF; simp; omega
  have E := Lib.hid e; clear e
  have e2 : (p == 2) = false := by simp; omega
  have e3 : (p == 3) = false := by simp; omega
  have e5 : (p == 5) = false := by simp; omega
  clear h2 h3 h5
  go_enter Try.func22, Try.ntmps22; go_wp2; go_ret; exact ⟨ret_bool E.out.symm, rfl⟩

theorem tm (x p : Int) (hp : 0 < p) : (0 ≤ x.tmod p ∧ x.tmod p = x % p ∧ x.tmod p < p) ∨ (x.tmod p < 0 ∧ -p < x.tmod p ∧ x.tmod p + p = x % p) := by
  have h1 := Int.tmod_eq_emod (a := x) (b := p)
  have h2 := Int.emod_nonneg x (show p ≠ 0 by omega)
  have h3 := Int.emod_lt_of_pos x hp
  split at h1
  · left; omega
  · rename_i h
    right
    have h4 : x % p ≠ 0 := fun e => h (.inr (Int.dvd_of_emod_eq_zero e))
    omega

set_option maxRecDepth 100000 in
set_option maxHeartbeats 400000 in
theorem s_l2Mod (p x : Int) (hp : isF p = true) (w : World) :
    Calls Try.prog 68 #[.int .i64 p, .int .i64 x] w fun e w' => e = .returned (.int .i64 (x % p)) ∧ w = w' := by
  rcases isF_cases hp with rfl | rfl | rfl <;> clear hp
  · rcases tm x 2 (by omega) with ⟨h, he, h'⟩ | ⟨h, h', he⟩
    all_goals
      have HE := Lib.hid he; clear he
      go_enter Try.func68, Try.ntmps68
      go_wp2
      go_ret
      exact ⟨ret_int HE.out, rfl⟩
  · rcases tm x 3 (by omega) with ⟨h, he, h'⟩ | ⟨h, h', he⟩
    all_goals
      have HE := Lib.hid he; clear he
      go_enter Try.func68, Try.ntmps68
      go_wp2
      go_ret
      exact ⟨ret_int HE.out, rfl⟩
  · rcases tm x 5 (by omega) with ⟨h, he, h'⟩ | ⟨h, h', he⟩
    all_goals
      have HE := Lib.hid he; clear he
      go_enter Try.func68, Try.ntmps68
      go_wp2
      go_ret
      exact ⟨ret_int HE.out, rfl⟩

def redM (p x : Int) : Int := if isF p = true then x % p else 0


end Go.Proofs.Ytjcgommdeplbbaa

namespace Go.Proofs.Ytjcgommdeplbbaa
open Go.RowKit
set_option linter.unusedVariables false
set_option linter.unusedSimpArgs false

set_option maxRecDepth 100000 in
set_option maxHeartbeats 400000 in
theorem i_within (n lo hi : Int) (w : World) :
    Calls Try.prog 11 #[.int .i64 n, .int .i64 lo, .int .i64 hi] w fun e w' => e = .returned (.bool (inR n lo hi)) ∧ w = w' := by
  by_cases h1 : lo ≤ n
  · by_cases h2 : n ≤ hi
    · have e := Lib.hid (inR_mk h1 h2)
      go_enter Try.func11, Try.ntmps11; go_wp2; go_ret; exact ⟨ret_bool e.out.symm, rfl⟩
    · have e := Lib.hid (inR_hi (lo := lo) (show hi < n by omega))
      go_enter Try.func11, Try.ntmps11; go_wp2; go_ret; exact ⟨ret_bool e.out.symm, rfl⟩
  · have e := Lib.hid (inR_lo (hi := hi) (show n < lo by omega))
    have h1' : decide (lo ≤ n) = false := by simpa using h1
    go_enter Try.func11, Try.ntmps11; go_wp2; go_ret; exact ⟨ret_bool e.out.symm, rfl⟩

set_option maxRecDepth 100000 in
set_option maxHeartbeats 400000 in
theorem s_l1In (n lo hi : Int) (w : World) :
    Calls Try.prog 18 #[.int .i64 n, .int .i64 lo, .int .i64 hi] w fun e w' => e = .returned (.bool (inR n lo hi)) ∧ w = w' := by
  by_cases h1 : lo ≤ n
  · by_cases h2 : n ≤ hi
    · have e := Lib.hid (inR_mk h1 h2)
      go_enter Try.func18, Try.ntmps18; go_wp2; go_ret; exact ⟨ret_bool e.out.symm, rfl⟩
    · have e := Lib.hid (inR_hi (lo := lo) (show hi < n by omega))
      go_enter Try.func18, Try.ntmps18; go_wp2; go_ret; exact ⟨ret_bool e.out.symm, rfl⟩
  · have e := Lib.hid (inR_lo (hi := hi) (show n < lo by omega))
    have h1' : decide (lo ≤ n) = false := by simpa using h1
    go_enter Try.func18, Try.ntmps18; go_wp2; go_ret; exact ⟨ret_bool e.out.symm, rfl⟩

end Go.Proofs.Ytjcgommdeplbbaa
