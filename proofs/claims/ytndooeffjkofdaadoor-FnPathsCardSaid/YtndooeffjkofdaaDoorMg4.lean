/- Plain words on the cells of a matrix: a list given by rows and columns, sums, products, transposes, blocks. No program is read here. Slices of slices of integers: what reads as a list of lists; append of one row. Rows and columns of a matrix. slices.Grow at nil and slices.Concat, at integers. append to a new empty slice: what is appended lies in a new block. For the laws' walks: a region in which a struct is made beside other calls; what it leaves. No function of the program is walked here. -/
import Derived.Test.YtndooeffjkofdaaDoorMg1
import Derived.Test.YtndooeffjkofdaaDoorMg2
import Derived.Test.YtndooeffjkofdaaDoorMg3
import Derived.Maps.AppendAt
import Derived.Lib.AppendZerosOnto
import Derived.Deep.RegionHeld3
import Derived.Deep.RegionLawGrows
namespace Go.Proofs.YtndooeffjkofdaaDoor
set_option linter.unusedVariables false
set_option linter.unusedSimpArgs false

/-- the cells of a matrix of r rows and c columns, row by row -/
def matL (r c : Nat) (f : Nat → Nat → Int) : List Int := (List.range (r * c)).map fun (t : Nat) => f (t / c) (t % c)
theorem matL_len (r c : Nat) (f : Nat → Nat → Int) : (matL r c f).length = r * c := by simp [matL]
theorem mat_at {r c i k : Nat} (hi : i < r) (hk : k < c) : i * c + k < r * c := by
  have : (i + 1) * c ≤ r * c := Nat.mul_le_mul_right c (by omega)
  rw [Nat.add_mul] at this; omega
theorem mat_div {c i k : Nat} (hk : k < c) : (i * c + k) / c = i := by
  rw [Nat.mul_comm, Nat.mul_add_div (by omega), Nat.div_eq_of_lt hk]; rfl
theorem mat_mod {c i k : Nat} (hk : k < c) : (i * c + k) % c = k := by
  rw [Nat.mul_comm, Nat.mul_add_mod, Nat.mod_eq_of_lt hk]
theorem mat_rc {r c t : Nat} (h : t < r * c) : t / c < r ∧ t % c < c ∧ t / c * c + t % c = t := by
  have hc : 0 < c := by
    rcases Nat.eq_zero_or_pos c with e | e
    · rw [e, Nat.mul_zero] at h; omega
    · exact e
  refine ⟨Nat.div_lt_of_lt_mul (by rw [Nat.mul_comm]; exact h), Nat.mod_lt _ hc, ?_⟩
  have := Nat.div_add_mod t c
  rw [Nat.mul_comm] at this; exact this
theorem matL_get {r c i k : Nat} (f : Nat → Nat → Int) (hi : i < r) (hk : k < c) : (matL r c f).getD (i * c + k) 0 = f i k := by
  have h := mat_at hi hk
  simp [matL, List.getD, h, mat_div hk, mat_mod hk]
theorem matL_congr {r c : Nat} {f g : Nat → Nat → Int} (h : ∀ i k, i < r → k < c → f i k = g i k) : matL r c f = matL r c g := by
  apply List.ext_getElem (by simp [matL])
  intro t h1 h2
  simp only [matL, List.getElem_map, List.getElem_range]
  have ht : t < r * c := by simpa [matL] using h1
  obtain ⟨a, b, _⟩ := mat_rc ht
  exact h _ _ a b
theorem matL_of {r c : Nat} {L : List Int} (hL : L.length = r * c) : L = matL r c (fun i k => L.getD (i * c + k) 0) := by
  apply List.ext_getElem (by simp [matL, hL])
  intro t h1 h2
  simp only [matL, List.getElem_map, List.getElem_range]
  obtain ⟨_, _, e⟩ := mat_rc (show t < r * c by omega)
  rw [e]
  simp [List.getD, h1]
theorem matL_set {r c i k : Nat} (f : Nat → Nat → Int) (hi : i < r) (hk : k < c) (x : Int) :
    (matL r c f).set (i * c + k) x = matL r c (fun i' k' => if i' = i ∧ k' = k then x else f i' k') := by
  apply List.ext_getElem (by simp [matL])
  intro t h1 h2
  have ht : t < r * c := by simpa [matL] using h1
  rw [List.getElem_set]
  simp only [matL, List.getElem_map, List.getElem_range]
  by_cases h : i * c + k = t
  · subst h
    rw [if_pos rfl, if_pos ⟨mat_div hk, mat_mod hk⟩]
  · rw [if_neg h, if_neg]
    rintro ⟨h4, h5⟩
    have := (mat_rc ht).2.2
    rw [h4, h5] at this
    exact h this
theorem matL_zero (r c : Nat) : matL r c (fun _ _ => 0) = List.replicate (r * c) 0 := by
  apply List.ext_getElem (by simp [matL])
  intro t h1 h2
  simp [matL]

/-- the sum of the first n -/
def sumTo (f : Nat → Int) : Nat → Int
  | 0 => 0
  | n + 1 => sumTo f n + f n
theorem sumTo_congr {f g : Nat → Int} {n : Nat} (h : ∀ j, j < n → f j = g j) : sumTo f n = sumTo g n := by
  induction n with
  | zero => rfl
  | succ n ih => simp only [sumTo]; rw [ih (fun j hj => h j (by omega)), h n (by omega)]
theorem sumTo_bd {f : Nat → Int} {n : Nat} {M : Int} (h : ∀ j, j < n → 0 ≤ f j ∧ f j ≤ M) : 0 ≤ sumTo f n ∧ sumTo f n ≤ n * M := by
  induction n with
  | zero => simp [sumTo]
  | succ n ih =>
    simp only [sumTo]
    have h1 := ih (fun j hj => h j (by omega))
    have h2 := h n (by omega)
    have e : ((n + 1 : Nat) : Int) * M = n * M + M := by rw [Int.natCast_succ, Int.add_mul, Int.one_mul]
    rw [e]
    omega
/-- the product -/
def mulF (p : Int) (n cb : Nat) (la lb : List Int) (ca : Nat) (i k : Nat) : Int := sumTo (fun j => la.getD (i * ca + j) 0 * lb.getD (j * cb + k) 0) n % p
def mulL (p : Int) (ra ca cb : Nat) (la lb : List Int) : List Int := matL ra cb (fun i k => mulF p ca cb la lb ca i k)
/-- the transpose of a matrix of r rows and c columns -/
def trL (r c : Nat) (l : List Int) : List Int := matL c r (fun i k => l.getD (k * c + i) 0)
/-- two matrices on the diagonal -/
def blkF (ra ca rb cb : Nat) (la lb : List Int) (i k : Nat) : Int :=
  if i < ra then (if k < ca then la.getD (i * ca + k) 0 else 0) else (if k < ca then 0 else lb.getD ((i - ra) * cb + (k - ca)) 0)
def blkL (ra ca rb cb : Nat) (la lb : List Int) : List Int := matL (ra + rb) (ca + cb) (blkF ra ca rb cb la lb)

theorem mulF_step {p : Int} (n cb : Nat) (la lb : List Int) (ca i k : Nat) :
    (mulF p n cb la lb ca i k + la.getD (i * ca + n) 0 * lb.getD (n * cb + k) 0) % p = mulF p (n + 1) cb la lb ca i k := by
  unfold mulF
  simp only [sumTo]
  rw [Int.emod_add_emod]
theorem mulF_zero {p : Int} (cb : Nat) (la lb : List Int) (ca i k : Nat) : mulF p 0 cb la lb ca i k = 0 := by simp [mulF, sumTo]

end Go.Proofs.YtndooeffjkofdaaDoor

namespace Go.Proofs.YtndooeffjkofdaaDoor
open Go.RowKit
set_option linter.unusedVariables false
set_option linter.unusedSimpArgs false

theorem infoRow : (Tryd.prog.info? 24).map (fun i => (i.zero, i.size, i.bytes)) = some (some (.slice none 0 0), 1, 24) := by kernel_rfl

/-- all the values read as the lists, in blocks from B on -/
def arR (B : Nat) (w : World) : List Value → List (List Int) → Prop
  | [], [] => True
  | v :: vs, l :: ll => Ints w v l ∧ FreshV B v ∧ arR B w vs ll
  | _, _ => False
theorem arR.len {B : Nat} {w : World} : ∀ {vs : List Value} {ll : List (List Int)}, arR B w vs ll → vs.length = ll.length
  | [], [], _ => rfl
  | _ :: _, _ :: _, h => by simp [arR.len h.2.2]
  | [], _ :: _, h => h.elim
  | _ :: _, [], h => h.elim
theorem arR.keep {B : Nat} {w w' : World} (hk : ∀ v l, Ints w v l → FreshV B v → Ints w' v l) : ∀ {vs : List Value} {ll : List (List Int)}, arR B w vs ll → arR B w' vs ll
  | [], [], _ => trivial
  | _ :: _, _ :: _, h => ⟨hk _ _ h.1 h.2.1, h.2.1, arR.keep hk h.2.2⟩
  | [], _ :: _, h => h.elim
  | _ :: _, [], h => h.elim
theorem arR.mono {B B' : Nat} {w : World} (hB : B' ≤ B) : ∀ {vs : List Value} {ll : List (List Int)}, arR B w vs ll → arR B' w vs ll
  | [], [], _ => trivial
  | _ :: _, _ :: _, h => ⟨h.1, h.2.1.mono hB, arR.mono hB h.2.2⟩
  | [], _ :: _, h => h.elim
  | _ :: _, [], h => h.elim
theorem arR.snoc {B : Nat} {w : World} {v : Value} {l : List Int} (hv : Ints w v l) (hf : FreshV B v) : ∀ {vs : List Value} {ll : List (List Int)}, arR B w vs ll → arR B w (vs ++ [v]) (ll ++ [l])
  | [], [], _ => ⟨hv, hf, trivial⟩
  | _ :: _, _ :: _, h => ⟨h.1, h.2.1, arR.snoc hv hf h.2.2⟩
  | [], _ :: _, h => h.elim
  | _ :: _, [], h => h.elim
theorem arR.get {B : Nat} {w : World} : ∀ {vs : List Value} {ll : List (List Int)}, arR B w vs ll → ∀ i, i < ll.length → ∃ v, vs[i]? = some v ∧ Ints w v (ll.getD i []) ∧ FreshV B v
  | [], [], _, i, hi => by simp at hi
  | v :: _, l :: _, h, 0, _ => ⟨v, rfl, h.1, h.2.1⟩
  | _ :: _, _ :: ll, h, i + 1, hi => by
    obtain ⟨v, e, h1, h2⟩ := arR.get h.2.2 i (by simpa using hi)
    exact ⟨v, by simpa using e, by simpa [List.getD] using h1, h2⟩
  | [], _ :: _, h, _, _ => h.elim
  | _ :: _, [], h, _, _ => h.elim

/-- The slice value v reads as the rows ll, all of it in blocks from B on. -/
def Rws (B : Nat) (w : World) (v : Value) (ll : List (List Int)) : Prop :=
  ∃ a cap, v = .slice a ll.length cap ∧ ll.length ≤ cap ∧ cap ≤ maxLen ∧
    (ll = [] ∨ ∃ g off cur, a = some ⟨g, off, none⟩ ∧ B ≤ g ∧ w.heap[g]? = some (.cells cur 24 (0, 0)) ∧ off + ll.length ≤ cur.size ∧ arR B w ((cur.toList.drop off).take ll.length) ll)
theorem Rws.nil (B : Nat) (w : World) : Rws B w (.slice none 0 0) [] := ⟨none, 0, rfl, Nat.le_refl _, by decide, .inl rfl⟩
theorem Rws.shape {B : Nat} {w : World} {v : Value} {ll : List (List Int)} (h : Rws B w v ll) : ∃ a cap, v = .slice a ll.length cap ∧ ll.length ≤ cap ∧ cap ≤ 9223372036854775807 := by
  obtain ⟨a, cap, rfl, h1, h2, _⟩ := h
  exact ⟨a, cap, rfl, h1, by simpa [maxLen] using h2⟩
theorem Rws.below {B : Nat} {w w' : World} {v : Value} {ll : List (List Int)} (h : Rws B w v ll) (b : Below w.heap.size w w') : Rws B w' v ll := by
  obtain ⟨a, cap, rfl, h1, h2, rfl | ⟨g, off, cur, rfl, hB, hg, hs, hr⟩⟩ := h
  · exact ⟨_, cap, rfl, h1, h2, .inl rfl⟩
  · exact ⟨_, cap, rfl, h1, h2, .inr ⟨g, off, cur, rfl, hB, by rw [b.block g (Array.getElem?_eq_some_iff.1 hg).1]; exact hg, hs, hr.keep fun _ _ hv _ => hv.below b⟩⟩
theorem Rws.mono {B B' : Nat} {w : World} {v : Value} {ll : List (List Int)} (h : Rws B w v ll) (hB : B' ≤ B) : Rws B' w v ll := by
  obtain ⟨a, cap, rfl, h1, h2, rfl | ⟨g, off, cur, rfl, hB2, hg, hs, hr⟩⟩ := h
  · exact ⟨_, cap, rfl, h1, h2, .inl rfl⟩
  · exact ⟨_, cap, rfl, h1, h2, .inr ⟨g, off, cur, rfl, Nat.le_trans hB hB2, hg, hs, hr.mono hB⟩⟩
/-- one row, in the walk's words -/
theorem Rws.cell {B : Nat} {w : World} {a : Option Addr} {n cap : Nat} {ll : List (List Int)} (h : Rws B w (.slice a n cap) ll) {i : Nat} (hi : i < ll.length) :
    ∃ g off v, a = some ⟨g, off, none⟩ ∧ B ≤ g ∧ g < w.heap.size ∧ w.cell? ⟨g, off + i, none⟩ = some v ∧ Ints w v (ll.getD i []) ∧ FreshV B v := by
  obtain ⟨a', cap', e, h1, h2, h3⟩ := h
  simp only [Value.slice.injEq] at e
  obtain ⟨rfl, rfl, rfl⟩ := e
  rcases h3 with rfl | ⟨g, off, cur, rfl, hB, hg, hs, hr⟩
  · simp at hi
  · obtain ⟨v, e, h4, h5⟩ := hr.get i hi
    refine ⟨g, off, v, rfl, hB, (Array.getElem?_eq_some_iff.1 hg).1, ?_, h4, h5⟩
    rw [cell_of_row w g _ cur _ _ hg, ← e, List.getElem?_take, if_pos hi, List.getElem?_drop, Array.getElem?_toList]

/-- a row of rows that the call owns -/
def OwnR (w : World) (B : Nat) (v : Value) (ll : List (List Int)) : Prop := ∃ vs, w.ownsRow B 24 1 v ll.length vs ∧ arR B w vs ll
theorem OwnR.nil (w : World) (B : Nat) : OwnR w B (.slice none 0 0) [] := ⟨[], World.ownsRow_nil w B _ 1, trivial⟩
theorem OwnR.below {w w' : World} {B : Nat} {v : Value} {ll : List (List Int)} (h : OwnR w B v ll) (b : Below w.heap.size w w') : OwnR w' B v ll := by
  obtain ⟨vs, h1, h2⟩ := h
  refine ⟨vs, World.ownsRow.kept h1 (row := none) ⟨b.os, b.tape, b.output, b.size, fun i hi _ => b.block i hi⟩ ?_, h2.keep fun _ _ hv _ => hv.below b⟩
  cases v.ownBlock <;> simp
theorem OwnR.rws {w : World} {B : Nat} {v : Value} {ll : List (List Int)} (h : OwnR w B v ll) : Rws B w v ll := by
  obtain ⟨vs, ⟨hl, h2⟩, hr⟩ := h
  rcases h2 with ⟨rfl, h0⟩ | ⟨g, cap, cur, rfl, hb, hg, hnc, hcm, hcs, htake⟩
  · have : ll = [] := List.length_eq_zero_iff.1 h0
    subst this
    exact Rws.nil _ w
  · refine ⟨_, cap, rfl, hnc, hcm, ?_⟩
    by_cases h0 : ll = []
    · exact .inl h0
    · exact .inr ⟨g, 0, cur, rfl, hb, hg, by omega, by
        rw [List.drop_zero, show ll.length = ll.length * 1 by omega, htake]; exact hr⟩

/-- a slice of integers lies in no row of rows -/
theorem Ints.far {w : World} {B : Nat} {v : Value} {n : Nat} {xs : List Value} {u : Value} {l : List Int} (h : Ints w u l) (ho : w.ownsRow B 24 1 v n xs) : ∀ k, blk u = some k → some k ≠ v.ownBlock := by
  intro k hk e
  obtain ⟨a, cap, rfl, _, _, rfl | ⟨g, off, cur, rfl, hg, _, _⟩⟩ := h
  · cases a <;> simp [blk] at hk
  · have hgk : g = k := by
      cases l with
      | nil => simp [blk] at hk
      | cons x l => simpa [blk] using hk
    subst hgk
    rcases ho.2 with ⟨rfl, _⟩ | ⟨g', cap', cur', rfl, _, hh, _⟩
    · simp [Value.ownBlock] at e
    · have : g = g' := by simpa [Value.ownBlock] using e
      subst this
      rw [hg] at hh
      simp at hh
theorem Ints.grownR {w w' : World} {B : Nat} {v : Value} {n : Nat} {xs : List Value} {u : Value} {l : List Int} (h : Ints w u l) (ho : w.ownsRow B 24 1 v n xs) (hg : w.grownBy w' v.ownBlock) : Ints w' u l :=
  h.keep fun k hk => hg.block k (h.lt k hk) (h.far ho k hk)

/-- append of one row, which lies in the block just made -/
theorem app_row {ops : Array Oper} {rest : List Oper} {o : Oper} {a : Act} {Q : Exit → Act → World → Prop} {c : Value} (w0 w : World) (hgd : o.guard = none) (s x : Operand)
    (ho : o.op = .call { callee := .builtin .append, args := #[s, x], argTypes := #[76, 76] }) (B : Nat) (v : Value) (ll : List (List Int)) (l : List Int)
    (hs : a.eval s = v) (hx : a.eval x = .slice (some ⟨w.heap.size, 0, none⟩) 1 1) (hone : c.oneCell' = true) (hc : Ints w c l) (hf : FreshV B c) (hown : OwnR w B v ll) (hbel : Below B w0 w) (hB : B ≤ w.heap.size) (hl : ll.length + 1 ≤ 1048576)
    (hK : ∀ v' w', OwnR w' B v' (ll ++ [l]) → Below B w0 w' → B ≤ w'.heap.size → wpList Tryd.prog ops Q rest (a.put o.dst v') w') :
    wpList Tryd.prog ops Q (o :: rest) a (w.alloc (.cells #[c] 24)) := by
  obtain ⟨i, hi, h0, h1, h2⟩ := info_parts infoRow
  obtain ⟨vs, hown, hr⟩ := hown
  have hown2 := World.ownsRow.alloc hown (.cells #[c] 24)
  refine wpList_append_own _ hgd s x 76 ho B 24 i (.slice none 0 0) 1 24 Tryd.underlying76 hi h0 h1 h2 rfl (by decide) v ll.length vs hs hown2
    ⟨w.heap.size, 0, none⟩ 1 1 [c] hx rfl (news_cells w _ [c]) (by simpa using hone) (by unfold maxLen; omega) (by omega) (by simp; omega) ?_
  intro v' w' ho' hg _
  have hb : Below B w0 w' := (hbel.alloc hB _).grown hg (by simp; omega) (fun k hk => (World.ownsRow.lt hown k hk).1)
  have hal : Below w.heap.size w (w.alloc (.cells #[c] 24)) := (Below.refl _ w).alloc (Nat.le_refl _) _
  refine hK v' w' ⟨vs ++ [c], by simpa using ho', ?_⟩ hb ?_
  · exact (hr.keep fun _ _ h _ => (h.below hal).grownR hown2 hg).snoc ((hc.below hal).grownR hown2 hg) hf
  · have := hg.size; simp at this; omega

/-- a row of a matrix of c columns -/
def rowL (c i : Nat) (l : List Int) : List Int := (l.drop (i * c)).take c
theorem rowL_len {r c i : Nat} {l : List Int} (hl : l.length = r * c) (hi : i < r) : (rowL c i l).length = c := by
  have : (i + 1) * c ≤ r * c := Nat.mul_le_mul_right c (by omega)
  rw [Nat.add_mul] at this
  simp [rowL]; omega
theorem rowL_get {c i k : Nat} {l : List Int} (hk : k < c) : (rowL c i l).getD k 0 = l.getD (i * c + k) 0 := by
  simp [rowL, List.getD, List.getElem?_take, hk, List.getElem?_drop]

end Go.Proofs.YtndooeffjkofdaaDoor

namespace Go.Proofs.YtndooeffjkofdaaDoor
open Go.RowKit
set_option linter.unusedVariables false
set_option linter.unusedSimpArgs false

/-- append of any slice that reads as ls to one that the call owns -/
theorem run_app_any (ty : TypeId) (B : Nat) (v vx : Value) (l ls : List Int) (w : World) (hown : Own w B 3 .i64 v l) (hx : Ints w vx ls) (hB : B ≤ w.heap.size) (hl : l.length + ls.length ≤ 17592186044416) :
    ∃ v' w', (Builtin.append_ #[24, 24] ty #[v, vx]).run Tryd.prog w = .ok v' w' ∧ Own w' B 3 .i64 v' (l ++ ls) ∧ w.grownBy w' v.ownBlock ∧ (v'.ownBlock = v.ownBlock ∨ v'.ownBlock = some w.heap.size) := by
  obtain ⟨i, hi, h0, h1, h2⟩ := info_parts infoInt
  have ht := Tryd.underlying24
  obtain ⟨a, cap, rfl, hlc, hcm, hcells⟩ := hx
  cases a with
  | none =>
    have hne : ls = [] := by
      rcases hcells with h | ⟨_, _, _, h, _⟩
      · exact h
      · cases h
    subst hne
    refine ⟨v, w, ?_, by simpa using hown, World.grownBy.refl w _, .inl rfl⟩
    rcases hown.2 with ⟨rfl, _⟩ | ⟨g, cap', cur, rfl, _, _, hnc, _⟩
    · simp [Builtin.append_, run_underlying ht, sizeOf, typeInfo, hi, Builtin.lenOf, Builtin.firstCells]
    · simp [Builtin.append_, run_underlying ht, sizeOf, typeInfo, hi, Builtin.lenOf, Builtin.firstCells, hnc, storeCells]
  | some ad =>
    obtain ⟨v', w', hrun, h3, h4, _, h5⟩ := run_append_own_at (P := Tryd.prog) w B 24 ty 3 i (.int .i64 0) 1 8 ht hi h0 h1 h2 rfl (by decide) v l.length (l.map (Value.int .i64)) hown
      ad ls.length cap (ls.map (Value.int .i64)) (by simp) (fun j u hj => by
        have hjl : j < ls.length := by
          rcases Nat.lt_or_ge j ls.length with h | h
          · exact h
          · rw [List.getElem?_eq_none (show (ls.map (Value.int .i64)).length ≤ j by simpa using h)] at hj; cases hj
        rcases hcells with h | ⟨g', off, cur, e, hg, hs, hc⟩
        · subst h; simp at hjl
        · simp only [Option.some.injEq] at e
          subst e
          have hadd : (⟨g', off, none⟩ : Addr).add j = ⟨g', off + j, none⟩ := by unfold Addr.add; split <;> simp_all
          rw [hadd, cell_of_row w g' _ cur _ _ hg, hc j hjl, ← hj]
          simp [List.getD, hjl]) (ints_oneCell _ _) (by unfold maxLen; omega) (by omega) hB
    exact ⟨v', w', hrun, by unfold Own; simpa using h3, h4, h5⟩
/-- in a plain region -/
theorem app_any {ops : Array Oper} {rest : List Oper} {o : Oper} {a : Act} {Q : Exit → Act → World → Prop} (w0 w : World) (hgd : o.guard = none) (s x : Operand)
    (ho : o.op = .call { callee := .builtin .append, args := #[s, x], argTypes := #[24, 24] }) (B : Nat) (v vx : Value) (l ls : List Int)
    (hs : a.eval s = v) (hx : a.eval x = vx) (hsrc : Ints w vx ls) (hown : Own w B 3 .i64 v l) (hbel : Below B w0 w) (hB : B ≤ w.heap.size) (hl : l.length + ls.length ≤ 17592186044416)
    (hK : ∀ v' w', Own w' B 3 .i64 v' (l ++ ls) → Below B w0 w' → B ≤ w'.heap.size → wpList Tryd.prog ops Q rest (a.put o.dst v') w') :
    wpList Tryd.prog ops Q (o :: rest) a w :=
  wpList_plain hgd fun _ hK' => by
    obtain ⟨v', w', hrun, h1, h2, _⟩ := run_app_any o.type B v vx l ls w hown hsrc hB hl
    unfold Oper.wp execOp
    simp only [ho, resolve, invoke, builtin, Sem.run_bind, Sem.run_pure, Result.andThen_ok, List.map_toArray, List.map_cons, List.map_nil, hs, hx, hrun]
    exact hK' _ _ (hK v' w' h1 (hbel.grown h2 hB (fun k hk => (World.ownsRow.lt hown k hk).1)) (Nat.le_trans hB h2.size))

/-- append of so many zeros to nil -/
theorem app_make {ops : Array Oper} {rest : List Oper} {o : Oper} {a : Act} {Q : Exit → Act → World → Prop} (w : World) (hgd : o.guard = none) (s x : Operand)
    (ho : o.op = .call { callee := .builtin .append, args := #[s, x], argTypes := #[24, 3] }) (n : Nat)
    (hs : a.eval s = .slice none 0 0) (hx : a.eval x = .int .i64 n) (hpos : 0 < n) (hn : n ≤ 1048576)
    (hK : ∀ (G : Nat) w', n ≤ G → Own w' w.heap.size 3 .i64 (.slice (some ⟨w.heap.size, 0, none⟩) 0 G) [] → Below w.heap.size w w' → wpList Tryd.prog ops Q rest (a.put o.dst (.slice (some ⟨w.heap.size, 0, none⟩) n G)) w') :
    wpList Tryd.prog ops Q (o :: rest) a w :=
  wpList_plain hgd fun _ hK' => by
    obtain ⟨i, hi, hz0, hz1, hz2⟩ := info_parts infoInt
    have hGn := grownCap_ge w n 0 3
    have hG63 := grownCap_le_maxLen w n 0 3 (by unfold maxLen; omega)
    have h := Lib.run_append_grow_zeros w 24 3 o.type 3 i (.int .i64 0) .i64 .i64 Tryd.underlying24 Tryd.underlying3 hi hz0 none 0 0 [] (run_firstCells_none w.drew i.size 0 0 0) n hpos (by omega) (by omega) (by omega) (by rw [hz2]; omega)
        (growslice_fits (by omega) (by rw [hz2]; omega))
    rw [Nat.zero_add] at h
    unfold Oper.wp execOp
    simp only [ho, resolve, invoke, builtin, Sem.run_bind, Sem.run_pure, Result.andThen_ok, List.map_toArray, List.map_cons, List.map_nil, hs, hx, h]
    refine hK' _ _ (hK _ _ hGn ⟨rfl, .inr ⟨w.heap.size, _, _, rfl, Nat.le_refl _, heap_alloc_new w.drew _, Nat.zero_le _, hG63, ?_, by simp⟩⟩ (((Below.refl _ w).drew).alloc (Nat.le_refl _) _))
    rw [Array.size_append, Array.size_append, size_zeroCells, size_zeroCells]
    simp [Value.cells]
    omega
def GrowAns (w : World) (e : Ending) (w' : World) : Prop := ∃ v, e = .returned v ∧ Own w' w.heap.size 3 .i64 v [] ∧ Below w.heap.size w w'
set_option maxRecDepth 100000 in
set_option maxHeartbeats 1000000 in
theorem Grow_nil (n : Nat) (w : World) (hn : n ≤ 1048576) : Calls Tryd.prog 56 #[.slice none 0 0, .int .i64 n] w (GrowAns w) := by
  rcases Nat.eq_zero_or_pos n with h0 | hpos
  · subst h0
    go_enter Tryd.func56, Tryd.ntmps56
    go_wp2
    go_ret
    exact ⟨_, rfl, Own.nil _ _ _ _, Below.refl _ _⟩
  · go_enter Tryd.func56, Tryd.ntmps56
    go_wp2_with (at_builtin; refine app_make w rfl (.tmp 20) (.tmp 21) rfl n rfl rfl hpos hn ?_)
    intro G w1 hG hown hb
    go_wp2
    go_ret
    exact ⟨_, rfl, hown, hb⟩

theorem flat_succ {ll : List (List Int)} {k : Nat} (h : k < ll.length) : (ll.take (k + 1)).flatten = (ll.take k).flatten ++ ll.getD k [] := by
  rw [List.take_succ_eq_append_getElem h, List.flatten_append]
  simp [List.getD, h]
theorem flat_le (ll : List (List Int)) (k : Nat) : (ll.take k).flatten.length ≤ ll.flatten.length := by
  have h : ll.flatten = (ll.take k).flatten ++ (ll.drop k).flatten := by rw [← List.flatten_append, List.take_append_drop]
  rw [h, List.length_append]; omega

set_option maxRecDepth 100000 in
set_option maxHeartbeats 2000000 in
theorem Concat_ints (B0 : Nat) (v : Value) (ll : List (List Int)) (w : World) (hv : Rws B0 w v ll) (hT : ll.flatten.length ≤ 1048576) (hn : ll.length ≤ 1048576) :
    Calls Tryd.prog 35 #[v] w (IntsNew ll.flatten w) := by
  have HV := Lib.hid hv
  obtain ⟨a, cap, rfl, hlc, hcm⟩ := hv.shape
  clear hv
  obtain ⟨B, hB⟩ : ∃ B, B = w.heap.size := ⟨_, rfl⟩
  have HB := Lib.hid hB
  have hBl : B ≤ w.heap.size := by omega
  clear hB
  go_enter Tryd.func35, Tryd.ntmps35
  go_wp2
  go_loop [3, 11] (fun s i => ∃ k : Nat, k ≤ ll.length ∧ i = .int .i64 k ∧ s = .int .i64 ((ll.take k).flatten.length : Nat)) (fun _ i => ll.length - (intOf i).toNat)
  case atStart => exact ⟨0, Nat.zero_le _, rfl, rfl⟩
  case round =>
    obtain ⟨k, hk, rfl, rfl⟩ := hrel
    have hle := flat_le ll k
    by_cases hlt : k < ll.length
    · obtain ⟨g, off, u, rfl, _, _, hc, hu, _⟩ := HV.out.cell hlt
      obtain ⟨au, cu, rfl, hxu, hyu⟩ := hu.shape
      have hs := flat_succ hlt
      have hle2 := flat_le ll (k + 1)
      have hln : (ll.take (k + 1)).flatten.length = (ll.take k).flatten.length + (ll.getD k []).length := by rw [hs, List.length_append]
      obtain ⟨S, hS⟩ : ∃ S, (ll.take k).flatten.length = S := ⟨_, rfl⟩
      obtain ⟨S2, hS2⟩ : ∃ S2, (ll.take (k + 1)).flatten.length = S2 := ⟨_, rfl⟩
      obtain ⟨m, hm⟩ : ∃ m, (ll.getD k []).length = m := ⟨_, rfl⟩
      rw [hm] at hc hln
      rw [hS] at hle hln ⊢
      rw [hS2] at hle2 hln
      have HL := Lib.hid hln; have HS2 := Lib.hid hS2
      have hle3 : S + m ≤ 1048576 := by omega
      clear hs hu hS hm hln hS2 hle2
      go_wp2
      go_round
      case rel => exact ⟨k + 1, by omega, by go_num, by rw [HS2.out, HL.out]; go_num⟩
      case measure => simp [intOf]; omega
    · have hk' : k = ll.length := by omega
      have hfl : (ll.take k).flatten = ll.flatten := by rw [hk', List.take_length]
      obtain ⟨S, hS⟩ : ∃ S, (ll.take k).flatten.length = S := ⟨_, rfl⟩
      rw [hS] at hle ⊢
      clear hS hk' hfl
      go_wp2_with fail
      refine (Grow_nil S _ (by omega)).mono ?_; rintro e w1 ⟨v1, rfl, hown, b1⟩
      have HO := Lib.hid hown; have HB1 := Lib.hid b1
      clear hown b1
      go_wp2
      go_loopw [6, 27] (fun s i wr => ∃ k : Nat, k ≤ ll.length ∧ i = .int .i64 k ∧ Own wr w.heap.size 3 .i64 s ((ll.take k).flatten) ∧ Below w.heap.size w wr) (fun _ i _ => ll.length - (intOf i).toNat)
      case atStart => exact ⟨0, Nat.zero_le _, rfl, HO.out, HB1.out⟩
      case round =>
        obtain ⟨k, hk, rfl, hown, hbel⟩ := hrel
        have HO' := Lib.hid hown; have HB' := Lib.hid hbel
        by_cases hlt : k < ll.length
        · obtain ⟨g, off, u, rfl, _, hgs, hc, hu, _⟩ := HV.out.cell hlt
          have hcr := (hbel.cell (p := ⟨g, off + k, none⟩) hgs).trans hc
          have HU := Lib.hid (hu.below hbel)
          have hle2 := flat_le ll (k + 1)
          have hfs := flat_succ hlt
          obtain ⟨row, hrow⟩ : ∃ row, ll.getD k [] = row := ⟨_, rfl⟩
          rw [hrow] at hfs HU hu
          rw [hfs, List.length_append] at hle2
          have HFS := Lib.hid hfs
          obtain ⟨au, cu, rfl, hxu, hyu⟩ := hu.shape
          have HLE := Lib.hid hle2
          clear hc hu hown hbel hle2 hfs hrow
          go_wp2_with (at_builtin; refine app_any w _ rfl (.tmp 31) (.tmp 32) rfl w.heap.size _ _ ((ll.take k).flatten) row rfl rfl HU.out HO'.out HB'.out HB'.out.size (by have := HLE.out; omega) ?_)
          intro v2 w2 hown2 hbel2 hB2
          rw [← HFS.out] at hown2
          have HO2 := Lib.hid hown2; have HB2 := Lib.hid hbel2
          clear hown2 hbel2 hB2
          go_wp2
          go_roundw
          case rel => exact ⟨k + 1, by omega, by go_num, HO2.out, HB2.out⟩
          case measure => simp [intOf]; omega
        · have hk' : k = ll.length := by omega
          have hq := Ints.of_own hown
          rw [hk', List.take_length] at hq
          have HQ := Lib.hid hq
          clear hq hk' hown hbel
          go_wp2
          go_ret
          exact ⟨_, rfl, HQ.out.1, HQ.out.2, HB'.out⟩

end Go.Proofs.YtndooeffjkofdaaDoor

namespace Go.Proofs.YtndooeffjkofdaaDoor
open Go.RowKit
set_option linter.unusedVariables false
set_option linter.unusedSimpArgs false

theorem run_app_new (ty : TypeId) (g : Nat) (vx : Value) (lx : List Int) (w : World) (hx : Ints w vx lx) (hl : lx.length ≤ 17592186044416) :
    ∃ v' w', (Builtin.append_ #[24, 24] ty #[.slice (some ⟨g, 0, none⟩) 0 0, vx]).run Tryd.prog w = .ok v' w' ∧ Ints w' v' lx ∧ FreshV w.heap.size v' ∧ Below w.heap.size w w' := by
  obtain ⟨i, hi, h0, h1, h2⟩ := info_parts infoInt
  have ht := Tryd.underlying24
  obtain ⟨a, cap, rfl, hlc, hcm, hcells⟩ := hx
  by_cases hne : lx = []
  · subst hne
    refine ⟨.slice (some ⟨g, 0, none⟩) 0 0, w, ?_, ⟨_, 0, rfl, Nat.le_refl _, by decide, .inl rfl⟩, fun k hk => by simp [blk] at hk, Below.refl _ _⟩
    cases a with
    | none => simp [Builtin.append_, run_underlying ht, sizeOf, typeInfo, hi, Builtin.lenOf, Builtin.firstCells, storeCells]
    | some ad => simp [Builtin.append_, run_underlying ht, sizeOf, typeInfo, hi, Builtin.lenOf, Builtin.firstCells, storeCells, loadCells, loadCellsFrom]
  · rcases hcells with h | ⟨g', off, cur, rfl, hg, hs, hc⟩
    · exact absurd h hne
    · have hadd : ∀ j, (⟨g', off, none⟩ : Addr).add j = ⟨g', off + j, none⟩ := fun j => by unfold Addr.add; split <;> simp_all
      obtain ⟨v', w', hrun, r1, r2⟩ := run_append_arg_grows (P := Tryd.prog) w 24 ty 3 i (.int .i64 0) 1 8 ht hi h0 h1 h2 rfl (by decide) ⟨g, 0, none⟩ 0 0 [] rfl (fun j u h => by simp at h)
        ⟨g', off, none⟩ lx.length cap (lx.map (Value.int .i64)) (by simp) (fun j u hj => by
          have hjl : j < lx.length := by
            rcases Nat.lt_or_ge j lx.length with h | h
            · exact h
            · rw [List.getElem?_eq_none (show (lx.map (Value.int .i64)).length ≤ j by simpa using h)] at hj; cases hj
          rw [hadd, cell_of_row w g' _ cur _ _ hg, hc j hjl, ← hj]
          simp [List.getD, hjl]) (by have : 0 < lx.length := List.length_pos_iff.2 hne; omega) (by unfold maxLen; omega) (by omega)
      have hq := Ints.of_own (show Own w' w.heap.size 3 .i64 v' lx by unfold Own; simpa using r1)
      exact ⟨v', w', hrun, hq.1, hq.2, (Below.refl _ w).grown r2 (Nat.le_refl _) (fun k hk => by cases hk)⟩

/-- inside a region that draws its order -/
theorem step_app_new {ops : Array Oper} {o : Oper} {a : Act} {K : Act → World → Prop} {Q : Exit → Act → World → Prop} {E : Prop} (w : World) (hgd : o.guard = none) (s x : Operand)
    (ho : o.op = .call { callee := .builtin .append, args := #[s, x], argTypes := #[24, 24] }) (g : Nat) (vx : Value) (lx : List Int)
    (hs : a.eval s = .slice (some ⟨g, 0, none⟩) 0 0) (hx : a.eval x = vx) (hsrc : Ints w vx lx) (hl : lx.length ≤ 17592186044416)
    (hK : ∀ v' w', Ints w' v' lx → FreshV w.heap.size v' → Below w.heap.size w w' → K (a.put o.dst v') w') :
    if Region.wanted o (yielded ops a.tmps) = true then Oper.wp Tryd.prog o a w K Q else E := by
  have hw : Region.wanted o (yielded ops a.tmps) = true := by simp [Region.wanted, hgd]
  rw [if_pos hw]
  obtain ⟨v', w', hrun, h1, h2, h3⟩ := run_app_new o.type g vx lx w hsrc hl
  unfold Oper.wp
  simp [execOp, ho, resolve, invoke, builtin, hs, hx, hrun, Result.andThen]
  exact hK v' w' h1 h2 h3
/-- in a plain region -/
theorem app_new {ops : Array Oper} {rest : List Oper} {o : Oper} {a : Act} {Q : Exit → Act → World → Prop} (w : World) (hgd : o.guard = none) (s x : Operand)
    (ho : o.op = .call { callee := .builtin .append, args := #[s, x], argTypes := #[24, 24] }) (g : Nat) (vx : Value) (lx : List Int)
    (hs : a.eval s = .slice (some ⟨g, 0, none⟩) 0 0) (hx : a.eval x = vx) (hsrc : Ints w vx lx) (hl : lx.length ≤ 17592186044416)
    (hK : ∀ v' w', Ints w' v' lx → FreshV w.heap.size v' → Below w.heap.size w w' → wpList Tryd.prog ops Q rest (a.put o.dst v') w') :
    wpList Tryd.prog ops Q (o :: rest) a w :=
  wpList_plain hgd fun _ hK' => by
    obtain ⟨v', w', hrun, h1, h2, h3⟩ := run_app_new o.type g vx lx w hsrc hl
    unfold Oper.wp execOp
    simp only [ho, resolve, invoke, builtin, Sem.run_bind, Sem.run_pure, Result.andThen_ok, List.map_toArray, List.map_cons, List.map_nil, hs, hx, hrun]
    exact hK' _ _ (hK v' w' h1 h2 h3)

end Go.Proofs.YtndooeffjkofdaaDoor

namespace Go.Proofs.YtndooeffjkofdaaDoor
open Go.RowKit
set_option linter.unusedVariables false
set_option linter.unusedSimpArgs false

theorem bcell_ {W w1 : World} (hb : Below W.heap.size W w1) : (∀ b o, b < W.heap.size → w1.cell? ⟨b, o, none⟩ = W.cell? ⟨b, o, none⟩) ∧ (∀ b o, b < W.heap.size → w1.frozen? ⟨b, o, none⟩ = W.frozen? ⟨b, o, none⟩) ∧ (∀ b, b < W.heap.size → b < w1.heap.size) :=
  ⟨fun b o h => hb.cell (p := ⟨b, o, none⟩) h, fun b o h => hb.frozen (p := ⟨b, o, none⟩) h, fun b h => Nat.lt_of_lt_of_le h hb.size⟩
theorem held_call {W w w' : World} {A : Prop} (h : A ∧ Below W.heap.size W w) (b : Below w.heap.size w w') : Below W.heap.size W w' := h.2.trans (b.mono h.2.size)
theorem held_alloc {W w : World} {A : Prop} (h : A ∧ Below W.heap.size W w) (o : Obj) : Below W.heap.size W (w.alloc o) := h.2.alloc h.2.size o
theorem held_allocd {W w : World} {A : Prop} (h : A ∧ Below W.heap.size W w.drew) (o : Obj) : Below W.heap.size W (w.alloc o).drew := held_alloc h o
theorem held_set3 {W w : World} {A : Prop} (h : A ∧ Below W.heap.size W w) {b : Nat} (hb : W.heap.size ≤ b) (y0 y1 y2 : Value) : Below W.heap.size W (((w.setCell ⟨b, 0, none⟩ y0).setCell ⟨b, 1, none⟩ y1).setCell ⟨b, 2, none⟩ y2) :=
  set3_below h.2 hb y0 y1 y2
theorem held_set2 {W w : World} {A : Prop} (h : A ∧ Below W.heap.size W w) {b : Nat} (hb : W.heap.size ≤ b) (y0 y1 : Value) : Below W.heap.size W ((w.setCell ⟨b, 0, none⟩ y0).setCell ⟨b, 1, none⟩ y1) :=
  set2_below h.2 hb y0 y1
theorem sep_blk_ge {w : World} {u : Value} {l : List Int} (hu : Ints w u l) {g : Nat} (hg : w.heap.size ≤ g) : ¬ blk u = some g := fun h => by have := hu.lt _ h; omega

/-- behind the region: a new struct of three fields in a block of its own -/
def In3 (T : TypeId) (W : World) (g : Nat) (x y : Value) (l : List Int) (w : World) : Prop :=
  ∃ v, Blk w g #[x, y, v] T ∧ Ints w v l ∧ FreshV W.heap.size v ∧ ¬ blk v = some g ∧ W.heap.size ≤ g ∧ Below W.heap.size W w
theorem in3_mk {T : TypeId} {W w : World} {g : Nat} {v : Value} {l : List Int} (x y : Value) (hb : Below W.heap.size W w) (r : Res3 w g T) (hg : W.heap.size ≤ g) (hv : Ints w v l) (hf : ∀ q, blk v = some q → W.heap.size ≤ q ∧ q ≠ g) :
    In3 T W g x y l (((w.setCell ⟨g, 0, none⟩ x).setCell ⟨g, 1, none⟩ y).setCell ⟨g, 2, none⟩ v) :=
  ⟨v, r.blk_set _ _ _, set3_ints hv (fun q hq => (hf q hq).2) _ _ _, fun q hq => (hf q hq).1, fun h => (hf _ h).2 rfl, hg, set3_below hb hg _ _ _⟩
theorem res3_new (w : World) (x y z : Value) (T : TypeId) : Res3 (w.alloc (.cells #[x, y, z] T)) w.heap.size T := ⟨x, y, z, Blk.new w _ T⟩

theorem in3_new {T : TypeId} {W w : World} {v : Value} {l : List Int} (x y : Value) (hb : Below W.heap.size W w) (hv : Ints w v l) (hf : FreshV W.heap.size v) : In3 T W w.heap.size x y l (w.alloc (.cells #[x, y, v] T)) :=
  ⟨v, Blk.new w _ T, hv.below ((Below.refl _ _).alloc (Nat.le_refl _) _), hf, fun h => by have := hv.lt _ h; omega, hb.size, hb.alloc hb.size _⟩
theorem res3_newd (w : World) (x y z : Value) (T : TypeId) : Res3 (w.alloc (.cells #[x, y, z] T)).drew w.heap.size T := res3_new w x y z T
/-- two fields -/
def Res2 (w : World) (b : Nat) (T : TypeId) : Prop := ∃ x y, Blk w b #[x, y] T
theorem Res2.below {w w' : World} {b : Nat} {T : TypeId} (h : Res2 w b T) (c : Below w.heap.size w w') : Res2 w' b T := by
  obtain ⟨x, y, h⟩ := h; exact ⟨x, y, h.below c⟩
theorem Res2.lt {w : World} {b : Nat} {T : TypeId} (h : Res2 w b T) : b < w.heap.size := by
  obtain ⟨x, y, h⟩ := h; exact h.lt
theorem Res2.blk_set {w : World} {b : Nat} {T : TypeId} (h : Res2 w b T) (y0 y1 : Value) : Blk ((w.setCell ⟨b, 0, none⟩ y0).setCell ⟨b, 1, none⟩ y1) b #[y0, y1] T := by
  obtain ⟨x, y, h⟩ := h; exact set2_blk h y0 y1
theorem res2_new (w : World) (x y : Value) (T : TypeId) : Res2 (w.alloc (.cells #[x, y] T)) w.heap.size T := ⟨x, y, Blk.new w _ T⟩
theorem res2_newd (w : World) (x y : Value) (T : TypeId) : Res2 (w.alloc (.cells #[x, y] T)).drew w.heap.size T := res2_new w x y T
def In2 (T : TypeId) (W : World) (g : Nat) (x : Value) (l : List Int) (w : World) : Prop :=
  ∃ v, Blk w g #[x, v] T ∧ Ints w v l ∧ FreshV W.heap.size v ∧ ¬ blk v = some g ∧ W.heap.size ≤ g ∧ Below W.heap.size W w
theorem in2_mk {T : TypeId} {W w : World} {g : Nat} {v : Value} {l : List Int} (x : Value) (hb : Below W.heap.size W w) (r : Res2 w g T) (hg : W.heap.size ≤ g) (hv : Ints w v l) (hf : ∀ q, blk v = some q → W.heap.size ≤ q ∧ q ≠ g) :
    In2 T W g x l ((w.setCell ⟨g, 0, none⟩ x).setCell ⟨g, 1, none⟩ v) :=
  ⟨v, r.blk_set _ _, set2_ints hv (fun q hq => (hf q hq).2) _ _, fun q hq => (hf q hq).1, fun h => (hf _ h).2 rfl, hg, set2_below hb hg _ _⟩
theorem in2_new {T : TypeId} {W w : World} {v : Value} {l : List Int} (x : Value) (hb : Below W.heap.size W w) (hv : Ints w v l) (hf : FreshV W.heap.size v) : In2 T W w.heap.size x l (w.alloc (.cells #[x, v] T)) :=
  ⟨v, Blk.new w _ T, hv.below ((Below.refl _ _).alloc (Nat.le_refl _) _), hf, fun h => by have := hv.lt _ h; omega, hb.size, hb.alloc hb.size _⟩

end Go.Proofs.YtndooeffjkofdaaDoor
