/- SpacesOf of the program: what its loops keep. -/
import Derived.Test.YtjcgommdeplbbaaSpiL
import Derived.Test.YtjcgommdeplbbaaMg10
import Derived.Test.YtjcgommdeplbbaaBxR
import Derived.Test.YtjcgommdeplbbaaTrn
import Derived.Test.YtjcgommdeplbbaaSrt2
namespace Go.Proofs.Ytjcgommdeplbbaa
open Go.RowKit
set_option linter.unusedVariables false
set_option linter.unusedSimpArgs false

/-- the marks of the loops over a function that have ended -/
def mkD (D : Nat) : Deferred := { target := .collected D, args := #[] }
/-- between two sets -/
def SI (w : World) (N K : Int) (L : List Sp) (Ds : List Nat) (wr : World) : Prop :=
  (∃ v, Blk wr (w.heap.size + 1 + 1) #[v] 22 ∧ OwnX (fun q => w.heap.size + 3 ≤ q ∧ q < wr.heap.size) wr v L) ∧ Blk wr w.heap.size #[.int .i64 N] 3 ∧ Blk wr (w.heap.size + 1) #[.int .i64 K] 3 ∧ Below w.heap.size w wr ∧
    Ds.Nodup ∧ (∀ D ∈ Ds, w.heap.size + 3 ≤ D ∧ wr.heap[D]? = some (.deferred (some []))) ∧ w.heap.size + 3 ≤ wr.heap.size
theorem SI.below {w wr w' : World} {N K : Int} {L : List Sp} {Ds : List Nat} (h : SI w N K L Ds wr) (b : Below wr.heap.size wr w') : SI w N K L Ds w' := by
  obtain ⟨⟨v, h1, h2⟩, h3, h4, h5, h6, h7, h8⟩ := h
  have hs := b.size
  refine ⟨⟨v, h1.below b, h2.keep (fun q hq => ⟨hq.1, by omega⟩) (fun q hq => b.block q hq.2)⟩, h3.below b, h4.below b, h5.trans (b.mono (by omega)), h6, fun D hD => ⟨(h7 D hD).1, ?_⟩, by omega⟩
  have := (h7 D hD).2
  rw [b.block D (Array.getElem?_eq_some_iff.1 this).1]; exact this
/-- the pivots under way: their box b -/
def PB (w0 : World) (b : Nat) (l : List Int) (wr : World) : Prop := ∃ v, Blk wr b #[v] 37 ∧ Own wr (b + 1) 3 .i64 v l ∧ Below w0.heap.size w0 wr ∧ w0.heap.size ≤ b ∧ b + 1 ≤ wr.heap.size
theorem hpb5 {w0 wr w5 : World} {b : Nat} {v : Value} (h1 : Blk wr b #[v] 37) (h2 : Below w0.heap.size w0 wr) (hb : Below (b + 1) wr w5) : Blk w5 b #[v] 37 ∧ (w0.heap.size ≤ b → Below w0.heap.size w0 w5) :=
  ⟨h1.belowB hb (by omega), fun h => h2.trans (hb.mono (by omega))⟩
theorem pb_store {w0 w5 : World} {b : Nat} {v v5 : Value} {l : List Int} (h : Blk w5 b #[v] 37 ∧ (w0.heap.size ≤ b → Below w0.heap.size w0 w5)) (ho : Own w5 (b + 1) 3 .i64 v5 l) (hs : b + 1 ≤ w5.heap.size) (hb : w0.heap.size ≤ b) :
    PB w0 b l (w5.setCell ⟨b, 0, none⟩ v5) := by
  have hg := grow_set w5 ⟨b, 0, none⟩ v5
  refine ⟨v5, h.1.set 0 v5, ho.same fun g hg => heap_setCell_other w5 ⟨b, 0, none⟩ g v5 (fun e => ?_), (h.2 hb).setCell (p := ⟨b, 0, none⟩) hb v5, hb, by have := hg.size; omega⟩
  have := (World.ownsRow.lt ho g hg).1
  dsimp only at e
  omega
/-- the cells under way: their box b -/
def CB (w0 : World) (b : Nat) (L : List (Int × Int)) (wr : World) : Prop := ∃ v, Blk wr b #[v] 41 ∧ OwnC wr (b + 1) v L ∧ Below w0.heap.size w0 wr ∧ w0.heap.size ≤ b ∧ b + 1 ≤ wr.heap.size
/-- a row of integers lies in no row of pairs -/
theorem Ints.grownC {w w' : World} {B : Nat} {u v : Value} {l : List Int} {L : List (Int × Int)} (h : Ints w u l) (ho : OwnC w B v L) (hg : w.grownBy w' v.ownBlock) : Ints w' u l := by
  refine h.keep fun k hku => ?_
  obtain ⟨a', cap', rfl, _, _, rfl | ⟨g2, off2, cur2, rfl, hg2, _, _⟩⟩ := h
  · cases a' <;> simp [blk] at hku
  · have hgk : g2 = k := by
      cases l with
      | nil => simp [blk] at hku
      | cons y l => simpa [blk] using hku
    subst hgk
    refine hg.block g2 (Array.getElem?_eq_some_iff.1 hg2).1 (fun e => ?_)
    rcases ho.2 with ⟨rfl, _⟩ | ⟨g, cap, cur', rfl, _, hh, _⟩
    · simp [Value.ownBlock] at e
    · have : g2 = g := by simpa [Value.ownBlock] using e
      subst this
      rw [hg2] at hh
      simp at hh
theorem CB.new (w : World) : CB w w.heap.size [] (w.alloc (.cells #[.slice none 0 0] 41)) := ⟨.slice none 0 0, Blk.new w _ _, OwnC.nil _ _, (Below.refl _ w).alloc (Nat.le_refl _) _, Nat.le_refl _, by simp⟩
theorem CB.below {w0 wr w' : World} {b : Nat} {L : List (Int × Int)} (h : CB w0 b L wr) (c : Below wr.heap.size wr w') : CB w0 b L w' := by
  obtain ⟨v, h1, h2, h3, h4, h5⟩ := h
  have := c.size
  have := h3.size
  exact ⟨v, h1.below c, h2.below c, h3.trans (c.mono (by omega)), h4, by omega⟩
/-- one pair more: the append and the store -/
theorem CB.app {w0 wr w5 : World} {b : Nat} {v v5 : Value} {L : List (Int × Int)} {x : Int × Int} (h1 : Blk wr b #[v] 41) (h2 : OwnC wr (b + 1) v L) (h3 : Below w0.heap.size w0 wr) (h4 : w0.heap.size ≤ b) (h5 : b + 1 ≤ wr.heap.size)
    (ho : OwnC w5 (b + 1) v5 (L ++ [x])) (hg : (wr.alloc (.cells #[.int .i64 x.1, .int .i64 x.2] 43)).grownBy w5 v.ownBlock) :
    Blk w5 b #[v] 41 ∧ CB w0 b (L ++ [x]) (w5.setCell ⟨b, 0, none⟩ v5) ∧ ∀ u l, Ints wr u l → Ints (w5.setCell ⟨b, 0, none⟩ v5) u l := by
  have hal : Below wr.heap.size wr (wr.alloc (.cells #[.int .i64 x.1, .int .i64 x.2] 43)) := (Below.refl _ wr).alloc (Nat.le_refl _) _
  have hlt : ∀ g, v.ownBlock = some g → b + 1 ≤ g ∧ g < wr.heap.size := fun g hgv => by
    have := World.ownsRow.lt h2 g hgv; omega
  have hbx : Blk w5 b #[v] 41 := by
    unfold Blk
    rw [hg.block b (by rw [World.size_alloc]; omega) (fun e => by have := (hlt b e.symm).1; omega)]
    exact h1.below hal
  have hsz := hg.size
  rw [World.size_alloc] at hsz
  have hb5 : Below w0.heap.size w0 w5 := (h3.alloc h3.size _).grown hg (by rw [World.size_alloc]; omega) (fun k hk => by have := (hlt k hk).1; omega)
  have hgs := grow_set w5 ⟨b, 0, none⟩ v5
  refine ⟨hbx, ⟨v5, hbx.set 0 v5, ho.keep fun g hg' => heap_setCell_other w5 ⟨b, 0, none⟩ g v5 (fun e => ?_), hb5.setCell (p := ⟨b, 0, none⟩) h4 v5, h4, by have := hgs.size; omega⟩, fun u l hu => ?_⟩
  · have := (World.ownsRow.lt ho g hg').1
    dsimp only at e
    omega
  · have hu5 : Ints w5 u l := Ints.grownC (hu.below hal) (h2.below hal) hg
    refine hu5.keep fun k hk => heap_setCell_other w5 ⟨b, 0, none⟩ k v5 (fun e => ?_)
    dsimp only at e
    subst e
    obtain ⟨a2, c2, rfl, _, _, rfl | ⟨g3, o3, cur3, rfl, hg3, _, _⟩⟩ := hu5
    · cases a2 <;> simp [blk] at hk
    · cases l with
      | nil => simp [blk] at hk
      | cons y l =>
        have : g3 = k := by simpa [blk] using hk
        subst this
        unfold Blk at hbx
        rw [hg3] at hbx; simp at hbx
/-- in the range over the boxes: the result under way; lo: the heap's size where the set was begun, wF: the world where the range was -/
def BI (w wF : World) (L : List Sp) (Ds : List Nat) (lo : Nat) (W : World) : Prop :=
  (∃ v, Blk W (w.heap.size + 1 + 1) #[v] 22 ∧ OwnX (fun q => w.heap.size + 3 ≤ q ∧ q < W.heap.size ∧ ¬ (lo ≤ q ∧ q ≤ wF.heap.size + 2)) W v L) ∧
    W.heap[w.heap.size]? = wF.heap[w.heap.size]? ∧ W.heap[w.heap.size + 1]? = wF.heap[w.heap.size + 1]? ∧ (∀ q, lo ≤ q → q < wF.heap.size → W.heap[q]? = wF.heap[q]?) ∧ (∀ D, D ∈ Ds → W.heap[D]? = some (.deferred (some []))) ∧ Below w.heap.size w W ∧ wF.heap.size ≤ W.heap.size
theorem BI.start {w wo wF : World} {N K : Int} {L : List Sp} {Ds : List Nat} (h : SI w N K L Ds wo) (b : Below wo.heap.size wo wF) : BI w wF L Ds wo.heap.size wF := by
  obtain ⟨⟨v, h1, h2⟩, h3, h4, h5, h6, h7, h8⟩ := h
  have hs := b.size
  refine ⟨⟨v, h1.below b, h2.keep (fun q hq => ⟨hq.1, by omega, by omega⟩) (fun q hq => b.block q hq.2)⟩, rfl, rfl, fun _ _ _ => rfl, fun D hD => ?_, h5.trans (b.mono (by omega)), Nat.le_refl _⟩
  have := (h7 D hD).2
  rw [b.block D (Array.getElem?_eq_some_iff.1 this).1]; exact this
theorem BI.grow {w wF A B : World} {L : List Sp} {Ds : List Nat} {lo row : Nat} (h : BI w wF L Ds lo A) (hlo : w.heap.size + 3 ≤ lo) (hlo2 : lo ≤ wF.heap.size) (hg : A.grownBy B (some row)) (h1 : wF.heap.size ≤ row) (h2 : row ≤ wF.heap.size + 2) (hD : ∀ D, D ∈ Ds → D < wF.heap.size) : BI w wF L Ds lo B := by
  obtain ⟨⟨v, k1, k2⟩, k3, k4, k5, k6, k7, k8⟩ := h
  have hs := hg.size
  have hb : ∀ q, q < wF.heap.size → B.heap[q]? = A.heap[q]? := fun q hq => hg.block q (by omega) (by simp; omega)
  refine ⟨⟨v, ?_, k2.keep (fun q hq => ⟨hq.1, by omega, hq.2.2⟩) (fun q hq => hg.block q hq.2.1 (by simp; omega))⟩, (hb _ (by omega)).trans k3, (hb _ (by omega)).trans k4, fun q hq hq2 => (hb q hq2).trans (k5 q hq hq2), fun D hD' => (hb D (hD D hD')).trans (k6 D hD'), ?_, by omega⟩
  · unfold Blk; rw [hb _ (by omega)]; exact k1
  · exact k7.grown hg k7.size (fun k hk => by cases hk; omega)
theorem BI.done {w wo wF W : World} {N K : Int} {L L2 : List Sp} {Ds : List Nat} (h : BI w wF L2 Ds wo.heap.size W) (hD : W.heap[wF.heap.size]? = some (.deferred (some []))) (hS : SI w N K L Ds wo) (b : Below wo.heap.size wo wF) (hlt : ∀ D, D ∈ Ds → D < wF.heap.size) : SI w N K L2 (wF.heap.size :: Ds) W := by
  obtain ⟨⟨v, k1, k2⟩, k3, k4, k5, k6, k7, k8⟩ := h
  obtain ⟨_, h3, h4, h5, h6, h7, h8⟩ := hS
  have hs := b.size
  refine ⟨⟨v, k1, k2.keep (fun q hq => ⟨hq.1, hq.2.1⟩) (fun _ _ => rfl)⟩, ?_, ?_, k7, List.nodup_cons.2 ⟨fun hm => Nat.lt_irrefl _ (hlt _ hm), h6⟩, fun D hD' => ?_, by omega⟩
  · unfold Blk; rw [k3]; exact h3.below b
  · unfold Blk; rw [k4]; exact h4.below b
  · rcases List.mem_cons.1 hD' with rfl | hm
    · exact ⟨by omega, hD⟩
    · exact ⟨(h7 D hm).1, k6 D hm⟩
/-- a matrix that the round has made -/
def MI (w0 : World) (b : Nat) (K N : Int) (v : Value) (l : List Int) (wr : World) : Prop := Blk wr b #[.int .i64 K, .int .i64 N, v] 49 ∧ Ints wr v l ∧ FreshV w0.heap.size v ∧ Below w0.heap.size w0 wr ∧ w0.heap.size ≤ b
theorem MI.below {w0 wr w' : World} {b : Nat} {K N : Int} {v : Value} {l : List Int} (h : MI w0 b K N v l wr) (c : Below wr.heap.size wr w') : MI w0 b K N v l w' := by
  obtain ⟨h1, h2, h3, h4, h5⟩ := h
  exact ⟨h1.below c, h2.below c, h3, h4.trans (c.mono h4.size), h5⟩
theorem MI.drewN {w0 wr : World} {b : Nat} {K N : Int} {v : Value} {l : List Int} (h : MI w0 b K N v l wr) (n : Nat) : MI w0 b K N v l (wr.drewN n) := by
  obtain ⟨h1, h2, h3, h4, h5⟩ := h
  exact ⟨h1, h2.keep fun _ _ => rfl, h3, h4.trans ⟨rfl, rfl, rfl, Nat.le_refl _, fun _ _ => rfl⟩, h5⟩
theorem MI.set {w0 wr : World} {b g off n cap : Nat} {K N : Int} {l : List Int} (h : MI w0 b K N (.slice (some ⟨g, off, none⟩) n cap) l wr) {j : Nat} (hj : j < l.length) (x : Int) : MI w0 b K N (.slice (some ⟨g, off, none⟩) n cap) (l.set j x) (wr.setCell ⟨g, off + j, none⟩ (.int .i64 x)) := by
  obtain ⟨h1, h2, h3, h4, h5⟩ := h
  obtain ⟨h6, h7⟩ := h2.set hj x
  have hb : b ≠ g := by
    intro e
    subst e
    obtain ⟨a', c', e', _, _, rfl | ⟨g', o', cur, e2, hg, _⟩⟩ := h2
    · simp at hj
    · simp only [Value.slice.injEq] at e'
      rw [e2] at e'
      simp only [Option.some.injEq, Addr.mk.injEq, and_true] at e'
      obtain ⟨⟨rfl, _⟩, _⟩ := e'
      unfold Blk at h1
      rw [hg] at h1; simp at h1
  exact ⟨h1.setOther (p := ⟨g, off + j, none⟩) hb _, h6, h3, h4.setCell (p := ⟨g, off + j, none⟩) (h3 g h7) _, h5⟩
/-- the free cells lie in the matrix -/
theorem csX_in {n k s j : Nat} (hj : j < (csX n k s).length) : ∃ r c : Nat, ((csX n k s).getD j (0, 0)) = ((r : Int), (c : Int)) ∧ r < k ∧ c < n := by
  have hm : (csX n k s).getD j (0, 0) ∈ csX n k s := by simp [List.getD, hj]
  obtain ⟨x, hx⟩ : ∃ x, x = (csX n k s).getD j (0, 0) := ⟨_, rfl⟩
  rw [← hx] at hm ⊢
  obtain ⟨h1, h2, h3, _⟩ := cellL_in hm
  obtain ⟨h4, h5, _⟩ := freeP_mem h3
  exact ⟨x.1.toNat, x.2.toNat, by rw [Prod.ext_iff]; exact ⟨by show x.1 = _; omega, by show x.2 = _; omega⟩, by omega, by omega⟩
theorem cell_set {w : World} {p a : Addr} {v : Value} (h : a.block ≠ p.block) : (w.setCell p v).cell? a = w.cell? a := World.cell?_of_block (heap_setCell_other w p a.block v h)
/-- how a round ends -/
theorem BI.fin {w wF W wr w' : World} {L : List Sp} {Ds : List Nat} {lo : Nat} {ks : List Nat} {v v' u : Value} {x : Sp} {n : Int} (h : BI w wF L Ds lo W) (hlo : w.heap.size + 3 ≤ lo) (hlo2 : lo ≤ wF.heap.size) (hD : ∀ D, D ∈ Ds → D < wF.heap.size)
    (hks : ∀ q, q ∈ ks → lo ≤ q ∧ q < wF.heap.size) (hsz : wF.heap.size + 2 < W.heap.size) (hb : Blk W (w.heap.size + 1 + 1) #[v] 22) (hx : OwnX (fun q => w.heap.size + 3 ≤ q ∧ q < W.heap.size ∧ ¬ (lo ≤ q ∧ q ≤ wF.heap.size + 2)) W v L)
    (b : Below W.heap.size W wr) (hg : (wr.alloc (.cells #[.int .i64 n, u] 33)).grownBy w' v.ownBlock) (ho : OwnX (fun q => w.heap.size + 3 ≤ q ∧ q < w'.heap.size ∧ ¬ (lo ≤ q ∧ q ≤ wF.heap.size + 2)) w' v' (L ++ [x])) :
    Blk w' (w.heap.size + 1 + 1) #[v] 22 ∧ BI w wF (L ++ [x]) Ds lo (w'.setCell ⟨w.heap.size + 1 + 1, 0, none⟩ v') ∧ KeepR ks wF.heap.size W (w'.setCell ⟨w.heap.size + 1 + 1, 0, none⟩ v') := by
  have hal : Below wr.heap.size wr (wr.alloc (.cells #[.int .i64 n, u] 33)) := (Below.refl _ wr).alloc (Nat.le_refl _) _
  have bs := b.size
  have hs := hg.size
  rw [World.size_alloc] at hs
  obtain ⟨_, e0, e1, ek, eD, hbw, hwf⟩ := h
  obtain ⟨us, vss, hr1, hr2, hr3, hr4⟩ := hx
  -- blocks of W that are not v's own
  have hkeep : ∀ q, q < W.heap.size → v.ownBlock ≠ some q → w'.heap[q]? = W.heap[q]? := fun q hq hne => by
    rw [hg.block q (by rw [World.size_alloc]; omega) (fun e => hne e.symm), hal.block q (by omega), b.block q hq]
  have hdef : ∀ q o, q < W.heap.size → W.heap[q]? = some (.deferred o) → v.ownBlock ≠ some q := fun q o hq hd e => by
    rcases hr1.2 with ⟨rfl, _⟩ | ⟨g, cap, cur, rfl, _, hh, _⟩
    · simp [Value.ownBlock] at e
    · have : g = q := by simpa [Value.ownBlock] using e
      subst this
      rw [hd] at hh; simp at hh
  have hP : ∀ q, (lo ≤ q ∧ q ≤ wF.heap.size + 2) ∨ q < w.heap.size + 3 → v.ownBlock ≠ some q := fun q hq e => by
    have := hr2 q e
    omega
  have hbk : Blk w' (w.heap.size + 1 + 1) #[v] 22 := by unfold Blk; rw [hkeep _ (by omega) (hP _ (by omega))]; exact hb
  have hset : ∀ q, q ≠ w.heap.size + 1 + 1 → (w'.setCell ⟨w.heap.size + 1 + 1, 0, none⟩ v').heap[q]? = w'.heap[q]? := fun q hq => heap_setCell_other w' ⟨w.heap.size + 1 + 1, 0, none⟩ q v' hq
  have hss := (grow_set w' ⟨w.heap.size + 1 + 1, 0, none⟩ v').size
  refine ⟨hbk, ⟨⟨v', hbk.set 0 v', ho.keep (fun q hq => ⟨hq.1, by omega, hq.2.2⟩) (fun q hq => hset q (by omega))⟩, ?_, ?_, fun q hq hq2 => ?_, fun D hD' => ?_, ?_, by omega⟩, by omega, fun q hq => ?_, fun q hq hq2 => ?_⟩
  · rw [hset _ (by omega), hkeep _ (by omega) (hP _ (by omega))]; exact e0
  · rw [hset _ (by omega), hkeep _ (by omega) (hP _ (by omega))]; exact e1
  · rw [hset _ (by omega), hkeep _ (by omega) (hP _ (by omega))]; exact ek q hq hq2
  · have h1 := eD D hD'
    have h2 := hD D hD'
    have hne : D ≠ w.heap.size + 1 + 1 := fun e => by
      rw [e] at h1
      unfold Blk at hb
      rw [hb] at h1; simp at h1
    rw [hset _ hne, hkeep _ (by omega) (hdef D _ (by omega) h1)]; exact h1
  · have h1 : Below w.heap.size w w' := ((hbw.trans (b.mono hbw.size)).trans (hal.mono (by have := hbw.size; omega))).grown hg (by rw [World.size_alloc]; have := hbw.size; omega) (fun k hk => by have := (hr2 k hk).1; omega)
    exact h1.setCell (p := ⟨w.heap.size + 1 + 1, 0, none⟩) (by show w.heap.size ≤ w.heap.size + 1 + 1; omega) v'
  · obtain ⟨h1, h2⟩ := hks q hq
    rw [hset _ (by omega), hkeep _ (by omega) (hP _ (by omega))]
  · rw [hset _ (by omega), hkeep _ (by omega) (hP _ (by omega))]
theorem arX.lt {P : Nat → Prop} {w : World} : ∀ {us : List Value} {vss : List (List Value)} {L : List Sp}, arX P w us vss L → arX (fun q => P q ∧ q < w.heap.size) w us vss L
  | [], [], [], _ => trivial
  | _ :: _, _ :: _, _ :: _, h => ⟨h.1, fun q hq => ⟨h.2.1 q hq, h.1.ult q hq⟩, fun x hx q hq => ⟨h.2.2.1 x hx q hq, h.1.vlt x hx q hq⟩, arX.lt h.2.2.2⟩
  | [], [], _ :: _, h => h.elim
  | [], _ :: _, _, h => h.elim
  | _ :: _, [], _, h => h.elim
  | _ :: _, _ :: _, [], h => h.elim
theorem OwnX.andLt {P : Nat → Prop} {w : World} {v : Value} {L : List Sp} (h : OwnX P w v L) : OwnX (fun q => P q ∧ q < w.heap.size) w v L := by
  obtain ⟨us, vss, h1, h2, h3, h4⟩ := h
  exact ⟨us, vss, h1, fun g hg => ⟨h2 g hg, (World.ownsRow.lt h1 g hg).2⟩, h3.lt, h4⟩
theorem Blk.grownX {A w' : World} {b : Nat} {cs : Array Value} {T : TypeId} {P : Nat → Prop} {v : Value} {L : List Sp} (h : Blk A b cs T) (hT : T ≠ 33) (ho : OwnX P A v L) (hg : A.grownBy w' v.ownBlock) : Blk w' b cs T := by
  obtain ⟨us, vss, h1, _⟩ := ho
  unfold Blk at h ⊢
  rw [hg.block b (Array.getElem?_eq_some_iff.1 h).1 (fun e => ?_)]
  · exact h
  · rcases h1.2 with ⟨rfl, _⟩ | ⟨g, cap, cur, rfl, _, hh, _⟩
    · simp [Value.ownBlock] at e
    · have : b = g := by simpa [Value.ownBlock] using e
      subst this
      rw [h] at hh
      simp at hh
      exact hT hh.2
/-- the append at a round's end -/
theorem step37 {ops : Array Oper} {o : Oper} {a : Act} {K : Act → World → Prop} {Q : Exit → Act → World → Prop} {E : Prop} {w wF W w9 : World} {lo B : Nat} (hgd : o.guard = none) (s x : Operand)
    (ho : o.op = .call { callee := .builtin .append, args := #[s, x], argTypes := #[22, 22] }) (ov : Value) (Lo : List Sp) (n : Int) (u : Value) (rows : List (List Int))
    (hs : a.eval s = ov) (hx : a.eval x = .slice (some ⟨w9.heap.size, 0, none⟩) 1 1) (hown : OwnX (fun q => w.heap.size + 3 ≤ q ∧ q < W.heap.size ∧ ¬ (lo ≤ q ∧ q ≤ wF.heap.size + 2)) W ov Lo) (b : Below W.heap.size W w9)
    (hu : OwnRD w9 B u rows) (hB : W.heap.size ≤ B) (hz : wF.heap.size + 2 < W.heap.size) (hz2 : w.heap.size + 3 ≤ W.heap.size) (hl : Lo.length + 1 ≤ 1099511627776)
    (hK : ∀ v' w', OwnX (fun q => w.heap.size + 3 ≤ q ∧ q < w'.heap.size ∧ ¬ (lo ≤ q ∧ q ≤ wF.heap.size + 2)) w' v' (Lo ++ [(n, rows)]) → (w9.alloc (.cells #[.int .i64 n, u] 33)).grownBy w' ov.ownBlock → K (a.put o.dst v') w') :
    if Region.wanted o (yielded ops a.tmps) = true then Oper.wp Try.prog o a (w9.alloc (.cells #[.int .i64 n, u] 33)) K Q else E := by
  have bs := b.size
  obtain ⟨vs, h1, h2, h3, h4⟩ := hu.rwv
  refine step_app_spx (P := fun q => w.heap.size + 3 ≤ q ∧ q < W.heap.size ∧ ¬ (lo ≤ q ∧ q ≤ wF.heap.size + 2)) (P' := fun q => w.heap.size + 3 ≤ q ∧ ¬ (lo ≤ q ∧ q ≤ wF.heap.size + 2)) w9 hgd s x ho ov Lo n u vs rows hs hx (hown.keep (fun _ hq => hq) (fun q hq => b.block q hq.2.1)) (fun q hq => ⟨by omega, hq.1, hq.2.2⟩) h1 (fun q hq => ?_) (fun y hy q hq => ?_) h4 (by omega) hl (fun v' w' ho' hg' => hK v' w' (ho'.andLt.keep (fun q hq => ⟨hq.1.1, hq.2, hq.1.2⟩) (fun _ _ => rfl)) hg')
  · have := h2 q hq; omega
  · have := h3 y hy q hq; omega
/-- a block of cells -/
def isCl (w : World) (q : Nat) : Prop := ∃ cs T, w.heap[q]? = some (.cells cs T (0, 0))
theorem Ints.isCl {w : World} {v : Value} {l : List Int} (h : Ints w v l) : ∀ q, blk v = some q → isCl w q := by
  obtain ⟨a, cap, rfl, _, _, rfl | ⟨g, off, cur, rfl, hg, _⟩⟩ := h <;> intro k hk
  · cases a <;> simp [blk] at hk
  · cases l with
    | nil => simp [blk] at hk
    | cons x l =>
      have : g = k := by simpa [blk] using hk
      subst this
      exact ⟨_, _, hg⟩
theorem arR_isCl {w : World} : ∀ {vs : List Value} {ll : List (List Int)}, arR 0 w vs ll → ∀ x ∈ vs, ∀ q, blk x = some q → isCl w q
  | [], [], _, x, hx => by simp at hx
  | v :: vs, _ :: _, h, x, hx => by
    rcases List.mem_cons.1 hx with rfl | hx
    · exact h.1.isCl
    · exact arR_isCl h.2.2 x hx
  | [], _ :: _, h, _, _ => h.elim
  | _ :: _, [], h, _, _ => h.elim
theorem RwV.isCl {w : World} {u : Value} {vs : List Value} {ll : List (List Int)} (h : RwV w u vs ll) : ∀ q, blk u = some q → isCl w q := by
  obtain ⟨⟨a, cap, rfl, h1, h2, h3⟩, hr⟩ := h
  intro q hq
  rcases h3 with rfl | ⟨g, off, cur, rfl, hg, hs, ht⟩
  · cases a <;> simp [blk] at hq
  · cases ll with
    | nil => simp [blk] at hq
    | cons l ll =>
      have : g = q := by simpa [blk] using hq
      subst this
      exact ⟨_, _, hg⟩
theorem arX.isCl {P : Nat → Prop} {w : World} : ∀ {us : List Value} {vss : List (List Value)} {L : List Sp}, arX P w us vss L → arX (fun q => P q ∧ isCl w q) w us vss L
  | [], [], [], _ => trivial
  | _ :: _, _ :: _, _ :: _, h => ⟨h.1, fun q hq => ⟨h.2.1 q hq, h.1.isCl q hq⟩, fun x hx q hq => ⟨h.2.2.1 x hx q hq, arR_isCl h.1.2 x hx q hq⟩, arX.isCl h.2.2.2⟩
  | [], [], _ :: _, h => h.elim
  | [], _ :: _, _, h => h.elim
  | _ :: _, [], _, h => h.elim
  | _ :: _, _ :: _, [], h => h.elim
theorem OwnX.isCl {P : Nat → Prop} {w : World} {v : Value} {L : List Sp} (h : OwnX P w v L) : OwnX (fun q => P q ∧ isCl w q) w v L := by
  obtain ⟨us, vss, h1, h2, h3, h4⟩ := h
  refine ⟨us, vss, h1, fun g hg => ⟨h2 g hg, ?_⟩, h3.isCl, h4⟩
  rcases h1.2 with ⟨rfl, _⟩ | ⟨g', cap, cur, rfl, _, hh, _⟩
  · simp [Value.ownBlock] at hg
  · have : g' = g := by simpa [Value.ownBlock] using hg
    subst this
    exact ⟨_, _, hh⟩
/-- the marks are taken off at the function's end -/
theorem leavesM {P : Program} {fn : Func} {tmps : Array Value} {R : Ending → World → Prop} : ∀ (Ds : List Nat) (W : World), Ds.Nodup → (∀ D, D ∈ Ds → W.heap[D]? = some (.deferred (some []))) →
    (∀ W', W'.os = W.os → W'.tape = W.tape → W'.output = W.output → W'.heap.size = W.heap.size → (∀ q, q ∉ Ds → W'.heap[q]? = W.heap[q]?) → LeavesIn Fence.wide 2 P fn tmps R [] .returning W') → LeavesInM Fence.wide 2 P fn tmps R (Ds.map mkD) .returning W
  | [], W, _, _, h => h W rfl rfl rfl rfl (fun _ _ => rfl)
  | D :: Ds, W, hn, hd, h => by
    obtain ⟨hn1, hn2⟩ := List.nodup_cons.1 hn
    refine ⟨by simp, .inl ⟨D, _, rfl, run_takeDeferred (hd D (by simp)), leavesM Ds _ hn2 (fun D' hD' => ?_) (fun W' e1 e2 e3 e4 e5 => h W' e1 e2 e3 (by rw [e4]; simp) (fun q hq => ?_))⟩⟩
    · rw [World.putObj_heap_other (fun e => hn1 (by rw [← e]; exact hD'))]
      exact hd D' (by simp [hD'])
    · rw [e5 q (fun hm => hq (by simp [hm])), World.putObj_heap_other (fun e => hq (by simp [e]))]
/-- spacesOf's result -/
def SpzOK (w : World) (L : List Sp) (e : Ending) (w' : World) : Prop := ∃ v L', e = .returned v ∧ L'.Perm L ∧ L'.Pairwise (fun a b => ¬ cmpR b.2 a.2 < 0) ∧ OwnX (fun q => w.heap.size ≤ q ∧ q < w'.heap.size) w' v L' ∧ Below w.heap.size w w'
/-- behind the sort -/
theorem SI.fin {w wo w' W' : World} {N K : Int} {L L' : List Sp} {Ds : List Nat} {v : Value} (h : SI w N K L Ds wo) (hv : Blk wo (w.heap.size + 1 + 1) #[v] 22) (ho : OwnX (fun q => w.heap.size + 3 ≤ q ∧ q < wo.heap.size) wo v L)
    (hx : OwnX (fun q => w.heap.size + 3 ≤ q ∧ q < wo.heap.size) w' v L') (hg : wo.grownBy w' v.ownBlock) :
    (∀ D, D ∈ Ds → w'.heap[D]? = some (.deferred (some []))) ∧ (W'.os = w'.os → W'.tape = w'.tape → W'.output = w'.output → W'.heap.size = w'.heap.size → (∀ q, q ∉ Ds → W'.heap[q]? = w'.heap[q]?) → OwnX (fun q => w.heap.size ≤ q ∧ q < W'.heap.size) W' v L' ∧ Below w.heap.size w W') := by
  obtain ⟨_, h3, h4, h5, h6, h7, h8⟩ := h
  have hs := hg.size
  have hD : ∀ D, D ∈ Ds → w'.heap[D]? = some (.deferred (some [])) := fun D hD => by
    have h1 := (h7 D hD).2
    rw [hg.block D (Array.getElem?_eq_some_iff.1 h1).1 (fun e => ?_)]; exact h1
    obtain ⟨cs, T, hc⟩ := ((ho.isCl).choose_spec.choose_spec.2.1 D e.symm).2
    rw [h1] at hc; simp at hc
  refine ⟨hD, fun e1 e2 e3 e4 e5 => ⟨hx.isCl.keep (fun q hq => ⟨by omega, by omega⟩) (fun q hq => e5 q (fun hm => ?_)), ?_⟩⟩
  · obtain ⟨cs, T, hc⟩ := hq.2
    rw [hD q hm] at hc; simp at hc
  · have hb : Below w.heap.size w w' := h5.grown hg (by omega) (fun k hk => by
      have := (ho.choose_spec.choose_spec.2.1 k hk).1
      omega)
    exact ⟨e1.trans hb.os, e2.trans hb.tape, e3.trans hb.output, by rw [e4]; exact hb.size, fun k hk => by
      rw [e5 k (fun hm => by have := (h7 k hm).1; omega)]; exact hb.block k hk⟩
end Go.Proofs.Ytjcgommdeplbbaa
