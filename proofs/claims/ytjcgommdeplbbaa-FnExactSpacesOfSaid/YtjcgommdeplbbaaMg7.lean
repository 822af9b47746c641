/- Lists of digits: one digit set; the next list in order. No program is read here. A range over a function whose list lies in cells that the function itself turns between two rounds: a law of the walk, for a body that is never left early. The program's boxes: the lists of numbers, one after the other, in one block. -/
import Derived.Test.YtjcgommdeplbbaaPow
import Derived.Test.YtjcgommdeplbbaaMg1
import Derived.RangeFuncNested
import Derived.OwnWalkIn
import Derived.TacticsInMore
import Derived.LoopIn
import Derived.Sort.LoopGhostIn
import Derived.Sort.BigQuietIn
import Derived.Sort.QuietTacIn
import Derived.Sort.QuietIn
namespace Go.Proofs.Ytjcgommdeplbbaa
set_option linter.unusedVariables false
set_option linter.unusedSimpArgs false

theorem dig_set {p : Int} (hp0 : 2 ≤ p) (x d : Int) (hd : 0 ≤ d) (hd2 : d < p) (t j : Nat) :
    (x + (d - x / p ^ t % p) * p ^ t) / p ^ j % p = if j = t then d else x / p ^ j % p := by
  have hpos : ∀ k : Nat, 0 < p ^ k := fun k => Int.pow_pos (by omega)
  obtain ⟨q, hq⟩ : ∃ q, q = x / p ^ t := ⟨_, rfl⟩
  rw [← hq]
  have hq1 : q % p = q - p * (q / p) := Int.emod_def q p
  have hdv : (x + (d - q % p) * p ^ t) / p ^ t = q + (d - q % p) := by
    rw [Int.add_mul_ediv_right _ _ (by have := hpos t; omega), ← hq]
  have hdp : (q + (d - q % p)) = d + p * (q / p) := by rw [hq1]; omega
  by_cases hj : j = t
  · subst hj
    rw [if_pos rfl, hdv, hdp, Int.add_mul_emod_self_left]
    exact Int.emod_eq_of_lt hd hd2
  · rw [if_neg hj]
    rcases Nat.lt_or_ge j t with h | h
    · obtain ⟨s, hs⟩ : ∃ s, t = j + 1 + s := ⟨t - j - 1, by omega⟩
      have hpw : p ^ t = p ^ j * (p * p ^ s) := by rw [hs, Int.pow_add, Int.pow_succ, Int.mul_assoc]
      have hmul : (d - q % p) * p ^ t = p ^ j * (p * ((d - q % p) * p ^ s)) := by
        rw [hpw, Int.mul_left_comm, Int.mul_left_comm (d - q % p) p]
      rw [hmul, Int.add_mul_ediv_left _ _ (by have := hpos j; omega), Int.add_mul_emod_self_left]
    · obtain ⟨s, hs⟩ : ∃ s, j = t + 1 + s := ⟨j - t - 1, by omega⟩
      have hsp : ∀ y : Int, y / p ^ j = y / p ^ t / p / p ^ s := fun y => by
        rw [Int.ediv_ediv_of_nonneg (Int.le_of_lt (hpos t)), Int.ediv_ediv_of_nonneg (by rw [← Int.pow_succ]; exact Int.le_of_lt (hpos _)), hs, Int.pow_add, Int.pow_succ]
      rw [hsp, hsp, hdv, hdp, ← hq, Int.add_mul_ediv_left _ _ (by omega), Int.ediv_eq_zero_of_lt hd hd2, Int.zero_add]
theorem vecL_set {p : Int} (hp0 : 2 ≤ p) {m t : Nat} (ht : t < m) (x d : Int) (hd : 0 ≤ d) (hd2 : d < p) :
    (vecL p m x).set (m - 1 - t) d = vecL p m (x + (d - x / p ^ t % p) * p ^ t) := by
  apply List.ext_getElem (by simp [vecL_len])
  intro i h1 h2
  have hi : i < m := by simpa [vecL_len] using h2
  rw [List.getElem_set]
  have hg : ∀ y, ∀ h : i < (vecL p m y).length, (vecL p m y)[i] = y / p ^ (m - 1 - i) % p := fun y h => by
    have e : (vecL p m y)[i] = (vecL p m y).getD i 0 := by simp [List.getD, h]
    rw [e]
    unfold vecL
    rw [gen_get _ _ _ hi]
  rw [hg _ h2, dig_set hp0 x d hd hd2]
  by_cases h : m - 1 - t = i
  · rw [if_pos h, if_pos (by omega)]
  · rw [if_neg h, if_neg (by omega), hg]
theorem vecL_zero {p : Int} (m : Nat) : vecL p m 0 = List.replicate m 0 := by
  apply List.ext_getElem (by simp [vecL_len])
  intro i h1 h2
  unfold vecL gen
  simp
/-- the digit at place t when the t places behind it have just been set back -/
theorem dig_at {p c : Int} (hp0 : 2 ≤ p) (t : Nat) (hdvd : p ^ t ∣ c + 1) (hc : 0 ≤ c) : (c + 1 - p ^ t) / p ^ t % p = ((c + 1) / p ^ t - 1) % p ∧ 0 ≤ c + 1 - p ^ t := by
  have hpos : 0 < p ^ t := Int.pow_pos (by omega)
  have h1 : (c + 1 - p ^ t) / p ^ t = (c + 1) / p ^ t - 1 := by
    rw [show c + 1 - p ^ t = c + 1 + (-1) * p ^ t by omega, Int.add_mul_ediv_right _ _ (by omega)]; omega
  refine ⟨by rw [h1], ?_⟩
  have := Int.le_of_dvd (by omega) hdvd
  omega
theorem box_back {p c : Int} (hp0 : 2 ≤ p) {m t : Nat} (ht : t < m) (hdvd : p ^ t ∣ c + 1) (hc : 0 ≤ c) (h : (vecL p m (c + 1 - p ^ t)).getD (m - 1 - t) 0 = p - 1) :
    p ^ (t + 1) ∣ c + 1 ∧ (vecL p m (c + 1 - p ^ t)).set (m - 1 - t) 0 = vecL p m (c + 1 - p ^ (t + 1)) := by
  have hpos : 0 < p ^ t := Int.pow_pos (by omega)
  rw [vecL_get p m _ t ht] at h
  obtain ⟨h1, h2⟩ := dig_at hp0 t hdvd hc
  have h0 := h
  rw [h1] at h
  obtain ⟨z, hz⟩ := hdvd
  have hz2 : (c + 1) / p ^ t = z := by rw [hz, Int.mul_ediv_cancel_left _ (by omega)]
  rw [hz2] at h
  have hzp : p ∣ z := by
    have h3 := Int.emod_def (z - 1) p
    rw [h] at h3
    exact ⟨(z - 1) / p + 1, by rw [Int.mul_add]; omega⟩
  refine ⟨?_, ?_⟩
  · obtain ⟨y, hy⟩ := hzp
    exact ⟨y, by rw [hz, hy, Int.pow_succ, Int.mul_assoc]⟩
  · rw [vecL_set hp0 ht _ 0 (by omega) (by omega), h0, Int.pow_succ]
    congr 1
    have : (0 - (p - 1)) * p ^ t = p ^ t - p ^ t * p := by rw [Int.zero_sub, Int.neg_sub, Int.sub_mul, Int.one_mul, Int.mul_comm p]
    rw [this]; omega
theorem box_next {p c : Int} (hp0 : 2 ≤ p) {m t : Nat} (ht : t < m) (hdvd : p ^ t ∣ c + 1) (hc : 0 ≤ c) (h : (vecL p m (c + 1 - p ^ t)).getD (m - 1 - t) 0 ≠ p - 1) :
    0 ≤ (vecL p m (c + 1 - p ^ t)).getD (m - 1 - t) 0 ∧ (vecL p m (c + 1 - p ^ t)).getD (m - 1 - t) 0 < p ∧ (vecL p m (c + 1 - p ^ t)).set (m - 1 - t) ((vecL p m (c + 1 - p ^ t)).getD (m - 1 - t) 0 + 1) = vecL p m (c + 1) := by
  have hpos : 0 < p ^ t := Int.pow_pos (by omega)
  rw [vecL_get p m _ t ht] at h ⊢
  have h3 := Int.emod_nonneg ((c + 1 - p ^ t) / p ^ t) (show p ≠ 0 by omega)
  have h4 := Int.emod_lt_of_pos ((c + 1 - p ^ t) / p ^ t) (show 0 < p by omega)
  refine ⟨h3, h4, ?_⟩
  rw [vecL_set hp0 ht _ _ (by omega) (by omega)]
  congr 1
  obtain ⟨d, hd⟩ : ∃ d, d = (c + 1 - p ^ t) / p ^ t % p := ⟨_, rfl⟩
  rw [← hd]
  rw [show d + 1 - d = 1 by omega, Int.one_mul]; omega
theorem box_last {p c : Int} (hp0 : 2 ≤ p) {m t : Nat} (ht : t < m) (hdvd : p ^ t ∣ c + 1) (hc : 0 ≤ c) (h : (vecL p m (c + 1 - p ^ t)).getD (m - 1 - t) 0 ≠ p - 1) : c + 1 ≠ p ^ m := by
  intro e
  apply h
  have hpos : 0 < p ^ t := Int.pow_pos (by omega)
  rw [vecL_get p m _ t ht, (dig_at hp0 t hdvd hc).1, e]
  obtain ⟨s, hs⟩ : ∃ s, m = t + 1 + s := ⟨m - t - 1, by omega⟩
  rw [hs, Int.pow_add, Int.pow_succ, Int.mul_assoc, Int.mul_ediv_cancel_left _ (by omega)]
  obtain ⟨z, hz⟩ : ∃ z, z = p ^ s := ⟨_, rfl⟩
  rw [← hz, show p * z - 1 = (p - 1) + p * (z - 1) by rw [Int.mul_sub]; omega, Int.add_mul_emod_self_left]
  exact Int.emod_eq_of_lt (by omega) (by omega)
end Go.Proofs.Ytjcgommdeplbbaa

namespace Go.Proofs.Ytjcgommdeplbbaa
open Go.RowKit
set_option linter.unusedVariables false
set_option linter.unusedSimpArgs false

/-- what a round keeps: the blocks ks, and the three blocks of the loop from B on -/
def KeepR (ks : List Nat) (B : Nat) (W W' : World) : Prop := W.heap.size ≤ W'.heap.size ∧ (∀ q, q ∈ ks → W'.heap[q]? = W.heap[q]?) ∧ ∀ q, B ≤ q → q ≤ B + 2 → W'.heap[q]? = W.heap[q]?
/-- how a round's body may be left -/
def RndPost (ks : List Nat) (B : Nat) (I : Nat → World → Prop) (i : Nat) (W : World) : Exit → Act → World → Prop
  | .normal, _, W' => I (i + 1) W' ∧ KeepR ks B W W'
  | _, _, _ => False
/-- the function's contract: from a world whose heap is B + 2 long on, N rounds, the list in block B + 2 -/
def SeqCells (P : Program) (gf : Nat) (lb : Array Value) (x : Value) (ks : List Nat) (N : Nat) (Here : Nat → World → Prop) (w : World) : Prop :=
  ∀ (l : Nat) (J : Nat → World → Prop) (W : World), W.heap.size = w.heap.size + 2 → Below w.heap.size w W →
    (∀ i A B, J i A → A.grownBy B (some (w.heap.size + 2)) → J i B) →
    (∀ i W1, i < N → J i W1 → Here i W1 → YieldAt Fence.wide 1 P l #[x] W1 fun e W' => e = .returned (.bool true) ∧ J (i + 1) W' ∧ W1.heap.size ≤ W'.heap.size ∧ (∀ q, q ∈ ks → W'.heap[q]? = W1.heap[q]?) ∧ W'.heap[w.heap.size + 2]? = W1.heap[w.heap.size + 2]?) →
    J 0 W → Calls P gf (#[.func (.yield l) #[] #[]] ++ lb) W fun e W' => (∃ v, e = .returned v) ∧ J N W'

theorem wp_rangeFunc_cells {P : Program} {g : Operand} {ps : Array Tmp} {assign body : Code} {Q : Exit → Act → World → Prop} {a : Act} {w : World} {gf : Nat} {lb : Array Value}
    (hg : a.eval g = .func (.func gf) #[] lb) (eg : ∀ args w, (callFunc gf args).run P w = .ok (.enter gf args) w) (x : Value) (hps : ps.size = 1) (ks : List Nat) (hks : ∀ q, q ∈ ks → q < w.heap.size)
    (N : Nat) (Here : Nat → World → Prop) (hHere : ∀ i A B, Here i A → B.heap[w.heap.size + 2]? = A.heap[w.heap.size + 2]? → Here i B) (hseq : SeqCells P gf lb x ks N Here w)
    (I : Nat → World → Prop) (hI : ∀ i A B row, I i A → A.grownBy B (some row) → w.heap.size ≤ row → row ≤ w.heap.size + 2 → I i B) (h0 : I 0 w) (a₁ : Act)
    (hassign : ∀ (l : Nat) (W : World) (K : Act → World → Prop), K a₁ W → assign.wpIn (Fence.wide.inRound l) 1 P (Exit.then K (fun _ _ _ => False)) { tmps := (ps.zip #[x]).foldl (fun t (p, v) => t.setIfInBounds p v) a.tmps, defers := [] } W)
    (hbody : ∀ (l i : Nat) (W : World), i < N → I i W → Here i W → w.heap.size + 2 < W.heap.size → body.wpIn (Fence.wide.inRound l) 1 P (RndPost ks w.heap.size I i W) a₁ W)
    (hHsz : ∀ i A, Here i A → w.heap.size + 2 < A.heap.size)
    (hdone : ∀ W, I N W → W.heap[w.heap.size]? = some (.deferred (some [])) → Q .normal { a with defers := { target := .collected w.heap.size, args := #[] } :: a.defers } W) :
    (Code.rangeFunc g ps assign body).wp P Q a w := by
  refine (wpIn_wide (n := 2)).1 (wpIn_rangeFunc ?_)
  intro fn hfn
  obtain ⟨rec, hrec⟩ : ∃ rec : LoopState → Option Code → Loop, rec = fun st pe => { state := st, pending := pe, fn, tmps := a.tmps, params := ps, assign, body, defers := w.heap.size } := ⟨_, rfl⟩
  obtain ⟨W1, hW1⟩ : ∃ W1, (w.alloc (.deferred (some []))).alloc (.loop (rec .ready none)) = W1 := ⟨_, rfl⟩
  have hs1 : W1.heap.size = w.heap.size + 2 := by rw [← hW1]; simp
  have hL1 : W1.heap[w.heap.size + 1]? = some (.loop (rec .ready none)) := by
    rw [← hW1]; have := World.alloc_heap_new (w.alloc (.deferred (some []))) (.loop (rec .ready none)); rwa [World.size_alloc] at this
  have hK1 : W1.heap[w.heap.size]? = some (.deferred (some [])) := by
    rw [← hW1]; exact (Below.heap_alloc _ _ _ (by simp)).trans (World.alloc_heap_new w _)
  have hb1 : Below w.heap.size w W1 := by rw [← hW1]; exact ((Below.refl _ w).alloc (Nat.le_refl _) _).alloc (by simp) _
  have hI1 : I 0 W1 := hI 0 w W1 w.heap.size h0 ⟨hb1.os, hb1.tape, hb1.output, hb1.size, fun k hk _ => hb1.block k hk⟩ (Nat.le_refl _) (by omega)
  refine ⟨w.heap.size + 1, [{ target := .collected w.heap.size, args := #[] }], W1, { target := .fn (.func gf) lb, args := #[.func (.yield (w.heap.size + 1)) #[] #[]] }, W1, gf,
    #[.func (.yield (w.heap.size + 1)) #[] #[]] ++ lb, W1, ?_, ?_, (fun _ _ => trivial), ?_, (fun _ => (by omega)), ?_⟩
  · rw [← hW1, hrec]; exact run_enterLoop_outer _ _ _ _ _
  · simp only [resolve, hg]
    simp [go_sem]
  · simp [invoke, go_sem, eg]
  · have hput : ∀ (W : World) (o : Obj), W.grownBy (W.putObj (w.heap.size + 1) o) (some (w.heap.size + 1)) := fun W o => grownBy_putObj' W _ o
    refine callsIn_wide.2 ((hseq (w.heap.size + 1)
      (fun i W => I i W ∧ W.heap[w.heap.size + 1]? = some (.loop (rec .ready none)) ∧ W.heap[w.heap.size]? = some (.deferred (some []))) W1 hs1 hb1 ?_ ?_ ⟨hI1, hL1, hK1⟩).mono ?_)
    · rintro i A B ⟨h1, h2, h3⟩ hgr
      refine ⟨hI i A B _ h1 hgr (by omega) (Nat.le_refl _), ?_, ?_⟩
      · rw [hgr.block _ (Array.getElem?_eq_some_iff.1 h2).1 (by simp)]; exact h2
      · rw [hgr.block _ (Array.getElem?_eq_some_iff.1 h3).1 (by simp)]; exact h3
    · rintro i W hiN ⟨hi, hl, hk⟩ hH
      have hlt : w.heap.size + 1 < W.heap.size := (Array.getElem?_eq_some_iff.1 hl).1
      have hy := run_yield (P := P) (args := #[x]) hl (by rw [hrec]; exact hps.symm)
      rw [hrec] at hy
      refine ⟨fn, _, assign, body, hy, roundIn_of_wpIn hfn (hassign _ W _ ⟨_, run_beginRound hl (by rw [hrec]), ?_⟩)⟩
      obtain ⟨W2, hW2⟩ : ∃ W2, W2 = W.putObj (w.heap.size + 1) (.loop { rec .ready none with state := .busy }) := ⟨_, rfl⟩
      rw [← hW2]
      have hl2 : W2.heap[w.heap.size + 1]? = some (.loop { rec .ready none with state := .busy }) := by rw [hW2]; exact World.putObj_heap_same hlt
      have hoth : ∀ q, q ≠ w.heap.size + 1 → W2.heap[q]? = W.heap[q]? := fun q hq => by rw [hW2]; exact World.putObj_heap_other hq
      have hk2 : W2.heap[w.heap.size]? = some (.deferred (some [])) := (hoth _ (by omega)).trans hk
      have hs2 : W2.heap.size = W.heap.size := by rw [hW2]; simp
      have hi2 : I i W2 := by rw [hW2]; exact hI i W _ _ hi (hput W _) (by omega) (by omega)
      refine wpIn_mono (hbody _ i W2 hiN hi2 (hHere i W W2 hH (hoth _ (by omega))) (by rw [hs2]; exact hHsz i W hH)) ?_
      rintro e a3 W3 hp
      cases e with
      | normal =>
        obtain ⟨hi3, hs3, hks3, hB3⟩ := hp
        have hl3 := (hB3 _ (by omega) (by omega)).trans hl2
        have hr := run_endRound (P := P) none hl3
        refine ⟨_, _, hr, rfl, ⟨hI _ _ _ _ hi3 (hput W3 _) (by omega) (by omega), ?_, ?_⟩, ?_, fun q hq => ?_, ?_⟩
        · rw [World.putObj_heap_same (Array.getElem?_eq_some_iff.1 hl3).1, hrec]; rfl
        · rw [World.putObj_heap_other (by omega)]; exact (hB3 _ (by omega) (by omega)).trans hk2
        · rw [World.putObj_size]; omega
        · have := hks q hq
          rw [World.putObj_heap_other (by omega), hks3 q hq]; exact hoth _ (by omega)
        · rw [World.putObj_heap_other (by omega), hB3 _ (by omega) (by omega)]; exact hoth _ (by omega)
      | ret => exact hp.elim
      | exit id => exact hp.elim
      | goto t => exact hp.elim
      | panic ch => exact hp.elim
      | outgrown => exact hp.elim
    · rintro e W2 ⟨⟨v, rfl⟩, hi, hl, hk⟩
      exact ⟨none, _, by have := run_endLoop (P := P) hl (by rw [hrec]; simp); rw [hrec] at this; exact this, hdone _ (hI _ _ _ _ hi (hput W2 _) (by omega) (by omega)) ((World.putObj_heap_other (by omega)).trans hk)⟩
end Go.Proofs.Ytjcgommdeplbbaa

namespace Go.Proofs.Ytjcgommdeplbbaa
open Go.RowKit
set_option linter.unusedVariables false
set_option linter.unusedSimpArgs false

theorem grow_set (w : World) (p : Addr) (v : Value) : w.grownBy (w.setCell p v) (some p.block) := by
  have h := (Chg.refl (fun q => q = p.block) w).setCell (p := p) rfl v
  exact ⟨h.os, h.tape, h.output, h.size, fun k hk hne => h.block k hk (fun e => hne (by rw [e]))⟩
theorem grow_drew (w : World) (r : Option Nat) : w.grownBy w.drew r := ⟨rfl, rfl, rfl, Nat.le_refl _, fun _ _ _ => rfl⟩
/-- the list in round i -/
def HereV (p : Int) (m gb : Nat) (i : Nat) (W : World) : Prop := Ints W (.slice (some ⟨gb, 0, none⟩) m m) (vecL p m (i : Int)) ∧ gb < W.heap.size
theorem hereV_same {p : Int} {m gb i : Nat} {A B : World} (h : HereV p m gb i A) (e : B.heap[gb]? = A.heap[gb]?) : HereV p m gb i B := by
  refine ⟨h.1.keep fun k hk => ?_, ?_⟩
  · have : k = gb := by
      cases m with
      | zero => simp [blk] at hk
      | succ m => simpa [blk] using hk.symm
    rw [this]; exact e
  · have hA := Array.getElem?_eq_getElem h.2
    rw [hA] at e
    exact (Array.getElem?_eq_some_iff.1 e).1
/-- what stays while the function goes on -/
def BxS (J : World → Prop) (p : Int) (m gb bm gm : Nat) (l : List Int) (w W : World) : Prop :=
  J W ∧ Ints W (.slice (some ⟨gb, 0, none⟩) m m) l ∧ W.heap[bm]? = w.heap[bm]? ∧ W.heap[gm]? = w.heap[gm]? ∧ gb < W.heap.size

theorem BxS.drewN {J : World → Prop} {p : Int} {m gb bm gm : Nat} {l : List Int} {w wr : World} (hJ : ∀ A B, J A → A.grownBy B (some gb) → J B) (h : BxS J p m gb bm gm l w wr) (n : Nat) : BxS J p m gb bm gm l w (wr.drewN n) := by
  obtain ⟨h1, h2, h3, h4, h5⟩ := h
  exact ⟨hJ _ _ h1 ⟨rfl, rfl, rfl, Nat.le_refl _, fun _ _ _ => rfl⟩, h2.keep fun _ _ => rfl, h3, h4, h5⟩
theorem BxS.set {J : World → Prop} {p : Int} {m gb bm gm : Nat} {l : List Int} {w wr : World} (hJ : ∀ A B, J A → A.grownBy B (some gb) → J B) (h : BxS J p m gb bm gm l w wr) (h1 : bm ≠ gb) (h2 : gm ≠ gb) {j : Nat} (hj : j < l.length) (x : Int) :
    BxS J p m gb bm gm (l.set j x) w (wr.setCell ⟨gb, j, none⟩ (.int .i64 x)) := by
  obtain ⟨k1, k2, k3, k4, k5⟩ := h
  have hs := (grow_set wr ⟨gb, j, none⟩ (.int .i64 x)).size
  have h3 := (k2.set hj x).1
  rw [Nat.zero_add] at h3
  exact ⟨hJ _ _ k1 (grow_set wr ⟨gb, j, none⟩ _), h3, (heap_setCell_other wr ⟨gb, j, none⟩ bm _ h1).trans k3, (heap_setCell_other wr ⟨gb, j, none⟩ gm _ h2).trans k4, by omega⟩

attribute [local go_sem] Oper.semAt_some
set_option maxRecDepth 100000 in
set_option maxHeartbeats 2000000 in
theorem i_boxes1 (p : Int) (m : Nat) (hp : isF p = true) (hm : m ≤ 4) (bm gm off cm : Nat) (w : World) (hbox : w.cell? ⟨bm, 0, none⟩ = some (.slice (some ⟨gm, off, none⟩) m cm))
    (hmost : Ints w (.slice (some ⟨gm, off, none⟩) m cm) (List.replicate m (p - 1))) (hbl : bm < w.heap.size) (hgl : gm < w.heap.size) :
    SeqCells Try.prog 43 #[.pointer (some ⟨bm, 0, none⟩)] (.slice (some ⟨w.heap.size + 2, 0, none⟩) m m) [bm, gm] (p ^ m).toNat (HereV p m (w.heap.size + 2)) w := by
  intro l J W hsz hbw hJ hY h0
  have hp5 : 2 ≤ p ∧ p ≤ 5 := by have := isF_cases hp; omega
  have hpw : ∀ t : Nat, t ≤ 4 → 1 ≤ p ^ t ∧ p ^ t ≤ 390625 := fun t ht => by have := pow_bd hp (show t ≤ 8 by omega); omega
  obtain ⟨gb, hgb⟩ : ∃ gb, gb = w.heap.size + 2 := ⟨_, rfl⟩
  rw [← hgb] at hsz hJ hY
  obtain ⟨N, hN⟩ : ∃ N, N = (p ^ m).toNat := ⟨_, rfl⟩
  have hNi : (N : Int) = p ^ m := by have := hpw m hm; rw [hN]; omega
  rw [← hN] at hY ⊢
  have hbg : bm ≠ gb ∧ gm ≠ gb := by omega
  have hbox2 : W.cell? ⟨bm, 0, none⟩ = some (.slice (some ⟨gm, off, none⟩) m cm) := (hbw.cell (p := ⟨bm, 0, none⟩) hbl).trans hbox
  have hmk := run_make_ints m (by omega)
  have ha : Below W.heap.size W (W.alloc (.cells (zerosArr m) 3)) := (Below.refl _ W).alloc (Nat.le_refl _) _
  have HS0 := Lib.hid (show BxS (J 0) p m gb bm gm (vecL p m ((0 : Nat) : Int)) w (W.alloc (.cells (zerosArr m) 3)) from by
    refine ⟨hJ 0 _ _ h0 ⟨ha.os, ha.tape, ha.output, ha.size, fun k hk _ => ha.block k hk⟩, ?_, ?_, ?_, by simp; omega⟩
    · have := (Ints.of_own (own_zeros W W.heap.size m (Nat.le_refl _) (by omega))).1
      rw [hsz] at this
      rw [show ((0 : Nat) : Int) = 0 from rfl, vecL_zero]; exact this
    · rw [ha.block bm (by omega)]; exact hbw.block bm hbl
    · rw [ha.block gm (by omega)]; exact hbw.block gm hgl)
  have HY := Lib.hid hY; have HJ := Lib.hid hJ; have HM := Lib.hid hmost; have HBX := Lib.hid hbox
  have HGB := Lib.hid hgb; have HN := Lib.hid hN; have HNI := Lib.hid hNi
  clear hY hJ h0 ha hmost hgb hN hNi
  refine callsIn_wide.1 (callsIn_of_wp (F := Fence.wide) (n := 2) Try.func43 rfl trivial ?_ rfl)
  simp only [Try.ntmps43, List.size_toArray, List.length_cons, List.length_nil, Nat.reduceAdd, Nat.reduceSub, Array.replicate_succ, Array.replicate_zero, List.push_toArray, List.append_toArray, List.nil_append, List.cons_append]
  gi_wp2
  gi_loopg [4] N (fun k (_ : Value) wr => ∃ i : Nat, i < N ∧ k + i = N ∧ Hid (BxS (J i) p m gb bm gm (vecL p m (i : Int)) w wr))
  case atStart =>
    exact ⟨0, by have := hpw m hm; have := HNI.out; omega, by omega, HS0⟩
  case round =>
    obtain ⟨i, hi, hki, HS⟩ := hrel
    obtain ⟨fn, tmps, assign, body, hy, hR⟩ := HY.out i wr hi HS.out.1 ⟨HS.out.2.1, HS.out.2.2.2.2⟩
    gi_wp2
    refine hR.mono ?_
    rintro e W3 ⟨rfl, hJ3, hsz3, hks3, hgb3⟩
    have HS3 := Lib.hid (show BxS (J (i + 1)) p m gb bm gm (vecL p m (i : Int)) w W3 from by
      obtain ⟨_, h2, h3, h4, h5⟩ := HS.out
      refine ⟨hJ3, h2.keep fun k hk => ?_, (hks3 bm (by simp)).trans h3, (hks3 gm (by simp)).trans h4, by omega⟩
      have : k = gb := by
        cases m with
        | zero => simp [blk] at hk
        | succ m => simpa [blk] using hk.symm
      rw [this]; exact hgb3)
    clear hJ3 hsz3 hks3 hgb3 HS hy hR fn tmps assign body
    gi_wp2
    gi_loopw [4] (fun av wr => ∃ t : Nat, t ≤ m ∧ av = .int .i64 ((m : Int) - 1 - t) ∧ p ^ t ∣ (i : Int) + 1 ∧ Hid (BxS (J (i + 1)) p m gb bm gm (vecL p m ((i : Int) + 1 - p ^ t)) w wr)) (fun av _ => (intOf av + 1).toNat)
    case atStart => exact ⟨0, by omega, by simp, by simp, by simpa using HS3⟩
    case round =>
      obtain ⟨t, ht, rfl, hd, HS⟩ := hrel
      have hbx : wr.cell? ⟨bm, 0, none⟩ = some (.slice (some ⟨gm, off, none⟩) m cm) := (World.cell?_of_block (a := ⟨bm, 0, none⟩) HS.out.2.2.1).trans HBX.out
      by_cases hlt : t < m
      · obtain ⟨j, hj⟩ : ∃ j : Nat, (m : Int) - 1 - t = j := ⟨m - 1 - t, by omega⟩
        have hjm : j = m - 1 - t := by omega
        rw [hj]
        obtain ⟨g1, o1, e1, _, hc1, hf1⟩ := HS.out.2.1.cell (i := j) (by rw [vecL_len]; omega)
        simp only [Option.some.injEq, Addr.mk.injEq, and_true] at e1
        obtain ⟨rfl, rfl⟩ := e1
        have hmw : Ints wr (.slice (some ⟨gm, off, none⟩) m cm) (List.replicate m (p - 1)) := HM.out.keep fun k hk => by
          have : k = gm := by
            cases m with
            | zero => omega
            | succ m => simpa [blk] using hk.symm
          rw [this]; exact HS.out.2.2.2.1
        obtain ⟨g2, o2, e2, _, hc2, hf2⟩ := hmw.cell (i := j) (by simp; omega)
        simp only [Option.some.injEq, Addr.mk.injEq, and_true] at e2
        obtain ⟨rfl, rfl⟩ := e2
        rw [show (List.replicate m (p - 1)).getD j 0 = p - 1 by simp [List.getD, show j < m by omega]] at hc2
        have hj0 : (0 : Int) ≤ (j : Int) := by omega
        have hj1 : (j : Int) < (m : Int) := by omega
        have hjs : (j : Int) - 1 = (m : Int) - 1 - (t + 1 : Nat) := by omega
        have HJS := Lib.hid hjs
        rw [Nat.zero_add] at hc1 hf1
        obtain ⟨d, hdg⟩ : ∃ d, d = (vecL p m ((i : Int) + 1 - p ^ t)).getD j 0 := ⟨_, rfl⟩
        rw [← hdg] at hc1
        have HBK := Lib.hid (fun h => box_back (m := m) hp5.1 hlt hd (by omega : 0 ≤ (i : Int)) h)
        have HNX := Lib.hid (fun h => And.intro (box_last (m := m) hp5.1 hlt hd (by omega : 0 ≤ (i : Int)) h) (box_next (m := m) hp5.1 hlt hd (by omega : 0 ≤ (i : Int)) h))
        rw [← hjm, ← hdg] at HBK HNX
        clear hjs hj hjm hmw hdg
        by_cases hdp : d = p - 1
        · have HB2 := Lib.hid (HBK.out hdp)
          subst hdp
          clear HBK HNX
          gi_wp2
          gi_quiet (fail)
          gi_wp2
          refine ⟨⟨t + 1, by omega, by rw [HJS.out], HB2.out.1, ?_⟩, by simp [intOf]⟩
          have h9 := (HS.out.drewN (HJ.out (i + 1)) nq).set (HJ.out (i + 1)) hbg.1 hbg.2 (j := j) (by rw [vecL_len]; omega) 0
          rw [HB2.out.2] at h9
          exact Lib.hid h9
        · obtain ⟨hn0, hn1, hn2, hn3⟩ := HNX.out hdp
          have HN3 := Lib.hid hn3
          have hiN : i + 1 < N := by have := HNI.out; omega
          have hdb : (d == p - 1) = false := by simpa using hdp
          clear hn3 hn0 HBK HNX
          gi_wp2
          gi_quiet (fail)
          gi_wp2
          have h9 := (HS.out.drewN (HJ.out (i + 1)) nq).set (HJ.out (i + 1)) hbg.1 hbg.2 (j := j) (by rw [vecL_len]; omega) (d + 1)
          rw [HN3.out] at h9
          gi_roundg (gk - 1)
          case rel => exact ⟨i + 1, hiN, by omega, Lib.hid h9⟩
          case measure => omega
      · obtain rfl : t = m := by omega
        have hm1 : (t : Int) - 1 - t = -1 := by omega
        rw [hm1]
        gi_wp2
        gi_quiet (fail)
        gi_wp2
        refine bodyPost_ret (results_none rfl _ _ _) rfl ⟨⟨_, rfl⟩, ?_⟩
        have h9 := (HS.out.drewN (HJ.out (i + 1)) nq).1
        have h8 := Int.le_of_dvd (by omega) hd
        have h7 := HNI.out
        rw [show N = i + 1 by omega]
        exact h9
end Go.Proofs.Ytjcgommdeplbbaa
