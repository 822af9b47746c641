/- All paths of an acyclic quiver: the plain law: an order gives a rank that falls along arrows; the list of paths. A bundle of what a call knows of memory: slices that read as lists, blocks that are known whole; moved along as one. No function of the program is walked here. A slice of paths that the call owns: reading, append of one, append of many. append of any slice of integers to one that the call owns (as in XConcat, for seats without rows of rows). Slices of paths: a first path, an arrow laid ahead of a path's arrows; bounds of the list of all paths. All paths of a quiver: the list; the longest length. -/
import Derived.Test.YtndooeffjkofdaaDoorOrder
import Derived.Test.YtndooeffjkofdaaDoorMg2
import Derived.Deep.DeepCutAuto
import Derived.Maps.AppendAt
namespace Go.Proofs.YtndooeffjkofdaaDoor
open Go.RowKit
set_option linter.unusedVariables false
set_option linter.unusedSimpArgs false

theorem pickD_spec {f t L : List Int} {N : Nat} : ∀ d, d ≤ N → 0 ≤ pickD f t L N d → candP f t L (pickD f t L N d) = true ∧ pickD f t L N d < N := by
  intro d
  induction d with
  | zero => intro _ h; simp [pickD] at h
  | succ d ih =>
    intro hd h
    unfold pickD at h ⊢
    by_cases hc : candP f t L ((N : Int) - (d + 1)) = true
    · rw [if_pos hc]; exact ⟨hc, by omega⟩
    · rw [if_neg hc] at h ⊢; exact ih (by omega) h
theorem readyP_all {f t L : List Int} {v : Int} : ∀ m, readyP f t L v m = true → ∀ k, k < m → t.getD k 0 = v → memI (f.getD k 0) L = true := by
  intro m
  induction m with
  | zero => intro _ k hk; omega
  | succ m ih =>
    intro h k hk e
    simp only [readyP, Bool.and_eq_true, Bool.or_eq_true, Bool.not_eq_true'] at h
    by_cases hkm : k = m
    · subst hkm
      rcases h.2 with h2 | h2
      · rw [beq_eq_false_iff_ne] at h2; exact absurd e h2
      · exact h2
    · exact ih h.1 k (by omega) e
/-- what the order says of its next vertex -/
theorem ord_next {f t : List Int} {N k : Nat} (h : ordGo f t N = true) (hk : k < N) :
    0 ≤ nextV f t (ordL f t N k) N ∧ nextV f t (ordL f t N k) N < N ∧ memI (nextV f t (ordL f t N k) N) (ordL f t N k) = false ∧ ∀ i, i < t.length → t.getD i 0 = nextV f t (ordL f t N k) N → memI (f.getD i 0) (ordL f t N k) = true := by
  unfold ordGo at h
  rw [List.all_eq_true] at h
  have h0 := h k (List.mem_range.2 hk)
  simp only [decide_eq_true_eq] at h0
  obtain ⟨hc, hN⟩ := pickD_spec N (Nat.le_refl _) h0
  unfold candP at hc
  simp only [Bool.and_eq_true, Bool.not_eq_true'] at hc
  exact ⟨h0, hN, hc.1, readyP_all _ hc.2⟩
theorem memI_snoc (v x : Int) (L : List Int) : memI v (L ++ [x]) = (memI v L || v == x) := by
  unfold memI
  rw [List.any_append]
  simp
/-- how many of the first M vertices stand in L -/
def cntV (L : List Int) : Nat → Nat
  | 0 => 0
  | M + 1 => cntV L M + (if memI (M : Int) L = true then 1 else 0)
theorem cntV_le (L : List Int) : ∀ M, cntV L M ≤ M := by
  intro M; induction M with
  | zero => simp [cntV]
  | succ M ih => unfold cntV; split <;> omega
theorem cntV_all {L : List Int} : ∀ M, cntV L M = M → ∀ v, v < M → memI (v : Int) L = true := by
  intro M; induction M with
  | zero => intro _ v hv; omega
  | succ M ih =>
    intro h v hv
    unfold cntV at h
    have := cntV_le L M
    by_cases hm : memI (M : Int) L = true
    · rw [if_pos hm] at h
      by_cases e : v = M
      · rw [e]; exact hm
      · exact ih (by omega) v (by omega)
    · rw [if_neg hm] at h; omega
theorem cntV_snoc {L : List Int} {x : Nat} (hx : memI (x : Int) L = false) : ∀ M, cntV (L ++ [(x : Int)]) M = cntV L M + (if x < M then 1 else 0) := by
  intro M; induction M with
  | zero => simp [cntV]
  | succ M ih =>
    unfold cntV
    rw [ih, memI_snoc]
    by_cases e : M = x
    · subst e
      simp [hx]
    · have hb : ((M : Int) == (x : Int)) = false := by rw [beq_eq_false_iff_ne]; omega
      rw [hb, Bool.or_false]
      by_cases hlt : x < M
      · rw [if_pos hlt, if_pos (show x < M + 1 by omega)]; omega
      · rw [if_neg hlt, if_neg (show ¬ x < M + 1 by omega)]; omega
theorem ord_cnt {f t : List Int} {N : Nat} (h : ordGo f t N = true) : ∀ k, k ≤ N → cntV (ordL f t N k) N = k := by
  intro k; induction k with
  | zero =>
    intro _
    have : ∀ M, cntV [] M = 0 := fun M => by induction M with
      | zero => rfl
      | succ M ih => unfold cntV; rw [ih]; simp [memI]
    exact this N
  | succ k ih =>
    intro hk
    obtain ⟨h0, hN, hm, _⟩ := ord_next h (show k < N by omega)
    obtain ⟨x, hx⟩ := Int.eq_ofNat_of_zero_le h0
    unfold ordL
    rw [hx] at hm hN ⊢
    rw [cntV_snoc hm, ih (by omega), if_pos (by omega)]
/-- how many of the order's beginnings hold v: a rank -/
def rkV (f t : List Int) (N : Nat) (v : Int) : Nat → Nat
  | 0 => 0
  | k + 1 => rkV f t N v k + (if memI v (ordL f t N (k + 1)) = true then 1 else 0)
theorem mem_mono {f t : List Int} {N : Nat} {v : Int} : ∀ k j, memI v (ordL f t N k) = true → memI v (ordL f t N (k + j)) = true := by
  intro k j; induction j with
  | zero => intro h; exact h
  | succ j ih => intro h; rw [← Nat.add_assoc]; unfold ordL; rw [memI_snoc, ih h]; rfl
theorem rk_le (f t : List Int) (N : Nat) (v : Int) : ∀ k, rkV f t N v k ≤ k := by
  intro k; induction k with
  | zero => simp [rkV]
  | succ k ih => unfold rkV; split <;> omega
theorem rk_fall {f t : List Int} {N i : Nat} (h : ordGo f t N = true) (hi : i < t.length) (ht0 : 0 ≤ t.getD i 0) (htN : t.getD i 0 < N) : rkV f t N (t.getD i 0) N < rkV f t N (f.getD i 0) N := by
  have key : ∀ k, k ≤ N → rkV f t N (t.getD i 0) k ≤ rkV f t N (f.getD i 0) k ∧ (memI (t.getD i 0) (ordL f t N k) = true → memI (f.getD i 0) (ordL f t N k) = true ∧ rkV f t N (t.getD i 0) k < rkV f t N (f.getD i 0) k) := by
    intro k; induction k with
    | zero => intro _; exact ⟨Nat.le_refl _, fun hm => by simp [ordL, memI] at hm⟩
    | succ k ih =>
      intro hk
      obtain ⟨h1, h2⟩ := ih (by omega)
      obtain ⟨h0, hN, hm, hr⟩ := ord_next h (show k < N by omega)
      unfold rkV
      have hstep : ∀ v, memI v (ordL f t N (k + 1)) = (memI v (ordL f t N k) || v == nextV f t (ordL f t N k) N) := fun v => by
        show memI v (ordL f t N k ++ [nextV f t (ordL f t N k) N]) = _
        rw [memI_snoc]
      by_cases ht : memI (t.getD i 0) (ordL f t N (k + 1)) = true
      · rw [if_pos ht]
        rw [hstep] at ht
        rw [Bool.or_eq_true] at ht
        by_cases hold : memI (t.getD i 0) (ordL f t N k) = true
        · obtain ⟨h3, h4⟩ := h2 hold
          have h5 : memI (f.getD i 0) (ordL f t N (k + 1)) = true := mem_mono k 1 h3
          rw [if_pos h5]
          exact ⟨by omega, fun _ => ⟨h5, by omega⟩⟩
        · have he : t.getD i 0 = nextV f t (ordL f t N k) N := by
            rcases ht with ht | ht
            · exact absurd ht hold
            · simpa using ht
          have h3 := hr i hi he
          have h5 : memI (f.getD i 0) (ordL f t N (k + 1)) = true := mem_mono k 1 h3
          rw [if_pos h5]
          -- the target's rank was 0, the source's at least 1
          have hz : rkV f t N (t.getD i 0) k = 0 := by
            have : ∀ j, j ≤ k → rkV f t N (t.getD i 0) j = 0 := by
              intro j; induction j with
              | zero => intro _; rfl
              | succ j ihj =>
                intro hj
                unfold rkV
                rw [ihj (by omega)]
                have hnm : ¬ memI (t.getD i 0) (ordL f t N (j + 1)) = true := fun hh => hold (by
                  have := mem_mono (j + 1) (k - (j + 1)) hh
                  rwa [show j + 1 + (k - (j + 1)) = k by omega] at this)
                rw [if_neg hnm]
            exact this k (Nat.le_refl _)
          have h1k : 1 ≤ rkV f t N (f.getD i 0) k := by
            cases k with
            | zero => simp [ordL, memI] at h3
            | succ j => unfold rkV; rw [if_pos h3]; omega
          exact ⟨by omega, fun _ => ⟨h5, by omega⟩⟩
      · rw [if_neg ht]
        refine ⟨?_, fun hh => absurd hh ht⟩
        split <;> omega
  obtain ⟨h1, h2⟩ := key N (Nat.le_refl _)
  obtain ⟨x, hx⟩ := Int.eq_ofNat_of_zero_le ht0
  have hall := cntV_all N (ord_cnt h N (Nat.le_refl _)) x (by omega)
  rw [← hx] at hall
  exact (h2 hall).2

/-- the paths from v of at most d arrows (all of them, if d is at least v's rank), as lists of arrows -/
def pF (f t : List Int) : Nat → Int → List (List Int)
  | 0, _ => [[]]
  | d + 1, v => [] :: (List.range f.length).flatMap fun i => if f.getD i 0 = v then (pF f t d (t.getD i 0)).map ((i : Int) :: ·) else []
/-- the paths from v whose first arrow is one of the first k -/
def pK (f t : List Int) (d : Nat) (v : Int) (k : Nat) : List (List Int) := [] :: (List.range k).flatMap fun i => if f.getD i 0 = v then (pF f t d (t.getD i 0)).map ((i : Int) :: ·) else []
theorem pK_zero (f t : List Int) (d : Nat) (v : Int) : pK f t d v 0 = [[]] := by simp [pK]
theorem pK_succ (f t : List Int) (d : Nat) (v : Int) (k : Nat) : pK f t d v (k + 1) = pK f t d v k ++ (if f.getD k 0 = v then (pF f t d (t.getD k 0)).map ((k : Int) :: ·) else []) := by
  simp [pK, List.range_succ]
theorem pK_all (f t : List Int) (d : Nat) (v : Int) : pK f t d v f.length = pF f t (d + 1) v := rfl
end Go.Proofs.YtndooeffjkofdaaDoor

namespace Go.Proofs.YtndooeffjkofdaaDoor
open Go.RowKit
set_option linter.unusedVariables false
set_option linter.unusedSimpArgs false

def allI (w : World) : List (Value × List Int) → Prop
  | [] => True
  | x :: xs => Ints w x.1 x.2 ∧ allI w xs
def allB (w : World) : List (Nat × Array Value × TypeId) → Prop
  | [] => True
  | x :: xs => Blk w x.1 x.2.1 x.2.2 ∧ allB w xs
/-- the call began in w0; ins reads, bls are whole -/
structure MB (w0 : World) (ins : List (Value × List Int)) (bls : List (Nat × Array Value × TypeId)) (w : World) : Prop where
  bel : Below w0.heap.size w0 w
  ins : allI w ins
  bls : allB w bls

theorem allI.below {w w' : World} (b : Below w.heap.size w w') : ∀ {l : List (Value × List Int)}, allI w l → allI w' l
  | [], _ => trivial
  | _ :: _, h => ⟨h.1.below b, allI.below b h.2⟩
theorem allB.below {w w' : World} (b : Below w.heap.size w w') : ∀ {l : List (Nat × Array Value × TypeId)}, allB w l → allB w' l
  | [], _ => trivial
  | _ :: _, h => ⟨h.1.below b, allB.below b h.2⟩
theorem MB.start (w : World) : MB w [] [] w := ⟨Below.refl _ _, trivial, trivial⟩
theorem MB.call {w0 w w' : World} {ins bls} (h : MB w0 ins bls w) (b : Below w.heap.size w w') : MB w0 ins bls w' :=
  ⟨h.bel.trans (b.mono h.bel.size), h.ins.below b, h.bls.below b⟩
theorem MB.addI {w0 w : World} {ins bls} {v : Value} {l : List Int} (h : MB w0 ins bls w) (hv : Ints w v l) : MB w0 ((v, l) :: ins) bls w := ⟨h.bel, ⟨hv, h.ins⟩, h.bls⟩
theorem MB.addB {w0 w : World} {ins bls} {b : Nat} {cs : Array Value} {T : TypeId} (h : MB w0 ins bls w) (hv : Blk w b cs T) : MB w0 ins ((b, cs, T) :: bls) w := ⟨h.bel, h.ins, ⟨hv, h.bls⟩⟩
theorem MB.alloc {w0 w : World} {ins bls} (h : MB w0 ins bls w) (cs : Array Value) (T : TypeId) : MB w0 ins ((w.heap.size, cs, T) :: bls) (w.alloc (.cells cs T)) :=
  (h.call ((Below.refl _ w).alloc (Nat.le_refl _) _)).addB (Blk.new w cs T)
theorem MB.drew {w0 w : World} {ins bls} (h : MB w0 ins bls w) : MB w0 ins bls w.drew := h.call ((Below.refl _ w).drew)

theorem MB.i0 {w0 w : World} {ins bls} {v : Value} {l : List Int} (h : MB w0 ((v, l) :: ins) bls w) : Ints w v l := h.ins.1
theorem MB.b0 {w0 w : World} {ins bls} {b : Nat} {cs : Array Value} {T : TypeId} (h : MB w0 ins ((b, cs, T) :: bls) w) : Blk w b cs T := h.bls.1
theorem MB.i1 {w0 w : World} {ins bls} {x0 : Value × List Int} {v : Value} {l : List Int} (h : MB w0 (x0 :: (v, l) :: ins) bls w) : Ints w v l := h.ins.2.1
theorem MB.b1 {w0 w : World} {ins bls} {x0 : Nat × Array Value × TypeId} {b : Nat} {cs : Array Value} {T : TypeId} (h : MB w0 ins (x0 :: (b, cs, T) :: bls) w) : Blk w b cs T := h.bls.2.1
theorem MB.i2 {w0 w : World} {ins bls} {x0 x1 : Value × List Int} {v : Value} {l : List Int} (h : MB w0 (x0 :: x1 :: (v, l) :: ins) bls w) : Ints w v l := h.ins.2.2.1
theorem MB.b2 {w0 w : World} {ins bls} {x0 x1 : Nat × Array Value × TypeId} {b : Nat} {cs : Array Value} {T : TypeId} (h : MB w0 ins (x0 :: x1 :: (b, cs, T) :: bls) w) : Blk w b cs T := h.bls.2.2.1
theorem MB.i3 {w0 w : World} {ins bls} {x0 x1 x2 : Value × List Int} {v : Value} {l : List Int} (h : MB w0 (x0 :: x1 :: x2 :: (v, l) :: ins) bls w) : Ints w v l := h.ins.2.2.2.1
theorem MB.b3 {w0 w : World} {ins bls} {x0 x1 x2 : Nat × Array Value × TypeId} {b : Nat} {cs : Array Value} {T : TypeId} (h : MB w0 ins (x0 :: x1 :: x2 :: (b, cs, T) :: bls) w) : Blk w b cs T := h.bls.2.2.2.1
theorem MB.i4 {w0 w : World} {ins bls} {x0 x1 x2 x3 : Value × List Int} {v : Value} {l : List Int} (h : MB w0 (x0 :: x1 :: x2 :: x3 :: (v, l) :: ins) bls w) : Ints w v l := h.ins.2.2.2.2.1
theorem MB.b4 {w0 w : World} {ins bls} {x0 x1 x2 x3 : Nat × Array Value × TypeId} {b : Nat} {cs : Array Value} {T : TypeId} (h : MB w0 ins (x0 :: x1 :: x2 :: x3 :: (b, cs, T) :: bls) w) : Blk w b cs T := h.bls.2.2.2.2.1
theorem MB.i5 {w0 w : World} {ins bls} {x0 x1 x2 x3 x4 : Value × List Int} {v : Value} {l : List Int} (h : MB w0 (x0 :: x1 :: x2 :: x3 :: x4 :: (v, l) :: ins) bls w) : Ints w v l := h.ins.2.2.2.2.2.1
theorem MB.b5 {w0 w : World} {ins bls} {x0 x1 x2 x3 x4 : Nat × Array Value × TypeId} {b : Nat} {cs : Array Value} {T : TypeId} (h : MB w0 ins (x0 :: x1 :: x2 :: x3 :: x4 :: (b, cs, T) :: bls) w) : Blk w b cs T := h.bls.2.2.2.2.2.1
theorem MB.i6 {w0 w : World} {ins bls} {x0 x1 x2 x3 x4 x5 : Value × List Int} {v : Value} {l : List Int} (h : MB w0 (x0 :: x1 :: x2 :: x3 :: x4 :: x5 :: (v, l) :: ins) bls w) : Ints w v l := h.ins.2.2.2.2.2.2.1
theorem MB.b6 {w0 w : World} {ins bls} {x0 x1 x2 x3 x4 x5 : Nat × Array Value × TypeId} {b : Nat} {cs : Array Value} {T : TypeId} (h : MB w0 ins (x0 :: x1 :: x2 :: x3 :: x4 :: x5 :: (b, cs, T) :: bls) w) : Blk w b cs T := h.bls.2.2.2.2.2.2.1

def offI (X : Nat → Prop) : List (Value × List Int) → Prop
  | [] => True
  | x :: xs => (∀ q, blk x.1 = some q → ¬ X q) ∧ offI X xs
def offB (X : Nat → Prop) : List (Nat × Array Value × TypeId) → Prop
  | [] => True
  | x :: xs => ¬ X x.1 ∧ offB X xs
theorem allI.chg {X : Nat → Prop} {w w' : World} (c : Chg X w w') : ∀ {l : List (Value × List Int)}, allI w l → offI X l → allI w' l
  | [], _, _ => trivial
  | _ :: _, h, o => ⟨h.1.chg c o.1, allI.chg c h.2 o.2⟩
theorem allB.chg {X : Nat → Prop} {w w' : World} (c : Chg X w w') : ∀ {l : List (Nat × Array Value × TypeId)}, allB w l → offB X l → allB w' l
  | [], _, _ => trivial
  | _ :: _, h, o => ⟨h.1.chg c o.1, allB.chg c h.2 o.2⟩
theorem MB.chg {w0 w w' : World} {ins bls} {X : Nat → Prop} (h : MB w0 ins bls w) (c : Chg X w w') (hx : ∀ k, X k → w0.heap.size ≤ k) (hi : offI X ins) (hb : offB X bls) : MB w0 ins bls w' :=
  ⟨below_chg h.bel c h.bel.size hx, h.ins.chg c hi, h.bls.chg c hb⟩
theorem Ints.setFar {w : World} {v : Value} {l : List Int} (h : Ints w v l) {p : Addr} (hp : ∀ q, blk v = some q → q ≠ p.block) (u : Value) : Ints (w.setCell p u) v l :=
  h.keep fun k hk => heap_setCell_other _ _ _ _ (hp k hk)
/-- the first block takes three new cells -/
theorem MB.set3 {w0 w : World} {ins bls} {b : Nat} {x0 x1 x2 : Value} {T : TypeId} (h : MB w0 ins ((b, #[x0, x1, x2], T) :: bls) w) (hb : w0.heap.size ≤ b)
    (hi : offI (fun k => k = b) ins) (ho : offB (fun k => k = b) bls) (y0 y1 y2 : Value) : MB w0 ins ((b, #[y0, y1, y2], T) :: bls) (((w.setCell ⟨b, 0, none⟩ y0).setCell ⟨b, 1, none⟩ y1).setCell ⟨b, 2, none⟩ y2) := by
  have c : Chg (fun k => k = b) w (((w.setCell ⟨b, 0, none⟩ y0).setCell ⟨b, 1, none⟩ y1).setCell ⟨b, 2, none⟩ y2) := (((Chg.refl (fun k => k = b) w).setCell (p := ⟨b, 0, none⟩) rfl y0).setCell (p := ⟨b, 1, none⟩) rfl y1).setCell (p := ⟨b, 2, none⟩) rfl y2
  exact ⟨below_chg h.bel c h.bel.size (fun k e => by omega), h.ins.chg c hi, set3_blk h.bls.1 y0 y1 y2, h.bls.2.chg c ho⟩
theorem MB.set2 {w0 w : World} {ins bls} {b : Nat} {x0 x1 : Value} {T : TypeId} (h : MB w0 ins ((b, #[x0, x1], T) :: bls) w) (hb : w0.heap.size ≤ b)
    (hi : offI (fun k => k = b) ins) (ho : offB (fun k => k = b) bls) (y0 y1 : Value) : MB w0 ins ((b, #[y0, y1], T) :: bls) ((w.setCell ⟨b, 0, none⟩ y0).setCell ⟨b, 1, none⟩ y1) := by
  have c : Chg (fun k => k = b) w ((w.setCell ⟨b, 0, none⟩ y0).setCell ⟨b, 1, none⟩ y1) := ((Chg.refl (fun k => k = b) w).setCell (p := ⟨b, 0, none⟩) rfl y0).setCell (p := ⟨b, 1, none⟩) rfl y1
  exact ⟨below_chg h.bel c h.bel.size (fun k e => by omega), h.ins.chg c hi, set2_blk h.bls.1 y0 y1, h.bls.2.chg c ho⟩
/-- one cell of the first block is stored -/
theorem MB.set1 {w0 w : World} {ins bls} {b : Nat} {cs : Array Value} {T : TypeId} (h : MB w0 ins ((b, cs, T) :: bls) w) (hb : w0.heap.size ≤ b)
    (hi : offI (fun k => k = b) ins) (ho : offB (fun k => k = b) bls) (i : Nat) (y : Value) : MB w0 ins ((b, cs.setIfInBounds i y, T) :: bls) (w.setCell ⟨b, i, none⟩ y) := by
  have c : Chg (fun k => k = b) w (w.setCell ⟨b, i, none⟩ y) := (Chg.refl (fun k => k = b) w).setCell (p := ⟨b, i, none⟩) rfl y
  exact ⟨below_chg h.bel c h.bel.size (fun k e => by omega), h.ins.chg c hi, h.bls.1.set i y, h.bls.2.chg c ho⟩
theorem Ints.drew {w : World} {v : Value} {l : List Int} (h : Ints w v l) : Ints w.drew v l := h
theorem Ints.drewN {w : World} {v : Value} {l : List Int} (h : Ints w v l) (n : Nat) : Ints (w.drewN n) v l := h
theorem Blk.drew {w : World} {b : Nat} {cs : Array Value} {T : TypeId} (h : Blk w b cs T) : Blk w.drew b cs T := h
theorem cell_drew {w : World} {p : Addr} {v : Value} (h : w.cell? p = some v) : w.drew.cell? p = some v := h
theorem Ints.cellAt {w : World} {g off n cap : Nat} {l : List Int} (h : Ints w (.slice (some ⟨g, off, none⟩) n cap) l) {i : Nat} (hi : i < l.length) : w.cell? ⟨g, off + i, none⟩ = some (.int .i64 (l.getD i 0)) := by
  obtain ⟨g', off', e, _, hc, _⟩ := h.cell hi
  simp only [Option.some.injEq, Addr.mk.injEq, and_true] at e
  obtain ⟨rfl, rfl⟩ := e
  exact hc
theorem cells6 {w : World} {b c : Nat} {x y z x' y' z' : Value} {T T' : TypeId} (h : Blk w b #[x, y, z] T) (k : Blk w c #[x', y', z'] T') :
    (w.cell? ⟨b, 0, none⟩ = some x ∧ w.cell? ⟨b, 1, none⟩ = some y ∧ w.cell? ⟨b, 2, none⟩ = some z) ∧ w.cell? ⟨c, 0, none⟩ = some x' ∧ w.cell? ⟨c, 1, none⟩ = some y' ∧ w.cell? ⟨c, 2, none⟩ = some z' :=
  ⟨⟨h.cell 0, h.cell 1, h.cell 2⟩, k.cell 0, k.cell 1, k.cell 2⟩
theorem frz2 {w : World} {b : Nat} {x y : Value} {T : TypeId} (p : Blk w b #[x, y] T) : w.frozen? ⟨b, 0, none⟩ = false ∧ w.frozen? ⟨b, 1, none⟩ = false :=
  ⟨p.frozen 0, p.frozen 1⟩
theorem frz3 {w : World} {b : Nat} {x y z : Value} {T : TypeId} (p : Blk w b #[x, y, z] T) : w.frozen? ⟨b, 0, none⟩ = false ∧ w.frozen? ⟨b, 1, none⟩ = false ∧ w.frozen? ⟨b, 2, none⟩ = false :=
  ⟨p.frozen 0, p.frozen 1, p.frozen 2⟩
theorem far_old {w : World} {v : Value} {l : List Int} (h : Ints w v l) {b : Nat} (hb : w.heap.size ≤ b) : ∀ q, blk v = some q → ¬ q = b := fun q hq e => by have := h.lt q hq; omega
theorem far_new {B : Nat} {v : Value} (h : FreshV B v) {b : Nat} (hb : b < B) : ∀ q, blk v = some q → ¬ q = b := fun q hq e => by have := h q hq; omega

/-- the end of a call that stores a struct of three fields, the last one a slice, in its result -/
theorem mat_end {w0 w1 : World} {ins bls} {b : Nat} {x0 x1 x2 : Value} {T : TypeId} {v : Value} {l : List Int} (h : MB w0 ins ((b, #[x0, x1, x2], T) :: bls) w1) (hb : w0.heap.size ≤ b)
    (hv : Ints w1 v l) (hf : ∀ q, blk v = some q → w0.heap.size ≤ q ∧ q ≠ b) (y0 y1 : Value) :
    (Ints (((w1.setCell ⟨b, 0, none⟩ y0).setCell ⟨b, 1, none⟩ y1).setCell ⟨b, 2, none⟩ v) v l ∧ FreshV w0.heap.size v ∧ Below w0.heap.size w0 (((w1.setCell ⟨b, 0, none⟩ y0).setCell ⟨b, 1, none⟩ y1).setCell ⟨b, 2, none⟩ v)) ∧
    (((w1.setCell ⟨b, 0, none⟩ y0).setCell ⟨b, 1, none⟩ y1).setCell ⟨b, 2, none⟩ v).cell? ⟨b, 0, none⟩ = some y0 ∧ (((w1.setCell ⟨b, 0, none⟩ y0).setCell ⟨b, 1, none⟩ y1).setCell ⟨b, 2, none⟩ v).cell? ⟨b, 1, none⟩ = some y1 ∧
    (((w1.setCell ⟨b, 0, none⟩ y0).setCell ⟨b, 1, none⟩ y1).setCell ⟨b, 2, none⟩ v).cell? ⟨b, 2, none⟩ = some v := by
  have hB := set3_blk h.b0 y0 y1 v
  exact ⟨⟨set3_ints hv (fun q hq => (hf q hq).2) y0 y1 v, fun q hq => (hf q hq).1, set3_below h.bel hb y0 y1 v⟩, hB.cell 0, hB.cell 1, hB.cell 2⟩

/-- the end that stores three zeros -/
theorem mat_zero {w0 w1 : World} {ins bls} {b : Nat} {x0 x1 x2 : Value} {T : TypeId} (h : MB w0 ins ((b, #[x0, x1, x2], T) :: bls) w1) (hb : w0.heap.size ≤ b) (y0 y1 y2 : Value) :
    Below w0.heap.size w0 (((w1.setCell ⟨b, 0, none⟩ y0).setCell ⟨b, 1, none⟩ y1).setCell ⟨b, 2, none⟩ y2) ∧
    (((w1.setCell ⟨b, 0, none⟩ y0).setCell ⟨b, 1, none⟩ y1).setCell ⟨b, 2, none⟩ y2).cell? ⟨b, 0, none⟩ = some y0 ∧ (((w1.setCell ⟨b, 0, none⟩ y0).setCell ⟨b, 1, none⟩ y1).setCell ⟨b, 2, none⟩ y2).cell? ⟨b, 1, none⟩ = some y1 ∧
    (((w1.setCell ⟨b, 0, none⟩ y0).setCell ⟨b, 1, none⟩ y1).setCell ⟨b, 2, none⟩ y2).cell? ⟨b, 2, none⟩ = some y2 := by
  have hB := set3_blk h.b0 y0 y1 y2
  exact ⟨set3_below h.bel hb y0 y1 y2, hB.cell 0, hB.cell 1, hB.cell 2⟩

/-- a block of three cells, whatever they hold -/
def Res3 (w : World) (b : Nat) (T : TypeId) : Prop := ∃ x y z, Blk w b #[x, y, z] T
theorem Res3.below {w w' : World} {b : Nat} {T : TypeId} (h : Res3 w b T) (c : Below w.heap.size w w') : Res3 w' b T := by
  obtain ⟨x, y, z, h⟩ := h; exact ⟨x, y, z, h.below c⟩
theorem Res3.lt {w : World} {b : Nat} {T : TypeId} (h : Res3 w b T) : b < w.heap.size := by
  obtain ⟨x, y, z, h⟩ := h; exact h.lt
theorem Res3.set3 {w : World} {b : Nat} {T : TypeId} (h : Res3 w b T) (y0 y1 y2 : Value) : Res3 (((w.setCell ⟨b, 0, none⟩ y0).setCell ⟨b, 1, none⟩ y1).setCell ⟨b, 2, none⟩ y2) b T := by
  obtain ⟨x, y, z, h⟩ := h; exact ⟨y0, y1, y2, set3_blk h y0 y1 y2⟩
theorem Res3.open_ {w : World} {b : Nat} {T : TypeId} (h : Res3 w b T) : ∃ x y z, w.cell? ⟨b, 0, none⟩ = some x ∧ w.cell? ⟨b, 1, none⟩ = some y ∧ w.cell? ⟨b, 2, none⟩ = some z ∧ w.frozen? ⟨b, 0, none⟩ = false ∧ w.frozen? ⟨b, 1, none⟩ = false ∧ w.frozen? ⟨b, 2, none⟩ = false := by
  obtain ⟨x, y, z, h⟩ := h; exact ⟨x, y, z, h.cell 0, h.cell 1, h.cell 2, h.frozen 0, h.frozen 1, h.frozen 2⟩
theorem Res3.blk_set {w : World} {b : Nat} {T : TypeId} (h : Res3 w b T) (y0 y1 y2 : Value) : Blk (((w.setCell ⟨b, 0, none⟩ y0).setCell ⟨b, 1, none⟩ y1).setCell ⟨b, 2, none⟩ y2) b #[y0, y1, y2] T := by
  obtain ⟨x, y, z, h⟩ := h; exact set3_blk h y0 y1 y2
/-- what a region holds of one box: its cells, the bundle, the result's block -/
theorem hold3 {w0 w : World} {ins bls} {b c : Nat} {x y z : Value} {T T' : TypeId} (h : MB w0 ins ((b, #[x, y, z], T) :: bls) w) (r : Res3 w c T') :
    (w.cell? ⟨b, 0, none⟩ = some x ∧ w.cell? ⟨b, 1, none⟩ = some y ∧ w.cell? ⟨b, 2, none⟩ = some z) ∧ MB w0 ins ((b, #[x, y, z], T) :: bls) w ∧ Res3 w c T' := ⟨blk3 h.b0, h, r⟩
theorem hold3_call {w0 w w' : World} {ins bls} {b c : Nat} {x y z : Value} {T T' : TypeId} {A : Prop} (h : A ∧ MB w0 ins ((b, #[x, y, z], T) :: bls) w ∧ Res3 w c T') (k : Below w.heap.size w w') :
    (w'.cell? ⟨b, 0, none⟩ = some x ∧ w'.cell? ⟨b, 1, none⟩ = some y ∧ w'.cell? ⟨b, 2, none⟩ = some z) ∧ MB w0 ins ((b, #[x, y, z], T) :: bls) w' ∧ Res3 w' c T' := hold3 (h.2.1.call k) (h.2.2.below k)
theorem hold3_alloc {w0 w : World} {ins bls} {b c : Nat} {x y z : Value} {T T' : TypeId} {A : Prop} (h : A ∧ MB w0 ins ((b, #[x, y, z], T) :: bls) w ∧ Res3 w c T') (o : Obj) :
    ((w.alloc o).cell? ⟨b, 0, none⟩ = some x ∧ (w.alloc o).cell? ⟨b, 1, none⟩ = some y ∧ (w.alloc o).cell? ⟨b, 2, none⟩ = some z) ∧ MB w0 ins ((b, #[x, y, z], T) :: bls) (w.alloc o) ∧ Res3 (w.alloc o) c T' :=
  hold3_call h ((Below.refl _ w).alloc (Nat.le_refl _) o)
theorem hold3_allocd {w0 w : World} {ins bls} {b c : Nat} {x y z : Value} {T T' : TypeId} {A : Prop} (h : A ∧ MB w0 ins ((b, #[x, y, z], T) :: bls) w.drew ∧ Res3 w.drew c T') (o : Obj) :
    ((w.alloc o).drew.cell? ⟨b, 0, none⟩ = some x ∧ (w.alloc o).drew.cell? ⟨b, 1, none⟩ = some y ∧ (w.alloc o).drew.cell? ⟨b, 2, none⟩ = some z) ∧ MB w0 ins ((b, #[x, y, z], T) :: bls) (w.alloc o).drew ∧ Res3 (w.alloc o).drew c T' :=
  hold3_alloc h o
theorem hold3_store {w0 w : World} {ins bls} {b c : Nat} {x y z : Value} {T T' : TypeId} {A : Prop} (h : A ∧ MB w0 ins ((b, #[x, y, z], T) :: bls) w ∧ Res3 w c T') (hc : w0.heap.size ≤ c)
    (hi : offI (fun k => k = c) ins) (ho : offB (fun k => k = c) ((b, #[x, y, z], T) :: bls)) (y0 y1 y2 : Value) :
    ((((w.setCell ⟨c, 0, none⟩ y0).setCell ⟨c, 1, none⟩ y1).setCell ⟨c, 2, none⟩ y2).cell? ⟨b, 0, none⟩ = some x ∧ (((w.setCell ⟨c, 0, none⟩ y0).setCell ⟨c, 1, none⟩ y1).setCell ⟨c, 2, none⟩ y2).cell? ⟨b, 1, none⟩ = some y ∧ (((w.setCell ⟨c, 0, none⟩ y0).setCell ⟨c, 1, none⟩ y1).setCell ⟨c, 2, none⟩ y2).cell? ⟨b, 2, none⟩ = some z) ∧
      MB w0 ins ((b, #[x, y, z], T) :: bls) (((w.setCell ⟨c, 0, none⟩ y0).setCell ⟨c, 1, none⟩ y1).setCell ⟨c, 2, none⟩ y2) ∧ Res3 (((w.setCell ⟨c, 0, none⟩ y0).setCell ⟨c, 1, none⟩ y1).setCell ⟨c, 2, none⟩ y2) c T' := by
  have k : Chg (fun k => k = c) w (((w.setCell ⟨c, 0, none⟩ y0).setCell ⟨c, 1, none⟩ y1).setCell ⟨c, 2, none⟩ y2) := (((Chg.refl (fun k => k = c) w).setCell (p := ⟨c, 0, none⟩) rfl y0).setCell (p := ⟨c, 1, none⟩) rfl y1).setCell (p := ⟨c, 2, none⟩) rfl y2
  exact hold3 (h.2.1.chg k (fun k e => by omega) hi ho) (h.2.2.set3 y0 y1 y2)

end Go.Proofs.YtndooeffjkofdaaDoor

namespace Go.Proofs.YtndooeffjkofdaaDoor
open Go.RowKit
set_option linter.unusedVariables false
set_option linter.unusedSimpArgs false

abbrev Pt := Int × List Int
theorem infoPath : (Tryd.prog.info? 28).map (fun i => (i.zero, i.size, i.bytes)) = some (some (.agg #[.int .i64 0, .slice none 0 0]), 2, 32) := by kernel_rfl
def flatP : List Value → List Pt → List Value
  | u :: us, p :: L => .int .i64 p.1 :: u :: flatP us L
  | _, _ => []
def arP (B : Nat) (w : World) : List Value → List Pt → Prop
  | [], [] => True
  | u :: us, p :: L => Ints w u p.2 ∧ FreshV B u ∧ arP B w us L
  | _, _ => False
theorem arP.len {B : Nat} {w : World} : ∀ {us : List Value} {L : List Pt}, arP B w us L → us.length = L.length
  | [], [], _ => rfl
  | _ :: _, _ :: _, h => by simp [arP.len h.2.2]
  | [], _ :: _, h => h.elim
  | _ :: _, [], h => h.elim
theorem arP.keep {B : Nat} {w w' : World} (hk : ∀ v l, Ints w v l → FreshV B v → Ints w' v l) : ∀ {us : List Value} {L : List Pt}, arP B w us L → arP B w' us L
  | [], [], _ => trivial
  | _ :: _, _ :: _, h => ⟨hk _ _ h.1 h.2.1, h.2.1, arP.keep hk h.2.2⟩
  | [], _ :: _, h => h.elim
  | _ :: _, [], h => h.elim
theorem arP.mono {B B' : Nat} {w : World} (hB : B' ≤ B) : ∀ {us : List Value} {L : List Pt}, arP B w us L → arP B' w us L
  | [], [], _ => trivial
  | _ :: _, _ :: _, h => ⟨h.1, h.2.1.mono hB, arP.mono hB h.2.2⟩
  | [], _ :: _, h => h.elim
  | _ :: _, [], h => h.elim
theorem arP.app {B : Nat} {w : World} {us2 : List Value} {L2 : List Pt} (h2 : arP B w us2 L2) : ∀ {us : List Value} {L : List Pt}, arP B w us L → arP B w (us ++ us2) (L ++ L2)
  | [], [], _ => h2
  | _ :: _, _ :: _, h => ⟨h.1, h.2.1, arP.app h2 h.2.2⟩
  | [], _ :: _, h => h.elim
  | _ :: _, [], h => h.elim
theorem flatP_app {us2 : List Value} {L2 : List Pt} : ∀ {us : List Value} {L : List Pt}, us.length = L.length → flatP (us ++ us2) (L ++ L2) = flatP us L ++ flatP us2 L2
  | [], [], _ => rfl
  | u :: us, p :: L, h => by
    have := flatP_app (us2 := us2) (L2 := L2) (us := us) (L := L) (by simpa using h)
    simp [flatP, this]
  | [], _ :: _, h => by simp at h
  | _ :: _, [], h => by simp at h
theorem flatP_len : ∀ {us : List Value} {L : List Pt}, us.length = L.length → (flatP us L).length = L.length * 2
  | [], [], _ => rfl
  | u :: us, p :: L, h => by
    have := flatP_len (us := us) (L := L) (by simpa using h)
    simp [flatP, this]; omega
  | [], _ :: _, h => by simp at h
  | _ :: _, [], h => by simp at h
theorem arP.get {B : Nat} {w : World} : ∀ {us : List Value} {L : List Pt}, arP B w us L → ∀ i, i < L.length → ∃ u, (flatP us L)[i * 2]? = some (.int .i64 (L.getD i (0, [])).1) ∧ (flatP us L)[i * 2 + 1]? = some u ∧ Ints w u (L.getD i (0, [])).2 ∧ FreshV B u
  | [], [], _, i, hi => by simp at hi
  | u :: _, p :: _, h, 0, _ => ⟨u, rfl, rfl, h.1, h.2.1⟩
  | _ :: _, _ :: L, h, i + 1, hi => by
    obtain ⟨v, e1, e2, h1, h2⟩ := arP.get h.2.2 i (by simpa using hi)
    refine ⟨v, ?_, ?_, by simpa [List.getD] using h1, h2⟩
    · rw [show (i + 1) * 2 = i * 2 + 1 + 1 by omega]; simpa [flatP, List.getD] using e1
    · rw [show (i + 1) * 2 + 1 = i * 2 + 1 + 1 + 1 by omega]; simpa [flatP] using e2
  | [], _ :: _, h, _, _ => h.elim
  | _ :: _, [], h, _, _ => h.elim
theorem flatP_one : ∀ {B : Nat} {w : World} {us : List Value} {L : List Pt}, arP B w us L → ∀ x ∈ flatP us L, x.oneCell' = true
  | _, _, [], [], _ => by simp [flatP]
  | _, _, u :: us, p :: L, h => by
    intro x hx
    simp only [flatP, List.mem_cons] at hx
    rcases hx with rfl | rfl | hx
    · rfl
    · obtain ⟨a, c, rfl, _⟩ := h.1.shape; rfl
    · exact flatP_one h.2.2 x hx
  | _, _, [], _ :: _, h => h.elim
  | _, _, _ :: _, [], h => h.elim
/-- a slice of paths that the call owns -/
def OwnP (w : World) (B : Nat) (v : Value) (L : List Pt) : Prop := ∃ us, w.ownsRow B 28 2 v L.length (flatP us L) ∧ arP B w us L
theorem OwnP.nil (w : World) (B : Nat) : OwnP w B (.slice none 0 0) [] := ⟨[], World.ownsRow_nil w B _ 2, trivial⟩
theorem OwnP.below {w w' : World} {B : Nat} {v : Value} {L : List Pt} (h : OwnP w B v L) (b : Below w.heap.size w w') : OwnP w' B v L := by
  obtain ⟨us, h1, h2⟩ := h
  refine ⟨us, World.ownsRow.kept h1 (row := none) ⟨b.os, b.tape, b.output, b.size, fun i hi _ => b.block i hi⟩ ?_, h2.keep fun _ _ hv _ => hv.below b⟩
  cases v.ownBlock <;> simp
theorem OwnP.shape {w : World} {B : Nat} {v : Value} {L : List Pt} (h : OwnP w B v L) : ∃ a c, v = .slice a L.length c ∧ L.length ≤ c ∧ c ≤ 9223372036854775807 := by
  obtain ⟨us, ⟨_, h2⟩, _⟩ := h
  rcases h2 with ⟨rfl, h0⟩ | ⟨g, cap, cur, rfl, _, _, hnc, hcm, _⟩
  · exact ⟨none, 0, by rw [h0], by omega, by omega⟩
  · exact ⟨_, cap, rfl, hnc, by simpa [maxLen] using hcm⟩
theorem OwnP.cell {w : World} {B : Nat} {a : Option Addr} {n c : Nat} {L : List Pt} (h : OwnP w B (.slice a n c) L) {i : Nat} (hi : i < L.length) :
    ∃ g u, a = some ⟨g, 0, none⟩ ∧ B ≤ g ∧ g < w.heap.size ∧ w.cell? ⟨g, i * 2, none⟩ = some (.int .i64 (L.getD i (0, [])).1) ∧ w.cell? ⟨g, i * 2 + 1, none⟩ = some u ∧ Ints w u (L.getD i (0, [])).2 ∧ FreshV B u := by
  obtain ⟨us, ⟨hl, h2⟩, hr⟩ := h
  rcases h2 with ⟨_, h0⟩ | ⟨g, cap, cur, e, hb, hg, hnc, hcm, hcs, htake⟩
  · omega
  · simp only [Value.slice.injEq] at e
    obtain ⟨rfl, rfl, rfl⟩ := e
    obtain ⟨u, e1, e2, h1, h2⟩ := hr.get i hi
    refine ⟨g, u, rfl, hb, (Array.getElem?_eq_some_iff.1 hg).1, ?_, ?_, h1, h2⟩
    · rw [cell_of_row w g _ cur _ _ hg, ← e1, ← htake, List.getElem?_take_of_lt (by omega), Array.getElem?_toList]
    · rw [cell_of_row w g _ cur _ _ hg, ← e2, ← htake, List.getElem?_take_of_lt (by omega), Array.getElem?_toList]
/-- a slice of integers lies in no row of paths -/
theorem Ints.farP {w : World} {B : Nat} {v : Value} {n : Nat} {xs : List Value} {u : Value} {l : List Int} (h : Ints w u l) (ho : w.ownsRow B 28 2 v n xs) : ∀ k, blk u = some k → some k ≠ v.ownBlock := by
  intro k hk e
  obtain ⟨a, cap, rfl, _, _, rfl | ⟨g, off, cur, rfl, hg, _, _⟩⟩ := h
  · cases a <;> simp [blk] at hk
  · have hgk : g = k := by
      cases l with
      | nil => simp [blk] at hk
      | cons y l => simpa [blk] using hk
    subst hgk
    rcases ho.2 with ⟨rfl, _⟩ | ⟨g2, cap2, cur2, rfl, _, hg2, _⟩
    · simp [Value.ownBlock] at e
    · have : g = g2 := by simpa [Value.ownBlock] using e
      subst this
      rw [hg] at hg2
      simp at hg2
theorem grown_ints {w w' : World} {row : Option Nat} {u : Value} {l : List Int} (hg : w.grownBy w' row) (h : Ints w u l) (hf : ∀ k, blk u = some k → some k ≠ row) : Ints w' u l :=
  h.keep fun k hk => hg.block k (h.lt k hk) (hf k hk)
theorem OwnP.mono {w : World} {B B' : Nat} {v : Value} {L : List Pt} (h : OwnP w B v L) (hB : B' ≤ B) : OwnP w B' v L := by
  obtain ⟨us, ⟨h1, h2⟩, h3⟩ := h
  refine ⟨us, ⟨h1, ?_⟩, h3.mono hB⟩
  rcases h2 with h2 | ⟨g, cap, cur, e, hb, r⟩
  · exact .inl h2
  · exact .inr ⟨g, cap, cur, e, Nat.le_trans hB hb, r⟩
/-- a row of paths is as it was behind the growth of another one -/
theorem OwnP.other {w w' : World} {B B2 : Nat} {u v : Value} {L L2 : List Pt} (h : OwnP w B2 u L2) (hv : OwnP w B v L) (hg : w.grownBy w' v.ownBlock) (hd : ∀ g, u.ownBlock = some g → v.ownBlock ≠ some g) : OwnP w' B2 u L2 := by
  obtain ⟨us, h1, h2⟩ := h
  obtain ⟨us', h1', _⟩ := hv
  refine ⟨us, ?_, h2.keep fun x l hx _ => grown_ints hg hx (hx.farP h1')⟩
  refine ⟨h1.1, ?_⟩
  rcases h1.2 with hn | ⟨g, cap, cur, rfl, hb, hh, r⟩
  · exact .inl hn
  · exact .inr ⟨g, cap, cur, rfl, hb, by rw [hg.block g (Array.getElem?_eq_some_iff.1 hh).1 (fun e => hd g rfl e.symm)]; exact hh, r⟩
theorem OwnP.ownLt {w : World} {B : Nat} {v : Value} {L : List Pt} (h : OwnP w B v L) : ∀ g, v.ownBlock = some g → B ≤ g ∧ g < w.heap.size := by
  obtain ⟨us, h1, _⟩ := h
  exact World.ownsRow.lt h1
/-- append of the paths of a slice -/
theorem app_pts {ops : Array Oper} {rest : List Oper} {o : Oper} {a : Act} {Q : Exit → Act → World → Prop} (w : World) (hgd : o.guard = none) (s x : Operand)
    (ho : o.op = .call { callee := .builtin .append, args := #[s, x], argTypes := #[36, 36] }) (B : Nat) (v vx : Value) (L L2 : List Pt)
    (hs : a.eval s = v) (hx : a.eval x = vx) (hown : OwnP w B v L) (hx2 : OwnP w B vx L2) (hne : 0 < L2.length) (hB : B ≤ w.heap.size) (hl : L.length + L2.length ≤ 1099511627776)
    (hK : ∀ v' w', OwnP w' B v' (L ++ L2) → w.grownBy w' v.ownBlock → (v'.ownBlock = v.ownBlock ∨ v'.ownBlock = some w.heap.size) → wpList Tryd.prog ops Q rest (a.put o.dst v') w') :
    wpList Tryd.prog ops Q (o :: rest) a w := by
  obtain ⟨i, hi, h0, h1, h2⟩ := info_parts infoPath
  obtain ⟨us, hu1, hu2⟩ := hown
  obtain ⟨us2, hv1, hv2⟩ := hx2
  obtain ⟨_, hcase⟩ := hv1
  rcases hcase with ⟨_, hz⟩ | ⟨g, cap, cur, rfl, hb, hg, hnc, hcm, hcs, htake⟩
  · omega
  have hfl := flatP_len hv2.len
  refine wpList_append_own_at _ hgd s x 36 ho B 28 i (.agg #[.int .i64 0, .slice none 0 0]) 2 32 Tryd.underlying36 hi h0 h1 h2 rfl (by decide) v L.length (flatP us L) hs hu1
    ⟨g, 0, none⟩ L2.length cap (flatP us2 L2) hx (by rw [hfl]) (fun j u hj => ?_) (flatP_one hv2) (by unfold maxLen; omega) (by omega) hB ?_
  · have hadd : (⟨g, 0, none⟩ : Addr).add j = ⟨g, j, none⟩ := by unfold Addr.add; split <;> simp_all
    have hjl : j < L2.length * 2 := by
      rw [← hfl]
      exact (List.getElem?_eq_some_iff.1 hj).1
    rw [hadd, cell_of_row w g j cur _ _ hg, ← hj, ← htake, List.getElem?_take_of_lt (by omega), Array.getElem?_toList]
  · intro v' w' ho' hg' _ hloc
    refine hK v' w' ⟨us ++ us2, ?_, ?_⟩ hg' hloc
    · rw [flatP_app hu2.len, List.length_append]; exact ho'
    · have hkeep : ∀ u l, Ints w u l → FreshV B u → Ints w' u l := fun u l hu _ => grown_ints hg' hu (hu.farP hu1)
      exact arP.app (hv2.keep hkeep) (hu2.keep hkeep)
/-- append of one path, laid into a block of its own -/
theorem app_pt {ops : Array Oper} {rest : List Oper} {o : Oper} {a : Act} {Q : Exit → Act → World → Prop} (w : World) (hgd : o.guard = none) (s x : Operand)
    (ho : o.op = .call { callee := .builtin .append, args := #[s, x], argTypes := #[36, 36] }) (B : Nat) (v : Value) (L : List Pt) (st : Int) (u : Value) (ar : List Int)
    (hs : a.eval s = v) (hx : a.eval x = .slice (some ⟨w.heap.size, 0, none⟩) 1 1) (hown : OwnP w B v L) (hu : Ints w u ar) (hf : FreshV B u) (hB : B ≤ w.heap.size) (hl : L.length + 1 ≤ 1099511627776)
    (hK : ∀ v' w', OwnP w' B v' (L ++ [(st, ar)]) → (w.alloc (.cells #[.int .i64 st, u] 28)).grownBy w' v.ownBlock → (v'.ownBlock = v.ownBlock ∨ v'.ownBlock = some (w.heap.size + 1)) → wpList Tryd.prog ops Q rest (a.put o.dst v') w') :
    wpList Tryd.prog ops Q (o :: rest) a (w.alloc (.cells #[.int .i64 st, u] 28)) := by
  have hb1 : Below w.heap.size w (w.alloc (.cells #[.int .i64 st, u] 28)) := (Below.refl _ w).alloc (Nat.le_refl _) _
  refine app_pts _ hgd s x ho B v (.slice (some ⟨w.heap.size, 0, none⟩) 1 1) L [(st, ar)] hs hx (hown.below hb1) ⟨[u], ?_, hu.below hb1, hf, trivial⟩ (by simp) (by simp; omega) (by simpa using hl) (fun v' w' h1 h2 h3 => hK v' w' h1 h2 (by simpa using h3))
  exact World.ownsRow_lit (size := 2) (e := 28) (base := B) w #[.int .i64 st, u] 1 hB (by decide) rfl
end Go.Proofs.YtndooeffjkofdaaDoor

namespace Go.Proofs.YtndooeffjkofdaaDoor
open Go.RowKit
set_option linter.unusedVariables false
set_option linter.unusedSimpArgs false

/-- append of any slice that reads as ls to one that the call owns -/
theorem run_app_any2 (ty : TypeId) (B : Nat) (v vx : Value) (l ls : List Int) (w : World) (hown : Own w B 3 .i64 v l) (hx : Ints w vx ls) (hB : B ≤ w.heap.size) (hl : l.length + ls.length ≤ 17592186044416) :
    ∃ v' w', (Builtin.append_ #[24, 24] ty #[v, vx]).run Tryd.prog w = .ok v' w' ∧ Own w' B 3 .i64 v' (l ++ ls) ∧ w.grownBy w' v.ownBlock ∧ (v'.ownBlock = v.ownBlock ∨ v'.ownBlock = some w.heap.size) := by
  obtain ⟨i, hi, h0, h1, h2⟩ := info_parts infoInt
  have ht := Tryd.underlying24
  obtain ⟨a, cap, rfl, hlc, hcm, hcells⟩ := hx
  cases a with
  | none =>
    have hne : ls = [] := by
      rcases hcells with h | ⟨_, _, _, h, _⟩
      · exact h
      · cases h
    subst hne
    refine ⟨v, w, ?_, by simpa using hown, World.grownBy.refl w _, .inl rfl⟩
    rcases hown.2 with ⟨rfl, _⟩ | ⟨g, cap', cur, rfl, _, _, hnc, _⟩
    · simp [Builtin.append_, run_underlying ht, sizeOf, typeInfo, hi, Builtin.lenOf, Builtin.firstCells]
    · simp [Builtin.append_, run_underlying ht, sizeOf, typeInfo, hi, Builtin.lenOf, Builtin.firstCells, hnc, storeCells]
  | some ad =>
    obtain ⟨v', w', hrun, h3, h4, _, h5⟩ := run_append_own_at (P := Tryd.prog) w B 24 ty 3 i (.int .i64 0) 1 8 ht hi h0 h1 h2 rfl (by decide) v l.length (l.map (Value.int .i64)) hown
      ad ls.length cap (ls.map (Value.int .i64)) (by simp) (fun j u hj => by
        have hjl : j < ls.length := by
          rcases Nat.lt_or_ge j ls.length with h | h
          · exact h
          · rw [List.getElem?_eq_none (show (ls.map (Value.int .i64)).length ≤ j by simpa using h)] at hj; cases hj
        rcases hcells with h | ⟨g', off, cur, e, hg, hs, hc⟩
        · subst h; simp at hjl
        · simp only [Option.some.injEq] at e
          subst e
          have hadd : (⟨g', off, none⟩ : Addr).add j = ⟨g', off + j, none⟩ := by unfold Addr.add; split <;> simp_all
          rw [hadd, cell_of_row w g' _ cur _ _ hg, hc j hjl, ← hj]
          simp [List.getD, hjl]) (ints_oneCell _ _) (by unfold maxLen; omega) (by omega) hB
    exact ⟨v', w', hrun, by unfold Own; simpa using h3, h4, h5⟩
end Go.Proofs.YtndooeffjkofdaaDoor

namespace Go.Proofs.YtndooeffjkofdaaDoor
open Go.RowKit
set_option linter.unusedVariables false
set_option linter.unusedSimpArgs false

/-- new paths -/
def PtsNew (L : List Pt) (w : World) (e : Ending) (w' : World) : Prop := ∃ v, e = .returned v ∧ OwnP w' w.heap.size v L ∧ Below w.heap.size w w'
theorem PtsNew.of_eq {L L' : List Pt} {w w' : World} {e : Ending} (h : PtsNew L w e w') (h1 : L = L') : PtsNew L' w e w' := h1 ▸ h
theorem own_none (w : World) (B : Nat) (hB : B ≤ w.heap.size) : Own (w.alloc (.cells #[] 3)) B 3 .i64 (.slice (some ⟨w.heap.size, 0, none⟩) 0 0) [] :=
  World.ownsRow_lit (size := 1) (e := 3) (base := B) w #[] 0 hB (by decide) rfl
theorem OwnP.one (w : World) {B : Nat} (st : Int) {u : Value} {ar : List Int} (hu : Ints w u ar) (hf : FreshV B u) (hB : B ≤ w.heap.size) : OwnP (w.alloc (.cells #[.int .i64 st, u] 28)) B (.slice (some ⟨w.heap.size, 0, none⟩) 1 1) [(st, ar)] :=
  ⟨[u], World.ownsRow_lit (size := 2) (e := 28) (base := B) w #[.int .i64 st, u] 1 hB (by decide) rfl, hu.below ((Below.refl _ w).alloc (Nat.le_refl _) _), hf, trivial⟩
/-- an arrow laid ahead of any arrows -/
theorem app_cons {ops : Array Oper} {rest : List Oper} {o : Oper} {a : Act} {Q : Exit → Act → World → Prop} {c : Int} (w : World) (hgd : o.guard = none) (s x : Operand)
    (ho : o.op = .call { callee := .builtin .append, args := #[s, x], argTypes := #[24, 24] }) (vx : Value) (ls : List Int)
    (hs : a.eval s = .slice (some ⟨w.heap.size, 0, none⟩) 1 1) (hx : a.eval x = vx) (hsrc : Ints w vx ls) (hl : ls.length ≤ 1048576)
    (hK : ∀ v' w', Ints w' v' (c :: ls) → FreshV w.heap.size v' → Below w.heap.size w w' → wpList Tryd.prog ops Q rest (a.put o.dst v') w') :
    wpList Tryd.prog ops Q (o :: rest) a (w.alloc (.cells #[.int .i64 c] 3)) :=
  wpList_plain hgd fun _ hK' => by
    have hb1 : Below w.heap.size w (w.alloc (.cells #[.int .i64 c] 3)) := (Below.refl _ w).alloc (Nat.le_refl _) _
    have hown : Own (w.alloc (.cells #[.int .i64 c] 3)) w.heap.size 3 .i64 (.slice (some ⟨w.heap.size, 0, none⟩) 1 1) [c] :=
      World.ownsRow_lit (size := 1) (e := 3) (base := w.heap.size) w #[.int .i64 c] 1 (Nat.le_refl _) (by decide) rfl
    obtain ⟨v', w', hrun, h1, h2, _⟩ := run_app_any2 o.type w.heap.size _ vx [c] ls _ hown (hsrc.below hb1) hb1.size (by simp; omega)
    unfold Oper.wp execOp
    simp only [ho, resolve, invoke, builtin, Sem.run_bind, Sem.run_pure, Result.andThen_ok, List.map_toArray, List.map_cons, List.map_nil, hs, hx, hrun]
    have hI := Ints.of_own h1
    exact hK' _ _ (hK v' w' hI.1 hI.2 (hb1.grown h2 hb1.size (fun k hk => (World.ownsRow.lt hown k hk).1)))
/-- the first j paths of P, each with an arrow ahead -/
def MQ (v i : Int) (P : List (List Int)) (j : Nat) : List Pt := (P.take j).map fun p => (v, i :: p)
theorem MQ_succ {v i : Int} {P : List (List Int)} {j : Nat} (h : j < P.length) : MQ v i P (j + 1) = MQ v i P j ++ [(v, i :: P.getD j [])] := by
  unfold MQ
  rw [List.take_add_one, List.map_append, List.getElem?_eq_getElem h]
  simp [List.getD, h]
theorem MQ_len {v i : Int} {P : List (List Int)} {j : Nat} (h : j ≤ P.length) : (MQ v i P j).length = j := by simp [MQ]; omega
theorem pts_get {u : Int} {P : List (List Int)} {j : Nat} (h : j < P.length) : (P.map fun p => ((u, p) : Pt)).getD j (0, []) = (u, P.getD j []) := by simp [List.getD, h]
/-- all paths from v, as paths -/
def pP (f t : List Int) (d : Nat) (v : Int) : List Pt := (pF f t d v).map fun p => (v, p)
def pPK (f t : List Int) (d : Nat) (v : Int) (k : Nat) : List Pt := (pK f t d v k).map fun p => (v, p)
theorem pP_len (f t : List Int) (d : Nat) (v : Int) : (pP f t d v).length = (pF f t d v).length := by unfold pP; rw [List.length_map]
theorem pPK_zero (f t : List Int) (d : Nat) (v : Int) : pPK f t d v 0 = [(v, [])] := by simp [pPK, pK_zero]
theorem pPK_no {f t : List Int} {d : Nat} {v : Int} {k : Nat} (h : f.getD k 0 ≠ v) : pPK f t d v (k + 1) = pPK f t d v k := by
  unfold pPK; rw [pK_succ, if_neg h, List.append_nil]
theorem pPK_yes {f t : List Int} {d : Nat} {v : Int} {k : Nat} (h : f.getD k 0 = v) : pPK f t d v (k + 1) = pPK f t d v k ++ MQ v k (pF f t d (t.getD k 0)) (pF f t d (t.getD k 0)).length := by
  unfold pPK MQ; rw [pK_succ, if_pos h, List.map_append, List.take_length, List.map_map]; rfl
theorem pPK_all (f t : List Int) (d : Nat) (v : Int) : pPK f t d v f.length = pP f t (d + 1) v := by unfold pPK pP; rw [pK_all]
theorem flat_leP (g : Nat → List (List Int)) (m : Nat) (h : ∀ i, (g i).length ≤ m) : ∀ k, ((List.range k).flatMap g).length ≤ k * m := by
  intro k; induction k with
  | zero => simp
  | succ k ih => simp only [List.range_succ, List.flatMap_append, List.length_append, List.flatMap_cons, List.flatMap_nil, List.append_nil]; have := h k; rw [Nat.succ_mul]; omega
theorem pF_len {f t : List Int} (h6 : f.length ≤ 6) : ∀ d v, (pF f t d v).length ≤ 7 ^ d := by
  intro d; induction d with
  | zero => intro v; simp [pF]
  | succ d ih =>
    intro v
    have h := flat_leP (fun i => if f.getD i 0 = v then (pF f t d (t.getD i 0)).map ((i : Int) :: ·) else []) (7 ^ d) (fun i => by
      show (if f.getD i 0 = v then (pF f t d (t.getD i 0)).map ((i : Int) :: ·) else []).length ≤ _
      by_cases e : f.getD i 0 = v
      · rw [if_pos e, List.length_map]; exact ih _
      · rw [if_neg e]; exact Nat.zero_le _) f.length
    have hm : f.length * 7 ^ d ≤ 6 * 7 ^ d := Nat.mul_le_mul_right _ h6
    have h1 : 1 ≤ 7 ^ d := Nat.one_le_pow _ _ (by decide)
    unfold pF
    rw [Nat.pow_succ, List.length_cons]
    omega
theorem pow7 {d : Nat} (hd : d ≤ 6) : 7 ^ d ≤ 117649 := Nat.pow_le_pow_right (n := 7) (by decide) hd
theorem pF_small {f t : List Int} {d : Nat} (h6 : f.length ≤ 6) (hd : d ≤ 6) (v : Int) : (pF f t d v).length ≤ 117649 := Nat.le_trans (pF_len h6 d v) (pow7 hd)
theorem pPK_small {f t : List Int} {d k : Nat} (h6 : f.length ≤ 6) (hd : d ≤ 6) (v : Int) (hk : k ≤ 6) : (pPK f t d v k).length ≤ 705895 := by
  unfold pPK pK
  have h := flat_leP (fun i => if f.getD i 0 = v then (pF f t d (t.getD i 0)).map ((i : Int) :: ·) else []) 117649 (fun i => by
      show (if f.getD i 0 = v then (pF f t d (t.getD i 0)).map ((i : Int) :: ·) else []).length ≤ _
      by_cases e : f.getD i 0 = v
      · rw [if_pos e, List.length_map]; exact pF_small h6 hd _
      · rw [if_neg e]; exact Nat.zero_le _) k
  rw [List.length_map, List.length_cons]
  omega
theorem pF_arr {f t : List Int} : ∀ d v, ∀ p ∈ pF f t d v, p.length ≤ d := by
  intro d; induction d with
  | zero => intro v p hp; simp [pF] at hp; simp [hp]
  | succ d ih =>
    intro v p hp
    unfold pF at hp
    rw [List.mem_cons, List.mem_flatMap] at hp
    rcases hp with rfl | ⟨i, _, hi⟩
    · simp
    · by_cases e : f.getD i 0 = v
      · rw [if_pos e, List.mem_map] at hi
        obtain ⟨q, hq, rfl⟩ := hi
        have := ih _ _ hq
        simp; omega
      · rw [if_neg e] at hi; cases hi
theorem pF_arrAt {f t : List Int} {d : Nat} {v : Int} {j : Nat} (h : j < (pF f t d v).length) : ((pF f t d v).getD j []).length ≤ d := by
  refine pF_arr (f := f) (t := t) d v _ ?_
  simp [List.getD, h]
theorem isQ_all {N : Nat} {f t : List Int} (h : isQ N f t = true) : (∀ j, j < f.length → 0 ≤ f.getD j 0 ∧ f.getD j 0 < N) ∧ (∀ j, j < t.length → 0 ≤ t.getD j 0 ∧ t.getD j 0 < N) ∧ f.length = t.length ∧ f.length ≤ 6 ∧ 1 ≤ N ∧ N ≤ 5 := by
  unfold isQ at h
  simp only [Bool.and_eq_true, decide_eq_true_eq] at h
  obtain ⟨⟨⟨⟨h1, h2⟩, h3⟩, h4⟩, h5⟩ := h
  obtain ⟨n1, n5⟩ := inR_true h1
  have g : ∀ l : List Int, allR l 0 ((N : Int) - 1) = true → ∀ j, j < l.length → 0 ≤ l.getD j 0 ∧ l.getD j 0 < N := fun l hl j hj => by
    unfold allR at hl
    rw [List.all_eq_true] at hl
    obtain ⟨a, b⟩ := inR_true (hl (l.getD j 0) (by simp [List.getD, hj]))
    omega
  exact ⟨g f h4, g t h5, h2, h3, by omega, by omega⟩
end Go.Proofs.YtndooeffjkofdaaDoor

namespace Go.Proofs.YtndooeffjkofdaaDoor
open Go.RowKit
set_option linter.unusedVariables false
set_option linter.unusedSimpArgs false

/-- all paths that begin at one of the first k places -/
def allP (f t : List Int) (k : Nat) : List Pt := (List.range k).flatMap fun (x : Nat) => pP f t 6 (x : Int)
theorem allP_succ (f t : List Int) (k : Nat) : allP f t (k + 1) = allP f t k ++ pP f t 6 (k : Int) := by simp [allP, List.range_succ]
theorem pP_pos (f t : List Int) (d : Nat) (v : Int) : 0 < (pP f t d v).length := by
  rw [pP_len]
  cases d <;> simp [pF]
theorem pP_small {f t : List Int} (h6 : f.length ≤ 6) (v : Int) : (pP f t 6 v).length ≤ 117649 := by rw [pP_len]; exact pF_small h6 (Nat.le_refl _) v
theorem allP_small {f t : List Int} (h6 : f.length ≤ 6) : ∀ k, (allP f t k).length ≤ k * 117649 := by
  intro k; induction k with
  | zero => simp [allP]
  | succ k ih => rw [allP_succ, List.length_append, Nat.succ_mul]; have := pP_small (f := f) (t := t) h6 (k : Int); omega
theorem allP_arr {f t : List Int} (k : Nat) : ∀ p ∈ allP f t k, p.2.length ≤ 6 := by
  intro p hp
  unfold allP at hp
  rw [List.mem_flatMap] at hp
  obtain ⟨x, _, hx⟩ := hp
  unfold pP at hx
  rw [List.mem_map] at hx
  obtain ⟨q, hq, rfl⟩ := hx
  exact pF_arr 6 _ q hq
def allR2 (n : Int) (f t : List Int) : List Pt := if ordOK n f t = true then allP f t n.toNat else []
theorem allR2_arr {n : Int} {f t : List Int} {i : Nat} (h : i < (allR2 n f t).length) : ((allR2 n f t).getD i (0, [])).2.length ≤ 6 := by
  have hm : (allR2 n f t).getD i (0, []) ∈ allR2 n f t := by simp [List.getD, h]
  unfold allR2 at hm ⊢
  by_cases e : ordOK n f t = true
  · rw [if_pos e] at hm ⊢; exact allP_arr _ _ hm
  · rw [if_neg e] at hm; cases hm
theorem isQ_l62 {n : Int} {f t : List Int} (h : ordOK n f t = true) : f.length ≤ 6 ∧ 1 ≤ n.toNat ∧ n.toNat ≤ 5 ∧ ((n.toNat : Nat) : Int) = n := by
  unfold ordOK at h
  simp only [Bool.and_eq_true] at h
  have h1 := isQ_n' h.1
  have h2 := isQ_len h.1
  refine ⟨h2.2, by omega, by omega, by omega⟩
theorem allR2_small {n : Int} {f t : List Int} : (allR2 n f t).length ≤ 588245 := by
  unfold allR2
  by_cases e : ordOK n f t = true
  · rw [if_pos e]
    obtain ⟨h6, _, h5, _⟩ := isQ_l62 e
    have h := allP_small (f := f) (t := t) h6 n.toNat
    have : n.toNat * 117649 ≤ 5 * 117649 := Nat.mul_le_mul_right _ h5
    omega
  · rw [if_neg e]; simp
theorem allR2_pos {n : Int} {f t : List Int} (h : ordOK n f t = true) : 0 < (allR2 n f t).length := by
  unfold allR2
  rw [if_pos h]
  obtain ⟨_, h1, _, _⟩ := isQ_l62 h
  obtain ⟨m, hm⟩ : ∃ m, n.toNat = m + 1 := ⟨n.toNat - 1, by omega⟩
  rw [hm, allP_succ, List.length_append]
  have := pP_pos f t 6 (m : Int)
  omega
theorem allR2_no {n : Int} {f t : List Int} (h : ordOK n f t = false) : allR2 n f t = [] := by simp [allR2, h]
/-- new paths and a word -/
def PtsOK (L : List Pt) (ok : Bool) (w : World) (e : Ending) (w' : World) : Prop := ∃ v, e = .returned (.tuple #[v, .bool ok]) ∧ OwnP w' w.heap.size v L ∧ Below w.heap.size w w'
theorem PtsOK.of_eq {L L' : List Pt} {ok ok' : Bool} {w w' : World} {e : Ending} (h : PtsOK L ok w e w') (h1 : L = L') (h2 : ok = ok') : PtsOK L' ok' w e w' := by subst h1; subst h2; exact h
/-- the longest of the first k paths, from s on -/
def mxP (s : Int) (L : List Pt) : Nat → Int
  | 0 => s
  | k + 1 => if mxP s L k < ((L.getD k (0, [])).2.length : Int) then ((L.getD k (0, [])).2.length : Int) else mxP s L k
theorem mxP_ge {s : Int} {L : List Pt} {k : Nat} : s ≤ mxP s L k := by
  induction k with
  | zero => exact Int.le_refl _
  | succ k ih => unfold mxP; split <;> omega
theorem mxP_eq {L : List Pt} {k : Nat} : mxP (-1) L (k + 1) = mxP 0 L (k + 1) := by
  induction k with
  | zero =>
    show (if (-1 : Int) < ((L.getD 0 (0, [])).2.length : Int) then ((L.getD 0 (0, [])).2.length : Int) else -1) = if (0 : Int) < ((L.getD 0 (0, [])).2.length : Int) then ((L.getD 0 (0, [])).2.length : Int) else 0
    generalize (L.getD 0 (0, [])).2.length = x
    rw [if_pos (show (-1 : Int) < (x : Int) by omega)]
    by_cases e : (0 : Int) < (x : Int)
    · rw [if_pos e]
    · rw [if_neg e]; omega
  | succ k ih => rw [mxP, ih]; rfl
/-- the answer -/
def lonR (n : Int) (f t : List Int) : Int := if ordOK n f t = true then mxP 0 (allR2 n f t) (allR2 n f t).length else -1
end Go.Proofs.YtndooeffjkofdaaDoor
