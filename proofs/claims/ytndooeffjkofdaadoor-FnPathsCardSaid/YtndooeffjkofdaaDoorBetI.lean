/- PathsBetween and CountPaths, of the program. -/
import Derived.Test.YtndooeffjkofdaaDoorDelF
import Derived.Test.YtndooeffjkofdaaDoorBetS
namespace Go.Proofs.YtndooeffjkofdaaDoor
open Go.RowKit
set_option linter.unusedVariables false
set_option linter.unusedSimpArgs false

theorem pF_isP {n : Int} {f t : List Int} : ∀ d (e st : Int) (ar : List Int), isP n f t st ar = true → curP t st ar ar.length = e → ar.length + d ≤ 20 → ∀ p ∈ pF f t d e, isP n f t st (ar ++ p) = true := by
  intro d
  induction d with
  | zero => intro e st ar h _ _ p hp; simp [pF] at hp; subst hp; simpa using h
  | succ d ih =>
    intro e st ar h he hl p hp
    unfold pF at hp
    rw [List.mem_cons, List.mem_flatMap] at hp
    rcases hp with rfl | ⟨i, hi, hp⟩
    · simpa using h
    · by_cases hc : f.getD i 0 = e
      · rw [if_pos hc, List.mem_map] at hp
        obtain ⟨q, hq, rfl⟩ := hp
        have h2 := ih (t.getD i 0) st (ar ++ [(i : Int)]) (isP_snoc h (List.mem_range.1 hi) (by rw [hc, he]) (by omega)) (curP_snoc t st ar i) (by simp; omega) q hq
        simpa using h2
      · rw [if_neg hc] at hp; cases hp
theorem pP_isP {n : Int} {f t : List Int} {a : Int} (h : isP n f t a [] = true) {i : Nat} (hi : i < (pP f t 6 a).length) : isP n f t ((pP f t 6 a).getD i (0, [])).1 ((pP f t 6 a).getD i (0, [])).2 = true := by
  have hm : (pP f t 6 a).getD i (0, []) ∈ pP f t 6 a := by simp [List.getD, hi]
  generalize (pP f t 6 a).getD i (0, []) = x at hm ⊢
  unfold pP at hm
  rw [List.mem_map] at hm
  obtain ⟨p, hp, rfl⟩ := hm
  exact pF_isP 6 a a [] h rfl (by simp) p hp
/-- to be deleted: a path that ends elsewhere -/
def notB (t : List Int) (b : Int) (p : Pt) : Bool := curP t p.1 p.2 p.2.length != b
theorem btwF_eq {n : Int} {f t : List Int} {a b : Int} (h : isP n f t a [] = true) : (pP f t 6 a).filter (fun p => !notB t b p) = btwF n f t b (pP f t 6 a) := by
  unfold btwF
  refine List.filter_congr (fun p hp => ?_)
  obtain ⟨i, hi, rfl⟩ := List.mem_iff_getElem.1 hp
  have h2 := pP_isP h hi
  simp only [List.getD, List.getElem?_eq_getElem hi, Option.getD_some] at h2
  unfold notB endP
  rw [if_pos h2]
  simp [bne]

set_option maxRecDepth 100000 in
set_option maxHeartbeats 2000000 in
theorem i_pathsBetween (N : Nat) (vf vt : Value) (f t : List Int) (a b : Int) (w : World) (hgo : ordGo f t N = true) (hisq : isQ N f t = true) (ha : inR a 0 ((N : Int) - 1) = true) (hf : Ints w vf f) (ht : Ints w vt t) :
    Calls Tryd.prog 44 #[.agg #[.int .i64 N, vf, vt], .int .i64 a, .int .i64 b] w (PtsNew (btwF N f t b (pP f t 6 a)) w) := by
  have hmf : ∀ (fn : Fn) (first cap : Array Value) (w : World), (Instr.makeFunc fn first cap).run Tryd.prog w = .ok (.func fn first cap) w := fun _ _ _ _ => rfl
  obtain ⟨_, htN, hlen, h6, _, _⟩ := isQ_all hisq
  have hisP : isP N f t a [] = true := isP_of hisq ha (by simp) (fun j hj => by simp at hj)
  have hrk : rkV f t N a N < 6 := by have := rk_le f t N a N; have := (isQ_n' hisq).2; omega
  obtain ⟨a1, c1, rfl, hl1, hm1⟩ := hf.shape
  obtain ⟨a2, c2, rfl, hl2, hm2⟩ := ht.shape
  have hlf := hf.lt; have hlt := ht.lt
  have h2 : Below w.heap.size w ((w.alloc (.cells #[.int .i64 N, .slice a1 f.length c1, .slice a2 t.length c2] 26)).alloc (.cells #[.int .i64 b] 3)) := ((Below.refl _ w).alloc (Nat.le_refl _) _).alloc (by simp) _
  have P0 := Lib.hid ((Blk.new w #[.int .i64 N, .slice a1 f.length c1, .slice a2 t.length c2] 26).below ((Below.refl _ _).alloc (Nat.le_refl _) (.cells #[.int .i64 b] 3)))
  have q0 : Blk ((w.alloc (.cells #[.int .i64 N, .slice a1 f.length c1, .slice a2 t.length c2] 26)).alloc (.cells #[.int .i64 b] 3)) (w.heap.size + 1) #[.int .i64 b] 3 := by simpa using Blk.new (w.alloc (.cells #[.int .i64 N, .slice a1 f.length c1, .slice a2 t.length c2] 26)) #[.int .i64 b] 3
  have Q0 := Lib.hid q0
  have HF := Lib.hid (hf.below h2); have HT := Lib.hid (ht.below h2)
  have H2 := Lib.hid h2
  have HC := Lib.hid (i_pathsFrom (B0 := w.heap.size + 2) (n := N) (N := N) hgo hlen h6 htN 6 a [] _ _ _ _ hisP hrk (Nat.le_refl _) (by simp) HF.out HT.out (Ints.nil _) (FreshV.nil _) (by simp))
  have HIP := Lib.hid (And.intro hisP (And.intro hlf hlt))
  have HSM := Lib.hid (pP_small (t := t) h6 a)
  clear hf ht h2 q0 hgo hisq ha htN hlen hisP hrk hlf hlt
  go_enter Tryd.func44, Tryd.ntmps44
  obtain ⟨p0, p1, p2⟩ := blk3 P0.out
  go_wp2_with fail
  refine HC.out.mono ?_; rintro e w1 ⟨vv, rfl, ho0, hn, b1⟩
  have ho : OwnP w1 (w.heap.size + 2) vv (pP f t 6 a) := ho0
  have hn2 : ∀ q, vv.ownBlock = some q → w.heap.size + 2 ≤ q := fun q hq => by have := hn q hq; simp at this; omega
  have P1 := P0.out.below b1; have Q1 := Q0.out.below b1
  have F1 := HF.out.below b1; have T1 := HT.out.below b1
  have hb1 := below_call H2.out b1 H2.out.size
  have HD := Lib.hid (DeleteFunc_pts 61 #[.pointer (some ⟨w.heap.size, 0, none⟩), .pointer (some ⟨w.heap.size + 1, 0, none⟩)] (notB t b) (w.heap.size + 2) vv (pP f t 6 a) w1 ho (by have := HSM.out; omega) enter_between1 (fun i u w' hi hgr hu => by
    have hk : ∀ k, k < w.heap.size + 2 → w'.heap[k]? = w1.heap[k]? := fun k hk => hgr.block k (by have := Q1.lt; omega) (fun e => by have := hn2 k e.symm; omega)
    have h := i_between1 N _ _ f t b ((pP f t 6 a).getD i (0, [])).1 u ((pP f t 6 a).getD i (0, [])).2 w.heap.size (w.heap.size + 1) w' (F1.keep fun k hk' => hk k (by have := HIP.out.2.1 k hk'; omega)) (T1.keep fun k hk' => hk k (by have := HIP.out.2.2 k hk'; omega)) hu (pP_isP HIP.out.1 hi)
      (by unfold Blk; rw [hk _ (by omega)]; exact P1) (by unfold Blk; rw [hk _ (by omega)]; exact Q1)
    exact h))
  have HB1 := Lib.hid hb1; have HN := Lib.hid hn2
  obtain ⟨aL, cL, rfl, _, _⟩ := ho.shape
  clear ho ho0 hn hn2 b1 hb1 P1 Q1 F1 T1 p0 p1 p2
  go_wp2_with fail
  refine HD.out.mono ?_; rintro e w2 ⟨v2, rfl, ho2, hq2, hg2⟩
  have HB2 := Lib.hid (HB1.out.grown hg2 HB1.out.size (fun q hq => by have := HN.out q hq; omega))
  rw [btwF_eq HIP.out.1] at ho2
  have HO2 := Lib.hid (ho2.mono (B' := w.heap.size) (by omega))
  obtain ⟨a5, c5, rfl, _, _⟩ := ho2.shape
  clear ho2 hq2 hg2
  go_wp2
  go_ret
  exact ⟨_, rfl, HO2.out, HB2.out⟩

set_option maxRecDepth 100000 in
set_option maxHeartbeats 2000000 in
theorem i_PathsBetween (n : Int) (vf vt : Value) (f t : List Int) (a b : Int) (w : World) (hf : Ints w vf f) (ht : Ints w vt t) :
    Calls Tryd.prog 20 #[.agg #[.int .i64 n, vf, vt], .int .i64 a, .int .i64 b] w (PtsOK (btwS n f t a b) (btwOK n f t a b) w) := by
  obtain ⟨a1, c1, rfl, hl1, hm1⟩ := hf.shape
  obtain ⟨a2, c2, rfl, hl2, hm2⟩ := ht.shape
  have h2 : Below w.heap.size w (w.alloc (.cells #[.int .i64 n, .slice a1 f.length c1, .slice a2 t.length c2] 26)) := (Below.refl _ w).alloc (Nat.le_refl _) _
  have P0 := Lib.hid (Blk.new w #[.int .i64 n, .slice a1 f.length c1, .slice a2 t.length c2] 26)
  have HF := Lib.hid (hf.below h2); have HT := Lib.hid (ht.below h2)
  have H2 := Lib.hid h2
  clear hf ht h2
  go_enter Tryd.func20, Tryd.ntmps20
  obtain ⟨p0, p1, p2⟩ := blk3 P0.out
  cases hq : ordOK n f t
  · have HN := Lib.hid (show btwOK n f t a b = false by simp [btwOK, hq])
    have HN2 := Lib.hid (show btwS n f t a b = [] by unfold btwS; rw [HN.out]; rfl)
    go_wp2_with fail
    refine (i_IsAcyclic _ _ _ f t _ HF.out HT.out).mono ?_; rintro e w1 ⟨rfl, b1⟩
    rw [hq]
    have HBw := Lib.hid (below_call H2.out b1 H2.out.size)
    clear b1
    go_wp2
    go_ret2
    exact PtsOK.of_eq ⟨_, rfl, OwnP.nil _ _, HBw.out⟩ HN2.out.symm HN.out.symm
  have hq2 := hq
  unfold ordOK at hq2
  simp only [Bool.and_eq_true] at hq2
  obtain ⟨hisq, hgo⟩ := hq2
  obtain ⟨n1, n5⟩ := isQ_n' hisq
  obtain ⟨N, rfl⟩ := Int.eq_ofNat_of_zero_le (show 0 ≤ n by omega)
  have hgo : ordGo f t N = true := hgo
  have HGO := Lib.hid (And.intro hgo hisq)
  have HOK := Lib.hid hq
  clear hgo hisq
  go_wp2_with fail
  refine (i_IsAcyclic _ _ _ f t _ HF.out HT.out).mono ?_; rintro e w1 ⟨rfl, b1⟩
  rw [hq]
  have HB1 := Lib.hid (below_call H2.out b1 H2.out.size)
  have P1 := Lib.hid (P0.out.below b1)
  have HF1 := Lib.hid (HF.out.below b1); have HT1 := Lib.hid (HT.out.below b1)
  clear b1 p0 p1 p2 hq
  obtain ⟨p0, p1, p2⟩ := blk3 P1.out
  cases ha : inR a 0 ((N : Int) - 1)
  · have HN := Lib.hid (show btwOK N f t a b = false by simp [btwOK, ha])
    have HN2 := Lib.hid (show btwS N f t a b = [] by unfold btwS; rw [HN.out]; rfl)
    go_wp2_with fail
    refine (i_hasVertex _ _ _ _ _ n1 n5 f t HF1.out HT1.out).mono ?_; rintro e w2 ⟨rfl, b2⟩
    rw [ha]
    have HBw := Lib.hid (below_call HB1.out b2 HB1.out.size)
    clear b2
    go_wp2
    go_ret2
    exact PtsOK.of_eq ⟨_, rfl, OwnP.nil _ _, HBw.out⟩ HN2.out.symm HN.out.symm
  go_wp2_with fail
  refine (i_hasVertex _ _ _ _ _ n1 n5 f t HF1.out HT1.out).mono ?_; rintro e w2 ⟨rfl, b2⟩
  rw [ha]
  have HB2 := Lib.hid (below_call HB1.out b2 HB1.out.size)
  have P2 := Lib.hid (P1.out.below b2)
  have HF2 := Lib.hid (HF1.out.below b2); have HT2 := Lib.hid (HT1.out.below b2)
  clear b2 p0 p1 p2
  obtain ⟨p0, p1, p2⟩ := blk3 P2.out
  cases hb : inR b 0 ((N : Int) - 1)
  · have HN := Lib.hid (show btwOK N f t a b = false by simp [btwOK, hb])
    have HN2 := Lib.hid (show btwS N f t a b = [] by unfold btwS; rw [HN.out]; rfl)
    go_wp2_with fail
    refine (i_hasVertex _ _ _ _ _ n1 n5 f t HF2.out HT2.out).mono ?_; rintro e w3 ⟨rfl, b3⟩
    rw [hb]
    have HBw := Lib.hid (below_call HB2.out b3 HB2.out.size)
    clear b3
    go_wp2
    go_ret2
    exact PtsOK.of_eq ⟨_, rfl, OwnP.nil _ _, HBw.out⟩ HN2.out.symm HN.out.symm
  have HN := Lib.hid (show btwOK N f t a b = true by simp only [btwOK, HOK.out, ha, hb]; rfl)
  have HN2 := Lib.hid (show btwS N f t a b = btwF N f t b (pP f t 6 a) by unfold btwS; rw [HN.out]; rfl)
  go_wp2_with fail
  refine (i_hasVertex _ _ _ _ _ n1 n5 f t HF2.out HT2.out).mono ?_; rintro e w3 ⟨rfl, b3⟩
  rw [hb]
  have HB3 := Lib.hid (below_call HB2.out b3 HB2.out.size)
  have P3 := Lib.hid (P2.out.below b3)
  have HF3 := Lib.hid (HF2.out.below b3); have HT3 := Lib.hid (HT2.out.below b3)
  clear b3 p0 p1 p2
  obtain ⟨p0, p1, p2⟩ := blk3 P3.out
  go_wp2_with fail
  refine (i_pathsBetween N _ _ f t a b _ HGO.out.1 HGO.out.2 ha HF3.out HT3.out).mono ?_; rintro e w4 ⟨v4, rfl, ho4, b4⟩
  have HB4 := Lib.hid (below_call HB3.out b4 HB3.out.size)
  have HO4 := Lib.hid (ho4.mono (B' := w.heap.size) HB3.out.size)
  obtain ⟨a5, c5, rfl, _, _⟩ := ho4.shape
  clear ho4 b4
  go_wp2
  go_ret2
  exact PtsOK.of_eq ⟨_, rfl, HO4.out, HB4.out⟩ HN2.out.symm HN.out.symm

set_option maxRecDepth 100000 in
set_option maxHeartbeats 2000000 in
theorem i_CountPaths (n : Int) (vf vt : Value) (f t : List Int) (a b : Int) (w : World) (hf : Ints w vf f) (ht : Ints w vt t) :
    Calls Tryd.prog 16 #[.agg #[.int .i64 n, vf, vt], .int .i64 a, .int .i64 b] w (IntAnsC (cntR n f t a b) w) := by
  obtain ⟨a1, c1, rfl, hl1, hm1⟩ := hf.shape
  obtain ⟨a2, c2, rfl, hl2, hm2⟩ := ht.shape
  have h2 : Below w.heap.size w (w.alloc (.cells #[.int .i64 n, .slice a1 f.length c1, .slice a2 t.length c2] 26)) := (Below.refl _ w).alloc (Nat.le_refl _) _
  have P0 := Lib.hid (Blk.new w #[.int .i64 n, .slice a1 f.length c1, .slice a2 t.length c2] 26)
  have HF := Lib.hid (hf.below h2); have HT := Lib.hid (ht.below h2)
  have H2 := Lib.hid h2
  clear hf ht h2
  go_enter Tryd.func16, Tryd.ntmps16
  obtain ⟨p0, p1, p2⟩ := blk3 P0.out
  go_wp2_with fail
  refine (i_PathsBetween _ _ _ f t _ _ _ HF.out HT.out).mono ?_; rintro e w1 ⟨vv, rfl, ho, b1⟩
  obtain ⟨aL, cL, rfl, _, _⟩ := ho.shape
  have HB := Lib.hid (below_call H2.out b1 H2.out.size)
  clear ho b1 p0 p1 p2
  cases hq : btwOK n f t a b
  · have HR := Lib.hid (show cntR n f t a b = -1 by simp [cntR, hq])
    go_wp2
    go_ret
    exact ⟨ret_int HR.out.symm, HB.out⟩
  have HR := Lib.hid (show cntR n f t a b = ((btwS n f t a b).length : Int) by simp [cntR, hq])
  go_wp2
  go_ret
  exact ⟨ret_int HR.out.symm, HB.out⟩
end Go.Proofs.YtndooeffjkofdaaDoor
