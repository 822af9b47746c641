/- IsPath and EndOf, of the program and of the reference. -/
import Derived.Test.YtndooeffjkofdaaDoorIsQuiv
namespace Go.Proofs.YtndooeffjkofdaaDoor
open Go.RowKit
set_option linter.unusedVariables false
set_option linter.unusedSimpArgs false

/-- where one stands after k arrows -/
def curP (t : List Int) (s : Int) (ar : List Int) : Nat → Int
  | 0 => s
  | k + 1 => t.getD (ar.getD k 0).toNat 0
/-- the arrow at the place k may follow -/
def okP (f t : List Int) (s : Int) (ar : List Int) (k : Nat) : Bool := inR (ar.getD k 0) 0 (f.length - 1) && (f.getD (ar.getD k 0).toNat 0 == curP t s ar k)
def isP (n : Int) (f t : List Int) (s : Int) (ar : List Int) : Bool := isQ n f t && inR s 0 (n - 1) && decide (ar.length ≤ 20) && (List.range ar.length).all fun k => okP f t s ar k
def endP (n : Int) (f t : List Int) (s : Int) (ar : List Int) : Int := if isP n f t s ar = true then curP t s ar ar.length else -1

theorem isQ_parts {n : Int} {f t : List Int} (h : isQ n f t = true) : (1 ≤ n ∧ n ≤ 5) ∧ f.length = t.length ∧ f.length ≤ 6 := by
  unfold isQ at h
  simp only [Bool.and_eq_true, decide_eq_true_eq] at h
  exact ⟨inR_true h.1.1.1.1, h.1.1.1.2, h.1.1.2⟩
theorem isP_of {n : Int} {f t : List Int} {s : Int} {ar : List Int} (h1 : isQ n f t = true) (h2 : inR s 0 (n - 1) = true) (h3 : ar.length ≤ 20) (h : ∀ k, k < ar.length → okP f t s ar k = true) : isP n f t s ar = true := by
  unfold isP
  simp only [h1, h2, h3, decide_true, Bool.true_and, List.all_eq_true, List.mem_range]
  exact h
theorem isP_no {n : Int} {f t : List Int} {s : Int} {ar : List Int} {k : Nat} (hk : k < ar.length) (h : okP f t s ar k = false) : isP n f t s ar = false := by
  have : ((List.range ar.length).all fun k => okP f t s ar k) = false := by
    rw [List.all_eq_false]
    exact ⟨k, List.mem_range.2 hk, by simp [h]⟩
  unfold isP
  rw [this]; simp

set_option maxRecDepth 100000 in
set_option maxHeartbeats 400000 in
theorem i_hasVertex (n : Int) (vf vt : Value) (x : Int) (w : World) (h1 : 1 ≤ n) (h5 : n ≤ 5) (lf lt : List Int) (hf : Ints w vf lf) (ht : Ints w vt lt) :
    Calls Tryd.prog 40 #[.agg #[.int .i64 n, vf, vt], .int .i64 x] w (BoolAnsB (inR x 0 (n - 1)) w) := by
  obtain ⟨a1, c1, rfl, hl1, hm1⟩ := hf.shape
  obtain ⟨a2, c2, rfl, hl2, hm2⟩ := ht.shape
  have h2 : Below w.heap.size w (w.alloc (.cells #[.int .i64 n, .slice a1 lf.length c1, .slice a2 lt.length c2] 26)) := (Below.refl _ w).alloc (Nat.le_refl _) _
  have H2 := Lib.hid h2
  clear hf ht h2
  go_enter Tryd.func40, Tryd.ntmps40
  go_wp2_with fail
  refine (i_within _ _ _ _).mono ?_; rintro e wz ⟨rfl, rfl⟩
  go_wp2
  go_ret
  exact ⟨rfl, H2.out⟩

set_option maxRecDepth 100000 in
set_option maxHeartbeats 4000000 in
theorem i_IsPath (n : Int) (vf vt : Value) (s : Int) (va : Value) (lf lt la : List Int) (w : World) (hf : Ints w vf lf) (ht : Ints w vt lt) (ha : Ints w va la) :
    Calls Tryd.prog 17 #[.agg #[.int .i64 n, vf, vt], .agg #[.int .i64 s, va]] w (BoolAnsB (isP n lf lt s la) w) := by
  obtain ⟨a1, c1, rfl, hl1, hm1⟩ := hf.shape
  obtain ⟨a2, c2, rfl, hl2, hm2⟩ := ht.shape
  obtain ⟨a3, c3, rfl, hl3, hm3⟩ := ha.shape
  have h2 : Below w.heap.size w ((w.alloc (.cells #[.int .i64 n, .slice a1 lf.length c1, .slice a2 lt.length c2] 26)).alloc (.cells #[.int .i64 s, .slice a3 la.length c3] 28)) :=
    ((Below.refl _ w).alloc (Nat.le_refl _) _).alloc (by simp) _
  have P0 := Lib.hid ((Blk.new w #[.int .i64 n, .slice a1 lf.length c1, .slice a2 lt.length c2] 26).below ((Below.refl _ _).alloc (Nat.le_refl _) (.cells #[.int .i64 s, .slice a3 la.length c3] 28)))
  have hq0 : Blk ((w.alloc (.cells #[.int .i64 n, .slice a1 lf.length c1, .slice a2 lt.length c2] 26)).alloc (.cells #[.int .i64 s, .slice a3 la.length c3] 28)) (w.heap.size + 1) #[.int .i64 s, .slice a3 la.length c3] 28 := by simpa using Blk.new (w.alloc (.cells #[.int .i64 n, .slice a1 lf.length c1, .slice a2 lt.length c2] 26)) #[.int .i64 s, .slice a3 la.length c3] 28
  have Q0 := Lib.hid hq0
  have HF := Lib.hid (hf.below h2); have HT := Lib.hid (ht.below h2); have HA := Lib.hid (ha.below h2)
  have H2 := Lib.hid h2
  clear hf ht ha h2 hq0
  go_enter Tryd.func17, Tryd.ntmps17
  obtain ⟨p0, p1, p2⟩ := blk3 P0.out
  obtain ⟨p3, p4⟩ := blk2 Q0.out
  go_wp2_with fail
  refine (i_IsQuiver _ _ _ lf lt _ HF.out HT.out).mono ?_; rintro e w1 ⟨rfl, b1⟩
  have HB1 := Lib.hid (below_call H2.out b1 H2.out.size)
  have P1 := Lib.hid (P0.out.below b1); have Q1 := Lib.hid (Q0.out.below b1)
  have HF1 := Lib.hid (HF.out.below b1); have HT1 := Lib.hid (HT.out.below b1); have HA1 := Lib.hid (HA.out.below b1)
  clear p0 p1 p2 p3 p4 b1
  obtain ⟨p0, p1, p2⟩ := blk3 P1.out
  obtain ⟨p3, p4⟩ := blk2 Q1.out
  cases hQ : isQ n lf lt
  · have HR := Lib.hid (show isP n lf lt s la = false by simp [isP, hQ])
    go_wp2
    go_ret
    exact ⟨ret_bool HR.out.symm, HB1.out⟩
  obtain ⟨⟨n1, n5⟩, hlen, h6⟩ := isQ_parts hQ
  have HLEN := Lib.hid hlen
  clear hlen
  go_wp2_with fail
  refine (i_hasVertex n _ _ s _ n1 n5 lf lt HF1.out HT1.out).mono ?_; rintro e w2 ⟨rfl, b2⟩
  have HB2 := Lib.hid (below_call HB1.out b2 HB1.out.size)
  have P2 := Lib.hid (P1.out.below b2); have Q2 := Lib.hid (Q1.out.below b2)
  have hF2 := HF1.out.below b2; have hT2 := HT1.out.below b2; have hA2 := HA1.out.below b2
  clear p0 p1 p2 p3 p4 b2
  obtain ⟨p0, p1, p2⟩ := blk3 P2.out
  obtain ⟨p3, p4⟩ := blk2 Q2.out
  cases hV : inR s 0 (n - 1)
  · have HR := Lib.hid (show isP n lf lt s la = false by simp [isP, hV])
    clear hF2 hT2 hA2
    go_wp2
    go_ret
    exact ⟨ret_bool HR.out.symm, HB2.out⟩
  by_cases h20 : la.length ≤ 20
  rotate_left
  · have HR := Lib.hid (show isP n lf lt s la = false by simp [isP, h20])
    have hd : decide ((20 : Int) < (la.length : Int)) = true := by simp only [decide_eq_true_eq]; omega
    have hd' : decide (20 < la.length) = true := by simp only [decide_eq_true_eq]; omega
    clear hF2 hT2 hA2
    go_wp2
    go_ret
    exact ⟨ret_bool HR.out.symm, HB2.out⟩
  have hd : decide ((20 : Int) < (la.length : Int)) = false := by simp only [decide_eq_false_iff_not]; omega
  have hd' : decide (20 < la.length) = false := by simp only [decide_eq_false_iff_not]; omega
  go_wp2
  go_loop [5, 29] (fun c i => ∃ (k : Nat) (q : Int), k ≤ la.length ∧ i = .int .i64 k ∧ c = .int .i64 q ∧ q = curP lt s la k ∧ ∀ j, j < k → okP lf lt s la j = true) (fun _ i => la.length - (intOf i).toNat)
  case atStart => exact ⟨0, s, Nat.zero_le _, rfl, rfl, rfl, fun j hj => absurd hj (by omega)⟩
  case round =>
    obtain ⟨k, q, hk, rfl, rfl, hq, hall⟩ := hrel
    have HQ := Lib.hid hq; have HALL := Lib.hid hall
    clear hq hall
    by_cases hlt : k < la.length
    · obtain ⟨g, off, rfl, hgs, hc, _⟩ := hA2.cell hlt
      obtain ⟨x, hx⟩ := elem_name la k
      rw [hx] at hc
      have HX := Lib.hid hx; clear hx
      cases hr : inR x 0 (lf.length - 1)
      · have HR := Lib.hid (isP_no (n := n) hlt (show okP lf lt s la k = false by unfold okP; rw [HX.out, hr]; rfl))
        go_wp2_with fail
        refine (i_within _ _ _ _).mono ?_; rintro e wz ⟨rfl, rfl⟩
        go_wp2
        go_ret
        exact ⟨ret_bool HR.out.symm, HB2.out⟩
      · obtain ⟨x0, x1⟩ := inR_true hr
        obtain ⟨X, rfl⟩ := Int.eq_ofNat_of_zero_le x0
        have hXf : X < lf.length := by omega
        have hXt : X < lt.length := by have := HLEN.out; omega
        obtain ⟨gf, of, rfl, hgf, hcf, _⟩ := hF2.cell hXf
        obtain ⟨gt, ot, rfl, hgt, hct, _⟩ := hT2.cell hXt
        obtain ⟨y, hy⟩ := elem_name lf X
        obtain ⟨z, hz⟩ := elem_name lt X
        rw [hy] at hcf
        rw [hz] at hct
        have HY := Lib.hid hy; have HZ := Lib.hid hz; clear hy hz
        have HK := Lib.hid (show okP lf lt s la k = (y == q) by
          unfold okP
          rw [HX.out, hr, Bool.true_and, Int.toNat_natCast, HY.out, HQ.out])
        by_cases hyq : y = q
        · have hb : (y != q) = false := by simpa using hyq
          have HK' := Lib.hid (show okP lf lt s la k = true by rw [HK.out]; simpa using hyq)
          clear hyq
          go_wp2_with fail
          refine (i_within _ _ _ _).mono ?_; rintro e wz ⟨rfl, rfl⟩
          go_wp2
          go_round
          case rel => exact ⟨k + 1, z, by omega, by go_num, rfl, by simp only [curP]; rw [HX.out, Int.toNat_natCast, HZ.out], fun j hj => by
            by_cases h : j = k
            · rw [h]; exact HK'.out
            · exact HALL.out j (by omega)⟩
          case measure => simp [intOf]; omega
        · have hb : (y != q) = true := by simpa using hyq
          have HR := Lib.hid (isP_no (n := n) hlt (show okP lf lt s la k = false by rw [HK.out]; simpa using hyq))
          clear hyq
          go_wp2_with fail
          refine (i_within _ _ _ _).mono ?_; rintro e wz ⟨rfl, rfl⟩
          go_wp2
          go_ret
          exact ⟨ret_bool HR.out.symm, HB2.out⟩
    · have HR := Lib.hid (isP_of hQ hV h20 (fun j hj => HALL.out j (by omega)))
      go_wp2
      go_ret
      exact ⟨ret_bool HR.out.symm, HB2.out⟩

set_option maxRecDepth 100000 in
set_option maxHeartbeats 4000000 in
theorem s_IsPath (n : Int) (vf vt : Value) (s : Int) (va : Value) (lf lt la : List Int) (w : World) (hf : Ints w vf lf) (ht : Ints w vt lt) (ha : Ints w va la) :
    Calls Tryd.prog 23 #[.agg #[.int .i64 n, vf, vt], .agg #[.int .i64 s, va]] w (BoolAnsB (isP n lf lt s la) w) := by
  obtain ⟨a1, c1, rfl, hl1, hm1⟩ := hf.shape
  obtain ⟨a2, c2, rfl, hl2, hm2⟩ := ht.shape
  obtain ⟨a3, c3, rfl, hl3, hm3⟩ := ha.shape
  have h2 : Below w.heap.size w ((w.alloc (.cells #[.int .i64 n, .slice a1 lf.length c1, .slice a2 lt.length c2] 26)).alloc (.cells #[.int .i64 s, .slice a3 la.length c3] 28)) :=
    ((Below.refl _ w).alloc (Nat.le_refl _) _).alloc (by simp) _
  have P0 := Lib.hid ((Blk.new w #[.int .i64 n, .slice a1 lf.length c1, .slice a2 lt.length c2] 26).below ((Below.refl _ _).alloc (Nat.le_refl _) (.cells #[.int .i64 s, .slice a3 la.length c3] 28)))
  have hq0 : Blk ((w.alloc (.cells #[.int .i64 n, .slice a1 lf.length c1, .slice a2 lt.length c2] 26)).alloc (.cells #[.int .i64 s, .slice a3 la.length c3] 28)) (w.heap.size + 1) #[.int .i64 s, .slice a3 la.length c3] 28 := by simpa using Blk.new (w.alloc (.cells #[.int .i64 n, .slice a1 lf.length c1, .slice a2 lt.length c2] 26)) #[.int .i64 s, .slice a3 la.length c3] 28
  have Q0 := Lib.hid hq0
  have HF := Lib.hid (hf.below h2); have HT := Lib.hid (ht.below h2); have HA := Lib.hid (ha.below h2)
  have H2 := Lib.hid h2
  clear hf ht ha h2 hq0
  go_enter Tryd.func23, Tryd.ntmps23
  obtain ⟨p0, p1, p2⟩ := blk3 P0.out
  obtain ⟨p3, p4⟩ := blk2 Q0.out
  go_wp2_with fail
  refine (s_IsQuiver _ _ _ lf lt _ HF.out HT.out).mono ?_; rintro e w1 ⟨rfl, b1⟩
  have HB1 := Lib.hid (below_call H2.out b1 H2.out.size)
  have P1 := Lib.hid (P0.out.below b1); have Q1 := Lib.hid (Q0.out.below b1)
  have hF1 := HF.out.below b1; have hT1 := HT.out.below b1; have hA1 := HA.out.below b1
  clear p0 p1 p2 p3 p4 b1
  obtain ⟨p0, p1, p2⟩ := blk3 P1.out
  obtain ⟨p3, p4⟩ := blk2 Q1.out
  cases hQ : isQ n lf lt
  · have HR := Lib.hid (show isP n lf lt s la = false by simp [isP, hQ])
    clear hF1 hT1 hA1
    go_wp2
    go_ret
    exact ⟨ret_bool HR.out.symm, HB1.out⟩
  obtain ⟨⟨n1, n5⟩, hlen, h6⟩ := isQ_parts hQ
  have HLEN := Lib.hid hlen
  clear hlen
  cases hV : inR s 0 (n - 1)
  · have HR := Lib.hid (show isP n lf lt s la = false by simp [isP, hV])
    clear hF1 hT1 hA1
    go_wp2_with fail
    refine (s_l1In _ _ _ _).mono ?_; rintro e wz ⟨rfl, rfl⟩
    go_wp2
    go_ret
    exact ⟨ret_bool HR.out.symm, HB1.out⟩
  by_cases h20 : la.length ≤ 20
  rotate_left
  · have HR := Lib.hid (show isP n lf lt s la = false by simp [isP, h20])
    have hd : decide ((20 : Int) < (la.length : Int)) = true := by simp only [decide_eq_true_eq]; omega
    have hd' : decide (20 < la.length) = true := by simp only [decide_eq_true_eq]; omega
    clear hF1 hT1 hA1
    go_wp2_with fail
    refine (s_l1In _ _ _ _).mono ?_; rintro e wz ⟨rfl, rfl⟩
    go_wp2
    go_ret
    exact ⟨ret_bool HR.out.symm, HB1.out⟩
  have hd : decide ((20 : Int) < (la.length : Int)) = false := by simp only [decide_eq_false_iff_not]; omega
  have hd' : decide (20 < la.length) = false := by simp only [decide_eq_false_iff_not]; omega
  go_wp2_with fail
  refine (s_l1In _ _ _ _).mono ?_; rintro e wz ⟨rfl, rfl⟩
  rw [hV]
  go_wp2
  clear p0 p1 p2 p3 p4
  have HW := Lib.hid (show IntKind.i64.wrap ((lf.length : Int) - 1) = (lf.length : Int) - 1 from IntWalk.i64_in _ (by omega))
  go_loopw [5, 6] (fun c i wr => ∃ (k : Nat) (q : Int), k ≤ la.length ∧ i = .int .i64 k ∧ c = .int .i64 q ∧ q = curP lt s la k ∧ (∀ j, j < k → okP lf lt s la j = true) ∧ Below w1.heap.size w1 wr) (fun _ i _ => la.length - (intOf i).toNat)
  case atStart => exact ⟨0, s, Nat.zero_le _, rfl, rfl, rfl, fun j hj => absurd hj (by omega), Below.refl _ _⟩
  case round =>
    obtain ⟨k, q, hk, rfl, rfl, hq, hall, hbel⟩ := hrel
    have HQ := Lib.hid hq; have HALL := Lib.hid hall; have HBel := Lib.hid (below_call HB1.out hbel HB1.out.size); have HB := Lib.hid hbel
    clear hq hall
    obtain ⟨p0, p1, p2⟩ := blk3 (P1.out.below hbel)
    obtain ⟨p3, p4⟩ := blk2 (Q1.out.below hbel)
    have hF2 := hF1.below hbel; have hT2 := hT1.below hbel; have hA2 := hA1.below hbel
    by_cases hlt : k < la.length
    · obtain ⟨g, off, rfl, hgs, hc, _⟩ := hA2.cell hlt
      obtain ⟨x, hx⟩ := elem_name la k
      rw [hx] at hc
      have HX := Lib.hid hx; clear hx hbel
      have hk0 : (0 : Int) ≤ (k : Int) := by omega
      have hk1 : (k : Int) < (la.length : Int) := by omega
      cases hr : inR x 0 (lf.length - 1)
      · have HR := Lib.hid (isP_no (n := n) hlt (show okP lf lt s la k = false by unfold okP; rw [HX.out, hr]; rfl))
        have hw := HW.out
        clear hF2 hT2 hA2 hF1 hT1 hA1
        go_wp2
        go_quiet ((go_at_call 45; exact Calls.quiet_of_same ((s_l1In _ _ _ _).mono fun _ _ h => ⟨h.1, h.2.symm⟩)))
        clear hw
        go_wp2
        go_ret
        exact ⟨ret_bool HR.out.symm, below_drewN HBel.out _⟩
      · obtain ⟨x0, x1⟩ := inR_true hr
        obtain ⟨X, rfl⟩ := Int.eq_ofNat_of_zero_le x0
        have hXf : X < lf.length := by omega
        have hXt : X < lt.length := by have := HLEN.out; omega
        obtain ⟨gf, of, rfl, hgf, hcf, _⟩ := hF2.cell hXf
        obtain ⟨gt, ot, rfl, hgt, hct, _⟩ := hT2.cell hXt
        obtain ⟨y, hy⟩ := elem_name lf X
        obtain ⟨z, hz⟩ := elem_name lt X
        rw [hy] at hcf
        rw [hz] at hct
        have HY := Lib.hid hy; have HZ := Lib.hid hz; clear hy hz
        have HK := Lib.hid (show okP lf lt s la k = (y == q) by
          unfold okP
          rw [HX.out, hr, Bool.true_and, Int.toNat_natCast, HY.out, HQ.out])
        have hX0 : (0 : Int) ≤ (X : Int) := by omega
        have hX1 : (X : Int) < (lf.length : Int) := by omega
        have hX2 : (X : Int) < (lt.length : Int) := by omega
        by_cases hyq : y = q
        · have hb : (y != q) = false := by simpa using hyq
          have HK' := Lib.hid (show okP lf lt s la k = true by rw [HK.out]; simpa using hyq)
          clear hyq
          have hw := HW.out
          clear hF2 hT2 hA2 hF1 hT1 hA1
          go_wp2
          go_quiet ((go_at_call 45; exact Calls.quiet_of_same ((s_l1In _ _ _ _).mono fun _ _ h => ⟨h.1, h.2.symm⟩)))
          go_wp2
          go_quiet (fail)
          clear hw
          go_wp2
          go_roundw
          case rel => exact ⟨k + 1, z, by omega, by go_num, rfl, by simp only [curP]; rw [HX.out, Int.toNat_natCast, HZ.out], fun j hj => by
            by_cases h : j = k
            · rw [h]; exact HK'.out
            · exact HALL.out j (by omega), below_drewN HB.out _⟩
          case measure => simp [intOf]; omega
        · have hb : (y != q) = true := by simpa using hyq
          have HR := Lib.hid (isP_no (n := n) hlt (show okP lf lt s la k = false by rw [HK.out]; simpa using hyq))
          clear hyq
          have hw := HW.out
          clear hF2 hT2 hA2 hF1 hT1 hA1
          go_wp2
          go_quiet ((go_at_call 45; exact Calls.quiet_of_same ((s_l1In _ _ _ _).mono fun _ _ h => ⟨h.1, h.2.symm⟩)))
          clear hw
          go_wp2
          go_ret
          exact ⟨ret_bool HR.out.symm, below_drewN HBel.out _⟩
    · have HR := Lib.hid (isP_of hQ hV h20 (fun j hj => HALL.out j (by omega)))
      go_wp2
      go_ret
      exact ⟨ret_bool HR.out.symm, HBel.out⟩

theorem isP_parts {n : Int} {f t : List Int} {s : Int} {ar : List Int} (h : isP n f t s ar = true) : isQ n f t = true ∧ ar.length ≤ 20 ∧ ∀ k, k < ar.length → okP f t s ar k = true := by
  unfold isP at h
  simp only [Bool.and_eq_true, decide_eq_true_eq, List.all_eq_true, List.mem_range] at h
  exact ⟨h.1.1.1, h.1.2, h.2⟩
theorem isP_20 {n : Int} {f t : List Int} {s : Int} {ar : List Int} (h : isP n f t s ar = true) : ar.length ≤ 20 := (isP_parts h).2.1
theorem isP_last {n : Int} {f t : List Int} {s : Int} {ar : List Int} (h : isP n f t s ar = true) {m : Nat} (hm : ar.length = m + 1) : f.length = t.length ∧ 0 ≤ ar.getD m 0 ∧ ar.getD m 0 ≤ f.length - 1 := by
  obtain ⟨h1, _, h2⟩ := isP_parts h
  have h3 := h2 m (by omega)
  unfold okP at h3
  simp only [Bool.and_eq_true] at h3
  exact ⟨(isQ_parts h1).2.1, inR_true h3.1⟩
theorem endP_no {n : Int} {f t : List Int} {s : Int} {ar : List Int} (h : isP n f t s ar = false) : endP n f t s ar = -1 := by simp [endP, h]
theorem endP_ok {n : Int} {f t : List Int} {s : Int} {ar : List Int} (h : isP n f t s ar = true) : endP n f t s ar = curP t s ar ar.length := by simp [endP, h]

set_option maxRecDepth 100000 in
set_option maxHeartbeats 1000000 in
theorem i_end (n : Int) (vf vt : Value) (s : Int) (va : Value) (lf lt la : List Int) (w : World) (hf : Ints w vf lf) (ht : Ints w vt lt) (ha : Ints w va la) (hP : isP n lf lt s la = true) :
    Calls Tryd.prog 34 #[.agg #[.int .i64 n, vf, vt], .agg #[.int .i64 s, va]] w (IntAnsC (curP lt s la la.length) w) := by
  obtain ⟨a1, c1, rfl, hl1, hm1⟩ := hf.shape
  obtain ⟨a2, c2, rfl, hl2, hm2⟩ := ht.shape
  obtain ⟨a3, c3, rfl, hl3, hm3⟩ := ha.shape
  have h2 : Below w.heap.size w ((w.alloc (.cells #[.int .i64 n, .slice a1 lf.length c1, .slice a2 lt.length c2] 26)).alloc (.cells #[.int .i64 s, .slice a3 la.length c3] 28)) :=
    ((Below.refl _ w).alloc (Nat.le_refl _) _).alloc (by simp) _
  have P0 := Lib.hid ((Blk.new w #[.int .i64 n, .slice a1 lf.length c1, .slice a2 lt.length c2] 26).below ((Below.refl _ _).alloc (Nat.le_refl _) (.cells #[.int .i64 s, .slice a3 la.length c3] 28)))
  have hq0 : Blk ((w.alloc (.cells #[.int .i64 n, .slice a1 lf.length c1, .slice a2 lt.length c2] 26)).alloc (.cells #[.int .i64 s, .slice a3 la.length c3] 28)) (w.heap.size + 1) #[.int .i64 s, .slice a3 la.length c3] 28 := by simpa using Blk.new (w.alloc (.cells #[.int .i64 n, .slice a1 lf.length c1, .slice a2 lt.length c2] 26)) #[.int .i64 s, .slice a3 la.length c3] 28
  have Q0 := Lib.hid hq0
  have HF := Lib.hid (hf.below h2); have HT := Lib.hid (ht.below h2); have HA := Lib.hid (ha.below h2)
  have H2 := Lib.hid h2
  clear hf ht ha h2 hq0
  go_enter Tryd.func34, Tryd.ntmps34
  obtain ⟨p0, p1, p2⟩ := blk3 P0.out
  obtain ⟨p3, p4⟩ := blk2 Q0.out
  have hF1 := HF.out; have hT1 := HT.out; have hA1 := HA.out
  by_cases h0 : la.length = 0
  · have HR := Lib.hid (show curP lt s la la.length = s by rw [h0]; rfl)
    have hne : ((la.length : Int) == 0) = true := by simp only [beq_iff_eq]; omega
    clear hF1 hT1 hA1 hP h0
    go_wp2
    go_ret
    exact ⟨ret_int HR.out.symm, H2.out⟩
  obtain ⟨m, hm⟩ : ∃ m, la.length = m + 1 := ⟨la.length - 1, by omega⟩
  have HMM := Lib.hid hm
  obtain ⟨hlen, x0, x1⟩ := isP_last hP hm
  have hmlt : m < la.length := by omega
  obtain ⟨g, off, rfl, hgs, hc, _⟩ := hA1.cell hmlt
  obtain ⟨x, hx⟩ := elem_name la m
  rw [hx] at hc x0 x1
  obtain ⟨X, rfl⟩ := Int.eq_ofNat_of_zero_le x0
  have hXt : X < lt.length := by omega
  obtain ⟨gt, ot, rfl, hgt, hct, _⟩ := hT1.cell hXt
  obtain ⟨z, hz⟩ := elem_name lt X
  rw [hz] at hct
  have HR := Lib.hid (show curP lt s la la.length = z by rw [HMM.out]; simp only [curP]; rw [hx, Int.toNat_natCast, hz])
  clear hx hz
  have hX0 : (0 : Int) ≤ (X : Int) := by omega
  have hX1 : (X : Int) < (lt.length : Int) := by omega
  have hm0 : (0 : Int) ≤ (m : Int) := by omega
  have hm1 : (m : Int) < (la.length : Int) := by omega
  have hle : la.length ≤ 20 := isP_20 hP
  have hw : IntKind.i64.wrap ((la.length : Int) - 1) = (m : Int) := by rw [IntWalk.i64_in _ (by omega)]; omega
  have hne : ((la.length : Int) == 0) = false := by simp only [beq_eq_false_iff_ne]; omega
  clear hF1 hT1 hA1 hm hP hlen x0 x1
  go_wp2
  go_quiet (fail)
  clear hw
  go_wp2
  go_ret
  exact ⟨ret_int HR.out.symm, below_drewN H2.out _⟩

set_option maxRecDepth 100000 in
set_option maxHeartbeats 1000000 in
theorem i_EndOf (n : Int) (vf vt : Value) (s : Int) (va : Value) (lf lt la : List Int) (w : World) (hf : Ints w vf lf) (ht : Ints w vt lt) (ha : Ints w va la) :
    Calls Tryd.prog 9 #[.agg #[.int .i64 n, vf, vt], .agg #[.int .i64 s, va]] w (IntAnsC (endP n lf lt s la) w) := by
  obtain ⟨a1, c1, rfl, hl1, hm1⟩ := hf.shape
  obtain ⟨a2, c2, rfl, hl2, hm2⟩ := ht.shape
  obtain ⟨a3, c3, rfl, hl3, hm3⟩ := ha.shape
  have h2 : Below w.heap.size w ((w.alloc (.cells #[.int .i64 n, .slice a1 lf.length c1, .slice a2 lt.length c2] 26)).alloc (.cells #[.int .i64 s, .slice a3 la.length c3] 28)) :=
    ((Below.refl _ w).alloc (Nat.le_refl _) _).alloc (by simp) _
  have P0 := Lib.hid ((Blk.new w #[.int .i64 n, .slice a1 lf.length c1, .slice a2 lt.length c2] 26).below ((Below.refl _ _).alloc (Nat.le_refl _) (.cells #[.int .i64 s, .slice a3 la.length c3] 28)))
  have hq0 : Blk ((w.alloc (.cells #[.int .i64 n, .slice a1 lf.length c1, .slice a2 lt.length c2] 26)).alloc (.cells #[.int .i64 s, .slice a3 la.length c3] 28)) (w.heap.size + 1) #[.int .i64 s, .slice a3 la.length c3] 28 := by simpa using Blk.new (w.alloc (.cells #[.int .i64 n, .slice a1 lf.length c1, .slice a2 lt.length c2] 26)) #[.int .i64 s, .slice a3 la.length c3] 28
  have Q0 := Lib.hid hq0
  have HF := Lib.hid (hf.below h2); have HT := Lib.hid (ht.below h2); have HA := Lib.hid (ha.below h2)
  have H2 := Lib.hid h2
  clear hf ht ha h2 hq0
  go_enter Tryd.func9, Tryd.ntmps9
  obtain ⟨p0, p1, p2⟩ := blk3 P0.out
  obtain ⟨p3, p4⟩ := blk2 Q0.out
  go_wp2_with fail
  refine (i_IsPath _ _ _ _ _ lf lt la _ HF.out HT.out HA.out).mono ?_; rintro e w1 ⟨rfl, b1⟩
  have HB1 := Lib.hid (below_call H2.out b1 H2.out.size)
  have P1 := Lib.hid (P0.out.below b1); have Q1 := Lib.hid (Q0.out.below b1)
  have HF1 := Lib.hid (HF.out.below b1); have HT1 := Lib.hid (HT.out.below b1); have HA1 := Lib.hid (HA.out.below b1)
  clear p0 p1 p2 p3 p4 b1
  obtain ⟨p0, p1, p2⟩ := blk3 P1.out
  obtain ⟨p3, p4⟩ := blk2 Q1.out
  cases hP : isP n lf lt s la
  · have HR := Lib.hid (endP_no hP)
    go_wp2
    go_ret
    exact ⟨ret_int HR.out.symm, HB1.out⟩
  · have HR := Lib.hid (endP_ok hP)
    go_wp2_with fail
    refine (i_end _ _ _ _ _ lf lt la _ HF1.out HT1.out HA1.out hP).mono ?_; rintro e w2 ⟨rfl, b2⟩
    have HB2 := Lib.hid (below_call HB1.out b2 HB1.out.size)
    go_wp2
    go_ret
    exact ⟨ret_int HR.out.symm, HB2.out⟩

set_option maxRecDepth 100000 in
set_option maxHeartbeats 1000000 in
theorem s_EndOf (n : Int) (vf vt : Value) (s : Int) (va : Value) (lf lt la : List Int) (w : World) (hf : Ints w vf lf) (ht : Ints w vt lt) (ha : Ints w va la) :
    Calls Tryd.prog 10 #[.agg #[.int .i64 n, vf, vt], .agg #[.int .i64 s, va]] w (IntAnsC (endP n lf lt s la) w) := by
  obtain ⟨a1, c1, rfl, hl1, hm1⟩ := hf.shape
  obtain ⟨a2, c2, rfl, hl2, hm2⟩ := ht.shape
  obtain ⟨a3, c3, rfl, hl3, hm3⟩ := ha.shape
  have h2 : Below w.heap.size w ((w.alloc (.cells #[.int .i64 n, .slice a1 lf.length c1, .slice a2 lt.length c2] 26)).alloc (.cells #[.int .i64 s, .slice a3 la.length c3] 28)) :=
    ((Below.refl _ w).alloc (Nat.le_refl _) _).alloc (by simp) _
  have P0 := Lib.hid ((Blk.new w #[.int .i64 n, .slice a1 lf.length c1, .slice a2 lt.length c2] 26).below ((Below.refl _ _).alloc (Nat.le_refl _) (.cells #[.int .i64 s, .slice a3 la.length c3] 28)))
  have hq0 : Blk ((w.alloc (.cells #[.int .i64 n, .slice a1 lf.length c1, .slice a2 lt.length c2] 26)).alloc (.cells #[.int .i64 s, .slice a3 la.length c3] 28)) (w.heap.size + 1) #[.int .i64 s, .slice a3 la.length c3] 28 := by simpa using Blk.new (w.alloc (.cells #[.int .i64 n, .slice a1 lf.length c1, .slice a2 lt.length c2] 26)) #[.int .i64 s, .slice a3 la.length c3] 28
  have Q0 := Lib.hid hq0
  have HF := Lib.hid (hf.below h2); have HT := Lib.hid (ht.below h2); have HA := Lib.hid (ha.below h2)
  have H2 := Lib.hid h2
  clear hf ht ha h2 hq0
  go_enter Tryd.func10, Tryd.ntmps10
  obtain ⟨p0, p1, p2⟩ := blk3 P0.out
  obtain ⟨p3, p4⟩ := blk2 Q0.out
  go_wp2_with fail
  refine (s_IsPath _ _ _ _ _ lf lt la _ HF.out HT.out HA.out).mono ?_; rintro e w1 ⟨rfl, b1⟩
  have HB1 := Lib.hid (below_call H2.out b1 H2.out.size)
  have P1 := Lib.hid (P0.out.below b1); have Q1 := Lib.hid (Q0.out.below b1)
  have hF1 := HF.out.below b1; have hT1 := HT.out.below b1; have hA1 := HA.out.below b1
  clear p0 p1 p2 p3 p4 b1
  obtain ⟨p0, p1, p2⟩ := blk3 P1.out
  obtain ⟨p3, p4⟩ := blk2 Q1.out
  cases hP : isP n lf lt s la
  · have HR := Lib.hid (endP_no hP)
    clear hF1 hT1 hA1
    go_wp2
    go_ret
    exact ⟨ret_int HR.out.symm, HB1.out⟩
  have HE := Lib.hid (endP_ok hP)
  by_cases h0 : la.length = 0
  · have HR := Lib.hid (show curP lt s la la.length = s by rw [h0]; rfl)
    have hne : ((la.length : Int) == 0) = true := by simp only [beq_iff_eq]; omega
    clear hF1 hT1 hA1 hP h0
    go_wp2
    go_ret
    exact ⟨ret_int (by rw [HE.out, HR.out]), HB1.out⟩
  obtain ⟨m, hm⟩ : ∃ m, la.length = m + 1 := ⟨la.length - 1, by omega⟩
  have HMM := Lib.hid hm
  obtain ⟨hlen, x0, x1⟩ := isP_last hP hm
  have hmlt : m < la.length := by omega
  obtain ⟨g, off, rfl, hgs, hc, _⟩ := hA1.cell hmlt
  obtain ⟨x, hx⟩ := elem_name la m
  rw [hx] at hc x0 x1
  obtain ⟨X, rfl⟩ := Int.eq_ofNat_of_zero_le x0
  have hXt : X < lt.length := by omega
  obtain ⟨gt, ot, rfl, hgt, hct, _⟩ := hT1.cell hXt
  obtain ⟨z, hz⟩ := elem_name lt X
  rw [hz] at hct
  have HR := Lib.hid (show curP lt s la la.length = z by rw [HMM.out]; simp only [curP]; rw [hx, Int.toNat_natCast, hz])
  clear hx hz
  have hX0 : (0 : Int) ≤ (X : Int) := by omega
  have hX1 : (X : Int) < (lt.length : Int) := by omega
  have hm0 : (0 : Int) ≤ (m : Int) := by omega
  have hm1 : (m : Int) < (la.length : Int) := by omega
  have hle : la.length ≤ 20 := isP_20 hP
  have hw : IntKind.i64.wrap ((la.length : Int) - 1) = (m : Int) := by rw [IntWalk.i64_in _ (by omega)]; omega
  have hne : ((la.length : Int) == 0) = false := by simp only [beq_eq_false_iff_ne]; omega
  clear hF1 hT1 hA1 hm hP hlen x0 x1
  go_wp2
  go_quiet (fail)
  clear hw
  go_wp2
  go_ret
  exact ⟨ret_int (by rw [HE.out, HR.out]), below_drewN HB1.out _⟩

end Go.Proofs.YtndooeffjkofdaaDoor
