/- FnFields: the reference's draws of inputs for the laws. -/
import Derived.Test.YtogilgennpmdhaaFlD
import Derived.Test.YtogilgennpmdhaaAux
namespace Go.Proofs.Ytogilgennpmdhaa
open Go.RowKit
set_option linter.unusedVariables false
set_option linter.unusedSimpArgs false

theorem new_chg {w w1 w2 : World} {c : Nat} (hc : w.heap.size ≤ c) (b : Below w.heap.size w w1) (g : CChg c w1 w2) : Below w.heap.size w w2 := b.trans (g.below b.size hc)
def DrII (w : World) (e : Ending) (w' : World) : Prop := ∃ p x, AnyI p ∧ AnyI x ∧ e = .returned (.tuple #[.int .i64 p, .int .i64 x]) ∧ Below w.heap.size w w'
def DrIII (w : World) (e : Ending) (w' : World) : Prop := ∃ p x y, AnyI p ∧ AnyI x ∧ AnyI y ∧ e = .returned (.tuple #[.int .i64 p, .int .i64 x, .int .i64 y]) ∧ Below w.heap.size w w'
def DrIV (w : World) (e : Ending) (w' : World) : Prop := ∃ p v l, Ints w' v l ∧ FreshV w.heap.size v ∧ e = .returned (.tuple #[.int .i64 p, v]) ∧ Below w.heap.size w w'
def DrIIV (w : World) (e : Ending) (w' : World) : Prop := ∃ p k v l, Ints w' v l ∧ FreshV w.heap.size v ∧ e = .returned (.tuple #[.int .i64 p, .int .i64 k, v]) ∧ Below w.heap.size w w'
def DrIVV (w : World) (e : Ending) (w' : World) : Prop := ∃ p v l v2 l2, Ints w' v l ∧ FreshV w.heap.size v ∧ Ints w' v2 l2 ∧ FreshV w.heap.size v2 ∧ e = .returned (.tuple #[.int .i64 p, v, v2]) ∧ Below w.heap.size w w'
theorem s_l2VectorI (c : Nat) (r : Int) (p : Int) (w : World) (hcur : Cur w c) (h0 : 0 ≤ r) (h1 : r ≤ 100) :
    Calls Try.prog 41 #[.pointer (some ⟨c, 0, none⟩), .int .i64 p, .int .i64 r] w (DrawnV c w) := by
  obtain ⟨k, rfl⟩ := Int.eq_ofNat_of_zero_le h0
  exact s_l2Vector c k p (by omega) w hcur
set_option maxRecDepth 100000 in
set_option maxHeartbeats 1000000 in
theorem s_DrawInverseMod (v : Value) (n : Nat) (w : World) (hv : Byt w v n w.heap.size) (hn : n ≤ 1048576) :
    Calls Try.prog 5 #[v] w (DrII w) := by
  go_enter Try.func5, Try.ntmps5
  go_wp2_with fail
  refine (s_l1New v n _ hv hn).mono ?_; rintro e w0 ⟨c, rfl, hcw, hc0, b0⟩
  have H0 := Lib.hid (And.intro hc0 b0)
  clear hc0 b0 hv
  go_wp2_with fail
  refine (s_l2Prime c _ H0.out.1).mono ?_; rintro e w1 ⟨p, hx, rfl, hc, g⟩
  have X_p := Lib.hid hx
  have H1 := Lib.hid (And.intro hc (new_chg hcw H0.out.2 g))
  clear hx hc g
  go_wp2_with fail
  refine (s_l2Number c _ H1.out.1).mono ?_; rintro e w2 ⟨x, hx, rfl, hc, g⟩
  have X_x := Lib.hid hx
  have H2 := Lib.hid (And.intro hc (new_chg hcw H1.out.2 g))
  clear hx hc g
  go_wp2
  go_ret2
  exact ⟨p, x, X_p.out, X_x.out, rfl, H2.out.2⟩
set_option maxRecDepth 100000 in
set_option maxHeartbeats 1000000 in
theorem s_DrawVectorOf (v : Value) (n : Nat) (w : World) (hv : Byt w v n w.heap.size) (hn : n ≤ 1048576) :
    Calls Try.prog 11 #[v] w (DrIII w) := by
  go_enter Try.func11, Try.ntmps11
  go_wp2_with fail
  refine (s_l1New v n _ hv hn).mono ?_; rintro e w0 ⟨c, rfl, hcw, hc0, b0⟩
  have H0 := Lib.hid (And.intro hc0 b0)
  clear hc0 b0 hv
  go_wp2_with fail
  refine (s_l2Prime c _ H0.out.1).mono ?_; rintro e w1 ⟨p, hx, rfl, hc, g⟩
  have X_p := Lib.hid hx
  have H1 := Lib.hid (And.intro hc (new_chg hcw H0.out.2 g))
  clear hx hc g
  go_wp2_with fail
  refine (s_l1Below c _ _ H1.out.1).mono ?_; rintro e w2 ⟨q, hx, rfl, hc, g⟩
  obtain ⟨q0, q1⟩ : 0 ≤ q ∧ q < 10 := by rcases hx with h | h <;> omega
  have H2 := Lib.hid (And.intro hc (new_chg hcw H1.out.2 g))
  clear hx hc g
  have hcon := pick_lit c [-1, 0, 1, 7, 30, 255, 9223372036854775807] (by decide) (by decide) w2 H2.out.1
  go_wp2_with fail
  refine hcon.mono ?_; rintro e w3 ⟨y, hx, rfl, hc, g⟩
  have X_y := Lib.hid (lit_bd (L := [-1, 0, 1, 7, 30, 255, 9223372036854775807]) (by decide) y hx)
  have H3 := Lib.hid (And.intro hc (new_chg hcw H2.out.2 g))
  clear hx hcon hc g
  go_wp2
  go_ret3
  exact ⟨p, q - 1, y, X_p.out, ⟨by omega, by omega⟩, X_y.out, rfl, H3.out.2⟩
set_option maxRecDepth 100000 in
set_option maxHeartbeats 1000000 in
theorem s_DrawPowerMod (v : Value) (n : Nat) (w : World) (hv : Byt w v n w.heap.size) (hn : n ≤ 1048576) :
    Calls Try.prog 22 #[v] w (DrIII w) := by
  go_enter Try.func22, Try.ntmps22
  go_wp2_with fail
  refine (s_l1New v n _ hv hn).mono ?_; rintro e w0 ⟨c, rfl, hcw, hc0, b0⟩
  have H0 := Lib.hid (And.intro hc0 b0)
  clear hc0 b0 hv
  go_wp2_with fail
  refine (s_l2Prime c _ H0.out.1).mono ?_; rintro e w1 ⟨p, hx, rfl, hc, g⟩
  have X_p := Lib.hid hx
  have H1 := Lib.hid (And.intro hc (new_chg hcw H0.out.2 g))
  clear hx hc g
  go_wp2_with fail
  refine (s_l2Number c _ H1.out.1).mono ?_; rintro e w2 ⟨x, hx, rfl, hc, g⟩
  have X_x := Lib.hid hx
  have H2 := Lib.hid (And.intro hc (new_chg hcw H1.out.2 g))
  clear hx hc g
  have hcon := pick_lit c [-1, 0, 1, 4, 1000, 1001] (by decide) (by decide) w2 H2.out.1
  go_wp2_with fail
  refine hcon.mono ?_; rintro e w3 ⟨y, hx, rfl, hc, g⟩
  have X_y := Lib.hid (lit_bd (L := [-1, 0, 1, 4, 1000, 1001]) (by decide) y hx)
  have H3 := Lib.hid (And.intro hc (new_chg hcw H2.out.2 g))
  clear hx hcon hc g
  go_wp2
  go_ret3
  exact ⟨p, x, y, X_p.out, X_x.out, X_y.out, rfl, H3.out.2⟩
set_option maxRecDepth 100000 in
set_option maxHeartbeats 1000000 in
theorem s_DrawScaleVector (v : Value) (n : Nat) (w : World) (hv : Byt w v n w.heap.size) (hn : n ≤ 1048576) :
    Calls Try.prog 19 #[v] w (DrIIV w) := by
  go_enter Try.func19, Try.ntmps19
  go_wp2_with fail
  refine (s_l1New v n _ hv hn).mono ?_; rintro e w0 ⟨c, rfl, hcw, hc0, b0⟩
  have H0 := Lib.hid (And.intro hc0 b0)
  clear hc0 b0 hv
  go_wp2_with fail
  refine (s_l2Prime c _ H0.out.1).mono ?_; rintro e w1 ⟨p, hx, rfl, hc, g⟩
  have X_p := Lib.hid hx
  have H1 := Lib.hid (And.intro hc (new_chg hcw H0.out.2 g))
  clear hx hc g
  go_wp2_with fail
  refine (s_l2Number c _ H1.out.1).mono ?_; rintro e w2 ⟨x, hx, rfl, hc, g⟩
  have X_x := Lib.hid hx
  have H2 := Lib.hid (And.intro hc (new_chg hcw H1.out.2 g))
  clear hx hc g
  go_wp2_with fail
  refine (s_l1Below c _ _ H2.out.1).mono ?_; rintro e w3 ⟨q, hx, rfl, hc, g⟩
  obtain ⟨q0, q1⟩ : 0 ≤ q ∧ q < 5 := by rcases hx with h | h <;> omega
  have H3 := Lib.hid (And.intro hc (new_chg hcw H2.out.2 g))
  clear hx hc g
  go_wp2_with fail
  refine (s_l2VectorI c _ _ _ H3.out.1 (by omega) (by omega)).mono ?_; rintro e w4 ⟨va, l_va, rfl, hi, hf, hc, g⟩
  have lt3 := H3.out.1.lt
  have V_va := Lib.hid (And.intro hi (And.intro (hf.mono H3.out.2.size) (show ∀ q, blk va = some q → ¬ q = c from fun q hq e => by have := hf q hq; omega)))
  have H4 := Lib.hid (And.intro hc (new_chg hcw H3.out.2 g))
  clear hi hf hc g
  go_wp2
  go_ret3
  exact ⟨p, x, va, l_va, V_va.out.1, V_va.out.2.1, rfl, H4.out.2⟩
set_option maxRecDepth 100000 in
set_option maxHeartbeats 1000000 in
theorem s_DrawCodeOf (v : Value) (n : Nat) (w : World) (hv : Byt w v n w.heap.size) (hn : n ≤ 1048576) :
    Calls Try.prog 23 #[v] w (DrIV w) := by
  go_enter Try.func23, Try.ntmps23
  go_wp2_with fail
  refine (s_l1New v n _ hv hn).mono ?_; rintro e w0 ⟨c, rfl, hcw, hc0, b0⟩
  have H0 := Lib.hid (And.intro hc0 b0)
  clear hc0 b0 hv
  go_wp2_with fail
  refine (s_l2Prime c _ H0.out.1).mono ?_; rintro e w1 ⟨p, hx, rfl, hc, g⟩
  have X_p := Lib.hid hx
  have H1 := Lib.hid (And.intro hc (new_chg hcw H0.out.2 g))
  clear hx hc g
  go_wp2_with fail
  refine (s_l1Below c _ _ H1.out.1).mono ?_; rintro e w2 ⟨q, hx, rfl, hc, g⟩
  obtain ⟨q0, q1⟩ : 0 ≤ q ∧ q < 10 := by rcases hx with h | h <;> omega
  have H2 := Lib.hid (And.intro hc (new_chg hcw H1.out.2 g))
  clear hx hc g
  go_wp2_with fail
  refine (s_l2VectorI c _ _ _ H2.out.1 (by omega) (by omega)).mono ?_; rintro e w3 ⟨va, l_va, rfl, hi, hf, hc, g⟩
  have lt2 := H2.out.1.lt
  have V_va := Lib.hid (And.intro hi (And.intro (hf.mono H2.out.2.size) (show ∀ q, blk va = some q → ¬ q = c from fun q hq e => by have := hf q hq; omega)))
  have H3 := Lib.hid (And.intro hc (new_chg hcw H2.out.2 g))
  clear hi hf hc g
  go_wp2
  go_ret2
  exact ⟨p, va, l_va, V_va.out.1, V_va.out.2.1, rfl, H3.out.2⟩
set_option maxRecDepth 100000 in
set_option maxHeartbeats 1000000 in
theorem s_DrawIsVector (v : Value) (n : Nat) (w : World) (hv : Byt w v n w.heap.size) (hn : n ≤ 1048576) :
    Calls Try.prog 24 #[v] w (DrIV w) := by
  go_enter Try.func24, Try.ntmps24
  go_wp2_with fail
  refine (s_l1New v n _ hv hn).mono ?_; rintro e w0 ⟨c, rfl, hcw, hc0, b0⟩
  have H0 := Lib.hid (And.intro hc0 b0)
  clear hc0 b0 hv
  go_wp2_with fail
  refine (s_l2Prime c _ H0.out.1).mono ?_; rintro e w1 ⟨p, hx, rfl, hc, g⟩
  have X_p := Lib.hid hx
  have H1 := Lib.hid (And.intro hc (new_chg hcw H0.out.2 g))
  clear hx hc g
  go_wp2_with fail
  refine (s_l1Below c _ _ H1.out.1).mono ?_; rintro e w2 ⟨q, hx, rfl, hc, g⟩
  obtain ⟨q0, q1⟩ : 0 ≤ q ∧ q < 5 := by rcases hx with h | h <;> omega
  have H2 := Lib.hid (And.intro hc (new_chg hcw H1.out.2 g))
  clear hx hc g
  go_wp2_with fail
  refine (s_l2VectorI c _ _ _ H2.out.1 (by omega) (by omega)).mono ?_; rintro e w3 ⟨va, l_va, rfl, hi, hf, hc, g⟩
  have lt2 := H2.out.1.lt
  have V_va := Lib.hid (And.intro hi (And.intro (hf.mono H2.out.2.size) (show ∀ q, blk va = some q → ¬ q = c from fun q hq e => by have := hf q hq; omega)))
  have H3 := Lib.hid (And.intro hc (new_chg hcw H2.out.2 g))
  clear hi hf hc g
  go_wp2
  go_ret2
  exact ⟨p, va, l_va, V_va.out.1, V_va.out.2.1, rfl, H3.out.2⟩
set_option maxRecDepth 100000 in
set_option maxHeartbeats 1000000 in
theorem s_DrawAddVectors (v : Value) (n : Nat) (w : World) (hv : Byt w v n w.heap.size) (hn : n ≤ 1048576) :
    Calls Try.prog 16 #[v] w (DrIVV w) := by
  go_enter Try.func16, Try.ntmps16
  go_wp2_with fail
  refine (s_l1New v n _ hv hn).mono ?_; rintro e w0 ⟨c, rfl, hcw, hc0, b0⟩
  have H0 := Lib.hid (And.intro hc0 b0)
  clear hc0 b0 hv
  go_wp2_with fail
  refine (s_l2Prime c _ H0.out.1).mono ?_; rintro e w1 ⟨p, hx, rfl, hc, g⟩
  have X_p := Lib.hid hx
  have H1 := Lib.hid (And.intro hc (new_chg hcw H0.out.2 g))
  clear hx hc g
  go_wp2_with fail
  refine (s_l1Below c _ _ H1.out.1).mono ?_; rintro e w2 ⟨q, hx, rfl, hc, g⟩
  obtain ⟨q0, q1⟩ : 0 ≤ q ∧ q < 5 := by rcases hx with h | h <;> omega
  have H2 := Lib.hid (And.intro hc (new_chg hcw H1.out.2 g))
  clear hx hc g
  go_wp2_with fail
  refine (s_l2VectorI c _ _ _ H2.out.1 (by omega) (by omega)).mono ?_; rintro e w3 ⟨va, l_va, rfl, hi, hf, hc, g⟩
  have lt2 := H2.out.1.lt
  have V_va := Lib.hid (And.intro hi (And.intro (hf.mono H2.out.2.size) (show ∀ q, blk va = some q → ¬ q = c from fun q hq e => by have := hf q hq; omega)))
  have H3 := Lib.hid (And.intro hc (new_chg hcw H2.out.2 g))
  clear hi hf hc g
  go_wp2_with fail
  refine (s_l1Once c _ _ H3.out.1).mono ?_; rintro e w4 ⟨b, rfl, hc, g⟩
  have V_va := Lib.hid (And.intro (V_va.out.1.chg g V_va.out.2.2) V_va.out.2)
  have H4 := Lib.hid (And.intro hc (new_chg hcw H3.out.2 g))
  clear hc g
  cases b
  all_goals
    go_wp2_with fail
    refine (s_l2VectorI c _ _ _ H4.out.1 (by omega) (by omega)).mono ?_; rintro e w5 ⟨vb, l_vb, rfl, hi, hf, hc, g⟩
    have lt4 := H4.out.1.lt
    have V_vb := Lib.hid (And.intro hi (And.intro (hf.mono H4.out.2.size) (show ∀ q, blk vb = some q → ¬ q = c from fun q hq e => by have := hf q hq; omega)))
    have V_va := Lib.hid (And.intro (V_va.out.1.chg g V_va.out.2.2) V_va.out.2)
    have H5 := Lib.hid (And.intro hc (new_chg hcw H4.out.2 g))
    clear hi hf hc g
    go_wp2
    go_ret3
    exact ⟨p, va, l_va, vb, l_vb, V_va.out.1, V_va.out.2.1, V_vb.out.1, V_vb.out.2.1, rfl, H5.out.2⟩
theorem list_eq_of {la lb : List Int} (hn : la.length = lb.length) (h : ∀ j, j < la.length → la.getD j 0 = lb.getD j 0) : la = lb := by
  apply List.ext_getElem hn
  intro i h1 h2
  have := h i h1
  simpa [List.getD, h1, h2] using this

set_option maxRecDepth 100000 in
set_option maxHeartbeats 400000 in
theorem l_sameInts (a b : Value) (la lb : List Int) (w : World) (ha : Ints w a la) (hb : Ints w b lb) :
    Calls Try.prog 14 #[a, b] w (BoolAnsB (decide (la = lb)) w) := by
  obtain ⟨a, cap, rfl, hlc, hcm⟩ := ha.shape
  obtain ⟨b, cap', rfl, hlc', hcm'⟩ := hb.shape
  by_cases hn : la.length = lb.length
  · have HN := Lib.hid hn
    have hnb : ((la.length : Int) != (lb.length : Int)) = false := by simp only [bne_eq_false_iff_eq]; omega
    have hnl : la.length ≤ lb.length := by omega
    clear hn
    go_enter Try.func14, Try.ntmps14
    go_wp2
    go_loopw [5] (fun i wr => ∃ k : Nat, k ≤ la.length ∧ i = .int .i64 k ∧ (∀ j, j < k → la.getD j 0 = lb.getD j 0) ∧ Below w.heap.size w wr) (fun i _ => la.length - (intOf i).toNat)
    case atStart => exact ⟨0, Nat.zero_le _, rfl, fun j hj => absurd hj (by omega), Below.refl _ _⟩
    case round =>
      obtain ⟨k, hk, rfl, hno, hbel⟩ := hrel
      have HE := Lib.hid hno; clear hno
      by_cases hlt : k < la.length
      · obtain ⟨g, off, rfl, hgs, hc, _⟩ := ha.cell hlt
        obtain ⟨g', off', rfl, hgs', hc', _⟩ := hb.cell (show k < lb.length by omega)
        rw [← hbel.cell (p := ⟨g, off + k, none⟩) hgs] at hc
        rw [← hbel.cell (p := ⟨g', off' + k, none⟩) hgs'] at hc'
        obtain ⟨x, hx⟩ := elem_name la k
        obtain ⟨y, hy⟩ := elem_name lb k
        rw [hx] at hc
        rw [hy] at hc'
        have HX := Lib.hid hx; have HY := Lib.hid hy; clear hx hy
        by_cases hq : x = y
        · have hqb : (x != y) = false := by simp [hq]
          have HQ := Lib.hid hq; clear hq
          have hk0 : (0 : Int) ≤ (k : Int) := by omega
          have hk1 : (k : Int) < (la.length : Int) := by omega
          have hk2 : (k : Int) < (lb.length : Int) := by omega
          go_wp2
          go_quiet (fail)
          go_wp2
          go_roundw
          case rel => exact ⟨k + 1, by omega, by go_num, fun j hj => by
            by_cases h : j = k
            · rw [h, HX.out, HY.out]; exact HQ.out
            · exact HE.out j (by omega), below_drewN hbel _⟩
          case measure => simp [intOf]; omega
        · have hqb : (x != y) = true := by simpa using hq
          have HQ := Lib.hid hq; clear hq
          have hk0 : (0 : Int) ≤ (k : Int) := by omega
          have hk1 : (k : Int) < (la.length : Int) := by omega
          have hk2 : (k : Int) < (lb.length : Int) := by omega
          go_wp2
          go_quiet (fail)
          go_wp2
          go_ret
          exact ⟨ret_bool (by rw [eq_comm]; simp only [decide_eq_false_iff_not]; exact fun h => HQ.out (by rw [← HX.out, ← HY.out, h])), below_drewN hbel _⟩
      · go_wp2
        go_ret
        exact ⟨ret_bool (by rw [eq_comm]; simp only [decide_eq_true_eq]; exact list_eq_of HN.out (fun j hj => HE.out j (by omega))), hbel⟩
  · have HV : Hid (decide (la = lb) = false) := by unfold Hid; simp; exact fun h => hn (by rw [h])
    have hnb : ((la.length : Int) != (lb.length : Int)) = true := by simp only [bne_iff_ne]; omega
    clear hn
    go_enter Try.func14, Try.ntmps14
    go_wp2
    go_ret
    exact ⟨ret_bool HV.out.symm, Below.refl _ _⟩
set_option maxRecDepth 100000 in
set_option maxHeartbeats 400000 in
theorem l_big (v : Value) (n b : Nat) (w : World) (hv : Byt w v n b) :
    Calls Try.prog 4 #[v] w fun e w' => e = .returned (.bool (decide ((1048576 : Int) < (n : Int)))) ∧ w = w' := by
  obtain ⟨a, cap, rfl, h1, h2, h3⟩ := hv
  unfold maxLen at h2
  clear h3
  go_enter Try.func4, Try.ntmps4
  go_wp2
  go_ret
  exact ⟨rfl, rfl⟩
end Go.Proofs.Ytogilgennpmdhaa
