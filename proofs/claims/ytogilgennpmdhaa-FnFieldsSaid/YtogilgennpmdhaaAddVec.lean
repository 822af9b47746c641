/- AddVectors and ScaleVector, of the program and of the reference. -/
import Derived.Test.YtogilgennpmdhaaVecOps
namespace Go.Proofs.Ytogilgennpmdhaa
open Go.RowKit
set_option linter.unusedVariables false
set_option linter.unusedSimpArgs false

/-- f 0, f 1, .., n numbers -/
def gen (f : Nat → Int) (n : Nat) : List Int := (List.range n).map f
theorem gen_len (f : Nat → Int) (n : Nat) : (gen f n).length = n := by simp [gen]
theorem gen_succ (f : Nat → Int) (n : Nat) : gen f n ++ [f n] = gen f (n + 1) := by simp [gen, List.range_succ]
theorem gen_get (f : Nat → Int) (n t : Nat) (h : t < n) : (gen f n).getD t 0 = f t := by simp [gen, List.getD, h]

theorem isV_elem {p : Int} {l : List Int} (h : isV p l = true) {j : Nat} (hj : j < l.length) : 0 ≤ l.getD j 0 ∧ l.getD j 0 ≤ 4 := by
  unfold isV okV at h
  simp only [Bool.and_eq_true, List.all_eq_true, decide_eq_true_eq] at h
  obtain ⟨⟨hF, _⟩, h⟩ := h
  have := inR_true (h (l.getD j 0) (by simp [List.getD, hj]))
  have := isF_cases hF
  omega
theorem isV_F {p : Int} {l : List Int} (h : isV p l = true) : isF p = true := by
  unfold isV at h; simp only [Bool.and_eq_true] at h; exact h.1.1
theorem isV_L {p : Int} {l : List Int} (h : isV p l = true) : l.length ≤ 64 := by
  unfold isV at h; simp only [Bool.and_eq_true, decide_eq_true_eq] at h; exact h.1.2

def addOK (p : Int) (la lb : List Int) : Bool := isV p la && isV p lb && decide (la.length = lb.length)
def addK (p : Int) (la lb : List Int) (k : Nat) : List Int := gen (fun t => (la.getD t 0 + lb.getD t 0) % p) k
theorem addK_len (p : Int) (la lb : List Int) (k : Nat) : (addK p la lb k).length = k := gen_len _ _
theorem addK_succ (p : Int) (la lb : List Int) (k : Nat) : addK p la lb k ++ [(la.getD k 0 + lb.getD k 0) % p] = addK p la lb (k + 1) := gen_succ (fun t => (la.getD t 0 + lb.getD t 0) % p) k
def addV (p : Int) (la lb : List Int) : List Int := addK p la lb la.length
def addR (p : Int) (la lb : List Int) : List Int := if addOK p la lb = true then addV p la lb else []

/-- a new slice of integers and a word -/
def VecOK (l : List Int) (ok : Bool) (w : World) (e : Ending) (w' : World) : Prop :=
  ∃ v, e = .returned (.tuple #[v, .bool ok]) ∧ Ints w' v l ∧ FreshV w.heap.size v ∧ Below w.heap.size w w'
theorem VecOK.of_eq {l l' : List Int} {ok ok' : Bool} {w w' : World} {e : Ending} (h : VecOK l ok w e w') (h1 : l = l') (h2 : ok = ok') : VecOK l' ok' w e w' := by
  subst h1; subst h2; exact h

theorem still_int {f : FuncId} {args : Array Value} {w : World} {r : Int} (h : Calls Try.prog f args w (fun e w' => e = .returned (.int .i64 r) ∧ w = w')) :
    Calls Try.prog f args w (fun e w'' => e = .returned (.int .i64 r) ∧ w'' = w) := h.mono fun _ _ ⟨a, b⟩ => ⟨a, b.symm⟩

set_option maxRecDepth 100000 in
set_option maxHeartbeats 1000000 in
theorem s_AddVectors_yes (p : Int) (va vb : Value) (la lb : List Int) (w : World) (ha : Ints w va la) (hb : Ints w vb lb) (h1 : isV p la = true) (h2 : isV p lb = true) (hn : la.length = lb.length) :
    Calls Try.prog 18 #[.int .i64 p, va, vb] w (VecOK (addV p la lb) true w) := by
  have hF := isV_F h1
  have hL := isV_L h1
  have hp5 : 2 ≤ p ∧ p ≤ 5 := by have := isF_cases hF; omega
  obtain ⟨hp2, hp5⟩ := hp5
  obtain ⟨B, hB⟩ : ∃ B, B = w.heap.size := ⟨_, rfl⟩
  have HB := Lib.hid hB
  have hB1 : B ≤ w.heap.size := by omega
  clear hB
  have hbl := (Below.refl B w).alloc hB1 (.cells #[] 3)
  have hbw : Below w.heap.size w (w.alloc (.cells #[] 3)) := (Below.refl _ w).alloc (Nat.le_refl _) _
  have HA := Lib.hid ha
  have HA2 := Lib.hid (ha.below hbw)
  have HB2 := Lib.hid (hb.below hbw)
  have HBB := Lib.hid hb
  obtain ⟨a, cap, rfl, hlc, hcm⟩ := ha.shape
  obtain ⟨b, capb, rfl, hlcb, hcmb⟩ := hb.shape
  have hmd := Lib.hid (Own.made w (B := B) 3 .i64 hB1)
  have hne : ((la.length : Int) != (lb.length : Int)) = false := by simp only [bne_eq_false_iff_eq]; omega
  have hnl : la.length ≤ lb.length := by omega
  have HBW := Lib.hid hbl
  clear ha hb hbw hbl hn
  go_enter Try.func18, Try.ntmps18
  go_wp2_with fail
  refine (s_IsVector _ _ la _ HA2.out).mono ?_; rintro e w' ⟨rfl, rfl⟩
  go_wp2_with fail
  refine (s_IsVector _ _ lb _ HB2.out).mono ?_; rintro e w' ⟨rfl, rfl⟩
  go_wp2
  go_loopw [8, 9] (fun v i wr => ∃ k : Nat, k ≤ la.length ∧ i = .int .i64 k ∧ Own wr B 3 .i64 v (addK p la lb k) ∧ Below B w wr ∧ B ≤ wr.heap.size) (fun _ i _ => la.length - (intOf i).toNat)
  case atStart => exact ⟨0, Nat.zero_le _, rfl, hmd.out, HBW.out, Nat.le_trans hB1 (by simp)⟩
  case round =>
    obtain ⟨k, hk, rfl, hown, hbel, hBr⟩ := hrel
    by_cases hlt : k < la.length
    · obtain ⟨g, off, rfl, hgs, hc, _⟩ := HA.out.cell hlt
      obtain ⟨g', off', rfl, hgs', hc', _⟩ := HBB.out.cell (show k < lb.length by omega)
      obtain ⟨hx0, hx1⟩ := isV_elem h1 hlt
      obtain ⟨hy0, hy1⟩ := isV_elem h2 (show k < lb.length by omega)
      have hgs1 := addK_succ p la lb k
      have hcw := hc
      have hcw' := hc'
      rw [← hbel.cell (p := ⟨g, off + k, none⟩) (by rw [HB.out]; exact hgs)] at hc
      rw [← hbel.cell (p := ⟨g', off' + k, none⟩) (by rw [HB.out]; exact hgs')] at hc'
      obtain ⟨x, hx⟩ := elem_name la k
      obtain ⟨y, hy⟩ := elem_name lb k
      simp only [hx, hy] at hc hc' hcw hcw' hx0 hx1 hy0 hy1 hgs1
      have HG := Lib.hid hgs1
      clear hgs1 hx hy
      have hk0 : (0 : Int) ≤ (k : Int) := by omega
      have hk1 : (k : Int) < (la.length : Int) := by omega
      have hk2 : (k : Int) < (lb.length : Int) := by omega
      have hwr : IntKind.i64.wrap (x + y) = x + y := IntWalk.i64_in _ (by omega)
      go_wp2
      go_region_held3 (fun w' => w'.cell? ⟨g, off + k, none⟩ = some (.int .i64 x) ∧ w'.cell? ⟨g', off' + k, none⟩ = some (.int .i64 y))
        (first
          | go_keep
          | exact ⟨(hbel3.cell (p := ⟨g, off + k, none⟩) (by rw [HB.out]; exact hgs)).trans hcw, (hbel3.cell (p := ⟨g', off' + k, none⟩) (by rw [HB.out]; exact hgs')).trans hcw'⟩)
        (first
          | (refine step_app_int w wr (by rfl) (.tmp 35) (.tmp 47) (by rfl) B u8 (addK p la lb k) (by rfl) (by rfl) hown hbel hBr (by rw [addK_len]; omega) ?_; intro v' w3 hown3 hbel3 hB3)
          | (go_at_call 34; refine (s_l2Mod _ _ hF _).mono ?_; rintro e w' ⟨rfl, rfl⟩))
      rw [HG.out] at hown3
      go_wp2
      go_roundw
      case rel => exact ⟨k + 1, by omega, by go_num, hown3, hbel3, hB3⟩
      case measure => simp [intOf]; omega
    · have hk' : k = la.length := by omega
      have HQ : Hid (Ints wr u8 (addV p la lb) ∧ FreshV B u8) := by rw [hk'] at hown; exact Ints.of_own hown
      clear hown hk'
      go_wp2
      go_ret2
      exact ⟨_, rfl, HQ.out.1, HQ.out.2.mono (by rw [HB.out]; exact Nat.le_refl _), hbel.mono (by rw [HB.out]; exact Nat.le_refl _)⟩

theorem addOK_false {p : Int} {la lb : List Int} (h : addOK p la lb = false) : isV p la = false ∨ isV p la = true ∧ isV p lb = false ∨ isV p la = true ∧ isV p lb = true ∧ la.length ≠ lb.length := by
  unfold addOK at h
  cases h1 : isV p la <;> cases h2 : isV p lb <;> simp_all

set_option maxRecDepth 100000 in
set_option maxHeartbeats 1000000 in
theorem s_AddVectors_no (p : Int) (va vb : Value) (la lb : List Int) (w : World) (ha : Ints w va la) (hb : Ints w vb lb) (h : addOK p la lb = false) :
    Calls Try.prog 18 #[.int .i64 p, va, vb] w (VecOK [] false w) := by
  have hbw : Below w.heap.size w (w.alloc (.cells #[] 3)) := (Below.refl _ w).alloc (Nat.le_refl _) _
  have HA2 := Lib.hid (ha.below hbw)
  have HB2 := Lib.hid (hb.below hbw)
  have hmd := Lib.hid (Ints.of_own (Own.made w (B := w.heap.size) 3 .i64 (Nat.le_refl _)))
  have HBW := Lib.hid hbw
  obtain ⟨a, cap, rfl, hlc, hcm⟩ := ha.shape
  obtain ⟨b, capb, rfl, hlcb, hcmb⟩ := hb.shape
  clear ha hb hbw
  rcases addOK_false h with h1 | ⟨h1, h2⟩ | ⟨h1, h2, hn⟩ <;> clear h
  · go_enter Try.func18, Try.ntmps18
    go_wp2_with fail
    refine (s_IsVector _ _ la _ HA2.out).mono ?_; rintro e w' ⟨rfl, rfl⟩
    go_wp2
    go_ret2
    exact ⟨_, rfl, hmd.out.1, hmd.out.2, HBW.out⟩
  · go_enter Try.func18, Try.ntmps18
    go_wp2_with fail
    refine (s_IsVector _ _ la _ HA2.out).mono ?_; rintro e w' ⟨rfl, rfl⟩
    go_wp2_with fail
    refine (s_IsVector _ _ lb _ HB2.out).mono ?_; rintro e w' ⟨rfl, rfl⟩
    go_wp2
    go_ret2
    exact ⟨_, rfl, hmd.out.1, hmd.out.2, HBW.out⟩
  · have hne : ((la.length : Int) != (lb.length : Int)) = true := by simp only [bne_iff_ne]; omega
    go_enter Try.func18, Try.ntmps18
    go_wp2_with fail
    refine (s_IsVector _ _ la _ HA2.out).mono ?_; rintro e w' ⟨rfl, rfl⟩
    go_wp2_with fail
    refine (s_IsVector _ _ lb _ HB2.out).mono ?_; rintro e w' ⟨rfl, rfl⟩
    go_wp2
    go_ret2
    exact ⟨_, rfl, hmd.out.1, hmd.out.2, HBW.out⟩

theorem addOK_true {p : Int} {la lb : List Int} (h : addOK p la lb = true) : isV p la = true ∧ isV p lb = true ∧ la.length = lb.length := by
  unfold addOK at h; simpa [and_assoc] using h

theorem s_AddVectors (p : Int) (va vb : Value) (la lb : List Int) (w : World) (ha : Ints w va la) (hb : Ints w vb lb) :
    Calls Try.prog 18 #[.int .i64 p, va, vb] w (VecOK (addR p la lb) (addOK p la lb) w) := by
  unfold addR
  cases h : addOK p la lb
  · rw [if_neg (by simp)]; exact s_AddVectors_no p va vb la lb w ha hb h
  · rw [if_pos rfl]
    obtain ⟨h1, h2, h3⟩ := addOK_true h
    exact s_AddVectors_yes p va vb la lb w ha hb h1 h2 h3

theorem addAt_add (p : Int) (la lb : List Int) (hn : la.length = lb.length) : addAt p la 0 1 lb lb.length = addV p la lb := by
  unfold addAt addV addK gen
  apply List.map_congr_left
  intro t ht
  rw [List.mem_range] at ht
  rw [if_pos (by omega)]
  simp

set_option maxRecDepth 100000 in
set_option maxHeartbeats 1000000 in
theorem i_AddVectors_yes (p : Int) (va vb : Value) (la lb : List Int) (w : World) (ha : Ints w va la) (hb : Ints w vb lb) (h1 : isV p la = true) (h2 : isV p lb = true) (hn : la.length = lb.length) :
    Calls Try.prog 17 #[.int .i64 p, va, vb] w (VecOK (addV p la lb) true w) := by
  have hF := isV_F h1
  have hL := isV_L h1
  have hp5 : 2 ≤ p ∧ p ≤ 5 := by have := isF_cases hF; omega
  obtain ⟨hp2, hp5⟩ := hp5
  have HA := Lib.hid ha
  have HBB := Lib.hid hb
  obtain ⟨a, cap, rfl, hlc, hcm⟩ := ha.shape
  obtain ⟨b, capb, rfl, hlcb, hcmb⟩ := hb.shape
  have hne : ((la.length : Int) != (lb.length : Int)) = false := by simp only [bne_eq_false_iff_eq]; omega
  have HN := Lib.hid hn
  clear ha hb hn
  go_enter Try.func17, Try.ntmps17
  go_wp2_with fail
  refine (i_IsVector _ _ la _ HA.out).mono ?_; rintro e w1 ⟨rfl, b1⟩
  have HA1 := Lib.hid (HA.out.below b1)
  have HB1 := Lib.hid (HBB.out.below b1)
  go_wp2_with fail
  refine (i_IsVector _ _ lb _ HB1.out).mono ?_; rintro e w2 ⟨rfl, b2⟩
  have HA2 := Lib.hid (HA1.out.below b2)
  have HB2 := Lib.hid (HB1.out.below b2)
  go_wp2_with fail
  refine (Clone_ints _ la _ HA2.out (by omega)).mono ?_; rintro e w3 ⟨v, rfl, hv3, hf3, b3⟩
  have HB3 := Lib.hid (HB2.out.below b3)
  have HS : Hid (∀ q, blk (.slice b lb.length capb) = some q → ¬ blk v = some q) := fun q hq h => by
    have := HB2.out.lt q hq
    have := hf3 q h
    omega
  have HV3 := Lib.hid hv3; clear hv3
  have HM : Hid (∀ j, j < lb.length → 0 ≤ la.getD j 0 ∧ la.getD j 0 ≤ 1000000 ∧ 0 ≤ 1 * lb.getD j 0 ∧ 1 * lb.getD j 0 ≤ 1000000) := fun j hj => by
    have := isV_elem h1 (show j < la.length by have := HN.out; omega)
    have := isV_elem h2 hj
    omega
  go_wp2_with fail
  refine (i_addMultiple_whole _ _ _ _ la lb _ (by omega) (by omega) HV3.out HB3.out (by have := HN.out; omega) HS.out HM.out).mono ?_; rintro e w4 ⟨rfl, hv4, c4⟩
  rw [addAt_add _ _ _ HN.out] at hv4
  go_wp2
  go_ret2
  have hb12 := below_call b1 b2 b1.size
  have hb13 := below_call hb12 b3 hb12.size
  have hf := hf3.mono hb12.size
  exact ⟨_, rfl, hv4, hf, below_chg hb13 c4 hb13.size (fun q h => hf q h)⟩

set_option maxRecDepth 100000 in
set_option maxHeartbeats 1000000 in
theorem i_AddVectors_no (p : Int) (va vb : Value) (la lb : List Int) (w : World) (ha : Ints w va la) (hb : Ints w vb lb) (h : addOK p la lb = false) :
    Calls Try.prog 17 #[.int .i64 p, va, vb] w (VecOK [] false w) := by
  have HA := Lib.hid ha
  have HBB := Lib.hid hb
  obtain ⟨a, cap, rfl, hlc, hcm⟩ := ha.shape
  obtain ⟨b, capb, rfl, hlcb, hcmb⟩ := hb.shape
  clear ha hb
  rcases addOK_false h with h1 | ⟨h1, h2⟩ | ⟨h1, h2, hn⟩ <;> clear h
  · go_enter Try.func17, Try.ntmps17
    go_wp2_with fail
    refine (i_IsVector _ _ la _ HA.out).mono ?_; rintro e w1 ⟨rfl, b1⟩
    go_wp2
    go_ret2
    exact ⟨_, rfl, Ints.nil _, FreshV.nil _, b1⟩
  · go_enter Try.func17, Try.ntmps17
    go_wp2_with fail
    refine (i_IsVector _ _ la _ HA.out).mono ?_; rintro e w1 ⟨rfl, b1⟩
    have HB1 := Lib.hid (HBB.out.below b1)
    go_wp2_with fail
    refine (i_IsVector _ _ lb _ HB1.out).mono ?_; rintro e w2 ⟨rfl, b2⟩
    go_wp2
    go_ret2
    exact ⟨_, rfl, Ints.nil _, FreshV.nil _, below_call b1 b2 b1.size⟩
  · have hne : ((la.length : Int) != (lb.length : Int)) = true := by simp only [bne_iff_ne]; omega
    go_enter Try.func17, Try.ntmps17
    go_wp2_with fail
    refine (i_IsVector _ _ la _ HA.out).mono ?_; rintro e w1 ⟨rfl, b1⟩
    have HB1 := Lib.hid (HBB.out.below b1)
    go_wp2_with fail
    refine (i_IsVector _ _ lb _ HB1.out).mono ?_; rintro e w2 ⟨rfl, b2⟩
    go_wp2
    go_ret2
    exact ⟨_, rfl, Ints.nil _, FreshV.nil _, below_call b1 b2 b1.size⟩

theorem i_AddVectors (p : Int) (va vb : Value) (la lb : List Int) (w : World) (ha : Ints w va la) (hb : Ints w vb lb) :
    Calls Try.prog 17 #[.int .i64 p, va, vb] w (VecOK (addR p la lb) (addOK p la lb) w) := by
  unfold addR
  cases h : addOK p la lb
  · rw [if_neg (by simp)]; exact i_AddVectors_no p va vb la lb w ha hb h
  · rw [if_pos rfl]
    obtain ⟨h1, h2, h3⟩ := addOK_true h
    exact i_AddVectors_yes p va vb la lb w ha hb h1 h2 h3

end Go.Proofs.Ytogilgennpmdhaa
