/- OrderOf and IsAcyclic, of the program and of the reference. -/
import Derived.Test.YtndooeffjkofdaaDoorSinks
namespace Go.Proofs.YtndooeffjkofdaaDoor
open Go.RowKit
set_option linter.unusedVariables false
set_option linter.unusedSimpArgs false

/-- a new slice and a word -/
def IntsOK (l : List Int) (ok : Bool) (w : World) (e : Ending) (w' : World) : Prop :=
  ∃ v, e = .returned (.tuple #[v, .bool ok]) ∧ Ints w' v l ∧ FreshV w.heap.size v ∧ Below w.heap.size w w'

theorem IntsOK.of_eq {l l' : List Int} {ok ok' : Bool} {w w' : World} {e : Ending} (h : IntsOK l ok w e w') (h1 : l = l') (h2 : ok = ok') : IntsOK l' ok' w e w' := by
  subst h1; subst h2; exact h

/-- the first k arrows that end at v begin in L -/
def readyP (f t L : List Int) (v : Int) : Nat → Bool
  | 0 => true
  | k + 1 => readyP f t L v k && (!(t.getD k 0 == v) || memI (f.getD k 0) L)
def candP (f t L : List Int) (v : Int) : Bool := !memI v L && readyP f t L v t.length
/-- the best vertex among the last d of N -/
def pickD (f t L : List Int) (N : Nat) : Nat → Int
  | 0 => -1
  | d + 1 => if candP f t L ((N : Int) - (d + 1)) = true then (N : Int) - (d + 1) else pickD f t L N d
def nextV (f t L : List Int) (N : Nat) : Int := pickD f t L N N
/-- the order, k vertices long -/
def ordL (f t : List Int) (N : Nat) : Nat → List Int
  | 0 => []
  | k + 1 => ordL f t N k ++ [nextV f t (ordL f t N k) N]
def ordGo (f t : List Int) (N : Nat) : Bool := (List.range N).all fun k => decide (0 ≤ nextV f t (ordL f t N k) N)
def ordOK (n : Int) (f t : List Int) : Bool := isQ n f t && ordGo f t n.toNat
def ordR (n : Int) (f t : List Int) : List Int := if ordOK n f t = true then ordL f t n.toNat n.toNat else []
theorem ordL_len (f t : List Int) (N k : Nat) : (ordL f t N k).length = k := by
  induction k with
  | zero => rfl
  | succ k ih => simp only [ordL, List.length_append, ih]; rfl
theorem readyP_false {f t L : List Int} {v : Int} {k m : Nat} (hkm : k ≤ m) (h : readyP f t L v k = false) : readyP f t L v m = false := by
  induction m with
  | zero => rw [show k = 0 by omega] at h; exact h
  | succ m ih =>
    by_cases hk : k = m + 1
    · rw [← hk]; exact h
    · simp only [readyP, ih (by omega), Bool.false_and]
theorem ord_no {f t : List Int} {N k : Nat} (hk : k < N) (h : nextV f t (ordL f t N k) N < 0) : ordGo f t N = false := by
  unfold ordGo
  rw [List.all_eq_false]
  exact ⟨k, List.mem_range.2 hk, by simpa using h⟩
theorem ord_yes {f t : List Int} {N : Nat} (h : ∀ k, k < N → 0 ≤ nextV f t (ordL f t N k) N) : ordGo f t N = true := by
  unfold ordGo
  rw [List.all_eq_true]
  intro k hk
  simpa using h k (List.mem_range.1 hk)
theorem ordR_len (n : Int) (f t : List Int) : (ordR n f t).length ≤ 5 := by
  unfold ordR
  split
  · rename_i h
    unfold ordOK at h
    simp only [Bool.and_eq_true] at h
    obtain ⟨a, b⟩ := isQ_n' h.1
    rw [ordL_len]; omega
  · simp
theorem isQ_len {n : Int} {f t : List Int} (h : isQ n f t = true) : f.length = t.length ∧ f.length ≤ 6 := by
  unfold isQ at h
  simp only [Bool.and_eq_true, decide_eq_true_eq] at h
  exact ⟨h.1.1.1.2, h.1.1.2⟩
theorem pickD_yes {f t L : List Int} {N d m : Nat} (e : d + (m + 1) = N) (h : candP f t L m = true) : pickD f t L N (d + 1) = m := by
  have e2 : (N : Int) - ((d : Int) + 1) = (m : Int) := by omega
  simp only [pickD, e2, h, if_true]
theorem pickD_no {f t L : List Int} {N d m : Nat} (e : d + (m + 1) = N) (h : candP f t L m = false) : pickD f t L N (d + 1) = pickD f t L N d := by
  have e2 : (N : Int) - ((d : Int) + 1) = (m : Int) := by omega
  simp only [pickD, e2, h]; simp
def slLen : Value → Nat
  | .slice _ n _ => n
  | _ => 0

set_option maxRecDepth 100000 in
set_option maxHeartbeats 1000000 in
theorem i_isReady (n : Int) (vf vt : Value) (x : Int) (vL : Value) (lf lt L : List Int) (w : World) (hf : Ints w vf lf) (ht : Ints w vt lt) (hL : Ints w vL L) (hlen : lf.length = lt.length) :
    Calls Tryd.prog 67 #[.agg #[.int .i64 n, vf, vt], .int .i64 x, vL] w (BoolAnsB (readyP lf lt L x lt.length) w) := by
  obtain ⟨a1, c1, rfl, hl1, hm1⟩ := hf.shape
  obtain ⟨a2, c2, rfl, hl2, hm2⟩ := ht.shape
  obtain ⟨a3, c3, rfl, hl3, hm3⟩ := hL.shape
  have h2 : Below w.heap.size w (w.alloc (.cells #[.int .i64 n, .slice a1 lf.length c1, .slice a2 lt.length c2] 26)) := (Below.refl _ w).alloc (Nat.le_refl _) _
  have P0 := Lib.hid (Blk.new w #[.int .i64 n, .slice a1 lf.length c1, .slice a2 lt.length c2] 26)
  have hF := hf.below h2; have hT := ht.below h2; have HL := Lib.hid (hL.below h2)
  have H2 := Lib.hid h2
  have HLEN := Lib.hid hlen
  clear hf ht hL h2 hlen
  go_enter Tryd.func67, Tryd.ntmps67
  obtain ⟨p0, p1, p2⟩ := blk3 P0.out
  go_wp2
  go_loop [12] (fun i => ∃ k : Nat, k ≤ lt.length ∧ i = .int .i64 k ∧ readyP lf lt L x k = true) (fun i => lt.length - (intOf i).toNat)
  case atStart => exact ⟨0, Nat.zero_le _, rfl, rfl⟩
  case round =>
    obtain ⟨k, hk, rfl, hr⟩ := hrel
    have HR := Lib.hid hr; clear hr
    by_cases hlt : k < lt.length
    · obtain ⟨g, off, rfl, hgs, hc, _⟩ := hT.cell hlt
      have hkf : k < lf.length := by have := HLEN.out; omega
      obtain ⟨g', off', rfl, hgs', hc', _⟩ := hF.cell hkf
      obtain ⟨y, hy⟩ := elem_name lt k
      obtain ⟨z, hz⟩ := elem_name lf k
      rw [hy] at hc
      rw [hz] at hc'
      have HS := Lib.hid (show readyP lf lt L x (k + 1) = (!(y == x) || memI z L) by simp only [readyP, HR.out, hy, hz, Bool.true_and])
      clear hy hz
      by_cases hyx : y = x
      · have hb : (y == x) = true := by simpa using hyx
        cases hm : memI z L
        · have HN := Lib.hid (readyP_false (f := lf) (t := lt) (L := L) (v := x) (k := k + 1) (m := lt.length) hlt (by rw [HS.out, hb, hm]; rfl))
          clear hyx
          go_wp2_with fail
          refine (Contains_ints _ L _ _ HL.out).mono ?_; rintro e wz ⟨rfl, rfl⟩
          go_wp2
          go_ret
          exact ⟨ret_bool HN.out.symm, H2.out⟩
        · have HN := Lib.hid (show readyP lf lt L x (k + 1) = true by rw [HS.out, hb, hm]; rfl)
          clear hyx
          go_wp2_with fail
          refine (Contains_ints _ L _ _ HL.out).mono ?_; rintro e wz ⟨rfl, rfl⟩
          go_wp2
          go_round
          case rel => exact ⟨k + 1, by omega, by go_num, HN.out⟩
          case measure => simp [intOf]; omega
      · have hb : (y == x) = false := by simpa using hyx
        have HN := Lib.hid (show readyP lf lt L x (k + 1) = true by rw [HS.out, hb]; rfl)
        clear hyx
        go_wp2
        go_round
        case rel => exact ⟨k + 1, by omega, by go_num, HN.out⟩
        case measure => simp [intOf]; omega
    · have HN := Lib.hid (show readyP lf lt L x lt.length = true by rw [show lt.length = k by omega]; exact HR.out)
      go_wp2
      go_ret
      exact ⟨ret_bool HN.out.symm, H2.out⟩

set_option maxRecDepth 100000 in
set_option maxHeartbeats 4000000 in
theorem i_OrderOf (n : Int) (vf vt : Value) (lf lt : List Int) (w : World) (hf : Ints w vf lf) (ht : Ints w vt lt) :
    Calls Tryd.prog 57 #[.agg #[.int .i64 n, vf, vt]] w (IntsOK (ordR n lf lt) (ordOK n lf lt) w) := by
  obtain ⟨a1, c1, rfl, hl1, hm1⟩ := hf.shape
  obtain ⟨a2, c2, rfl, hl2, hm2⟩ := ht.shape
  have h2 : Below w.heap.size w (w.alloc (.cells #[.int .i64 n, .slice a1 lf.length c1, .slice a2 lt.length c2] 26)) := (Below.refl _ w).alloc (Nat.le_refl _) _
  have P0 := Lib.hid (Blk.new w #[.int .i64 n, .slice a1 lf.length c1, .slice a2 lt.length c2] 26)
  have HF := Lib.hid (hf.below h2); have HT := Lib.hid (ht.below h2)
  have H2 := Lib.hid h2
  clear hf ht h2
  go_enter Tryd.func57, Tryd.ntmps57
  obtain ⟨p0, p1, p2⟩ := blk3 P0.out
  go_wp2_with fail
  refine (i_IsQuiver _ _ _ lf lt _ HF.out HT.out).mono ?_; rintro e w1 ⟨rfl, b1⟩
  have HB1 := Lib.hid (below_call H2.out b1 H2.out.size)
  have P1 := Lib.hid (P0.out.below b1)
  have HF1 := Lib.hid (HF.out.below b1); have HT1 := Lib.hid (HT.out.below b1)
  clear p0 p1 p2 b1
  cases hQ : isQ n lf lt
  · have HR := Lib.hid (show ordR n lf lt = [] ∧ ordOK n lf lt = false by simp [ordR, ordOK, hQ])
    go_wp2
    go_ret2
    exact IntsOK.of_eq ⟨_, rfl, Ints.nil _, FreshV.nil _, HB1.out⟩ HR.out.1.symm HR.out.2.symm
  obtain ⟨n1, n5⟩ := isQ_n' hQ
  obtain ⟨hlen, h6⟩ := isQ_len hQ
  have HLEN := Lib.hid hlen
  clear hlen
  obtain ⟨N, rfl⟩ := Int.eq_ofNat_of_zero_le (show 0 ≤ n by omega)
  have HR := Lib.hid (show ordOK N lf lt = ordGo lf lt N by simp [ordOK, hQ])
  have HR2 := Lib.hid (show ordR N lf lt = if ordGo lf lt N = true then ordL lf lt N N else [] by simp [ordR, ordOK, hQ])
  obtain ⟨B, hB⟩ : ∃ B, B = w1.heap.size := ⟨_, rfl⟩
  have HBq := Lib.hid hB
  have hBle : B ≤ w1.heap.size := by omega
  have HBw := Lib.hid (show w.heap.size ≤ B by have := HB1.out.size; omega)
  clear hB
  go_wp2
  go_loopw [4] (fun s wr => ∃ k, k ≤ N ∧ Own wr B 3 .i64 s (ordL lf lt N k) ∧ Below B w1 wr ∧ B ≤ wr.heap.size ∧ ∀ j, j < k → 0 ≤ nextV lf lt (ordL lf lt N j) N) (fun s _ => N - slLen s)
  case atStart => exact ⟨0, Nat.zero_le _, Own.nil _ _ _ _, Below.refl _ _, hBle, fun j hj => absurd hj (by omega)⟩
  case round =>
    obtain ⟨k, hk, hown, hbel, hBr, hall⟩ := hrel
    have HALL := Lib.hid hall
    have HO := Lib.hid hown; have HBel := Lib.hid hbel
    have hi := (Ints.of_own hown).1
    obtain ⟨aL, cL, hs, hlL, hmL⟩ := hi.shape
    rw [ordL_len] at hs hlL
    subst hs
    have hLl := ordL_len lf lt N k
    obtain ⟨L, hL⟩ : ∃ L, L = ordL lf lt N k := ⟨_, rfl⟩
    have HLq := Lib.hid hL
    rw [← hL] at hi hLl HO
    have hP := P1.out.belowB hbel (by have := P1.out.lt; have := HBq.out; omega)
    have HP := Lib.hid hP
    have HI := Lib.hid hi
    obtain ⟨p0, p1, p2⟩ := blk3 hP
    have HFr := Lib.hid (HF1.out.belowB hbel (fun q hq => by have := HF1.out.lt q hq; have := HBq.out; omega))
    have HTr := Lib.hid (HT1.out.belowB hbel (fun q hq => by have := HT1.out.lt q hq; have := HBq.out; omega))
    have HLl := Lib.hid hLl
    clear hown hbel hall hi hL
    by_cases hlt : k < N
    · have hltd : L.length < N := by omega
      go_wp2
      go_loopw [5, 6] (fun nx v wi => ∃ (d m : Nat) (y q : Int), d + m = N ∧ v = .int .i64 y ∧ y = (m : Int) - 1 ∧ nx = .int .i64 q ∧ q = pickD lf lt L N d ∧ Below wr.heap.size wr wi) (fun _ v _ => (intOf v + 1).toNat)
      case atStart => exact ⟨0, N, _, _, by omega, rfl, rfl, rfl, rfl, Below.refl _ _⟩
      case round =>
        obtain ⟨d, m, y, q, hdm, rfl, hy, rfl, hq, hbi⟩ := hrel
        have HPQ := Lib.hid hq; have HDM := Lib.hid hdm
        have HBI := Lib.hid hbi
        obtain ⟨p0, p1, p2⟩ := blk3 (HP.out.below hbi)
        have HIi := Lib.hid (HI.out.below hbi)
        have HFi := Lib.hid (HFr.out.below hbi); have HTi := Lib.hid (HTr.out.below hbi)
        clear hq hbi
        by_cases hm : 1 ≤ m
        · obtain ⟨m', rfl⟩ : ∃ m', m = m' + 1 := ⟨m - 1, by omega⟩
          have hy' : y = (m' : Int) := by omega
          have HD' := Lib.hid (show d + (m' + 1) = N from hdm)
          have hm'0 : (0 : Int) ≤ (m' : Int) := by omega
          have hm'5 : (m' : Int) ≤ 5 := by omega
          clear hy hdm HDM
          subst hy'
          cases hmem : memI m' L
          · go_wp2_with fail
            refine (Contains_ints _ L _ _ HIi.out).mono ?_; rintro e wz ⟨rfl, rfl⟩
            rw [hmem]
            go_wp2_with fail
            refine (i_isReady _ _ _ _ _ lf lt L _ HFi.out HTi.out HIi.out HLEN.out).mono ?_; rintro e w2 ⟨rfl, b2⟩
            have HB2 := Lib.hid (HBI.out.trans (b2.mono HBI.out.size))
            cases hrd : readyP lf lt L m' lt.length
            · have HC := Lib.hid (pickD_no HD'.out (show candP lf lt L m' = false by simp [candP, hrd]))
              go_wp2
              go_roundw
              case rel => exact ⟨d + 1, m', _, q, by have := HD'.out; omega, rfl, rfl, rfl, by rw [HC.out]; exact HPQ.out, HB2.out⟩
              case measure => simp [intOf]
            · have HC := Lib.hid (pickD_yes HD'.out (show candP lf lt L m' = true by simp [candP, hrd, hmem]))
              go_wp2
              go_roundw
              case rel => exact ⟨d + 1, m', _, _, by have := HD'.out; omega, rfl, rfl, rfl, HC.out.symm, HB2.out⟩
              case measure => simp [intOf]
          · have HC := Lib.hid (pickD_no HD'.out (show candP lf lt L m' = false by simp [candP, hmem]))
            go_wp2_with fail
            refine (Contains_ints _ L _ _ HIi.out).mono ?_; rintro e wz ⟨rfl, rfl⟩
            rw [hmem]
            go_wp2
            go_roundw
            case rel => exact ⟨d + 1, m', _, q, by have := HD'.out; omega, rfl, rfl, rfl, by rw [HC.out]; exact HPQ.out, HBI.out⟩
            case measure => simp [intOf]
        · have HNX := Lib.hid (show q = nextV lf lt L N by rw [HPQ.out, show d = N by omega]; rfl)
          have hy0 : decide (0 ≤ y) = false := by simp only [decide_eq_false_iff_not]; omega
          have HOi := Lib.hid (HO.out.below HBI.out)
          have HBeli := Lib.hid (HBel.out.trans (HBI.out.mono hBr))
          have hBi : B ≤ wr.heap.size := Nat.le_trans hBr HBI.out.size
          by_cases hq0 : q < 0
          · have HG := Lib.hid (ord_no (f := lf) (t := lt) hlt (show nextV lf lt (ordL lf lt N k) N < 0 by rw [← HLq.out, ← HNX.out]; exact hq0))
            have hqd : decide (q < 0) = true := by simpa using hq0
            clear hy
            go_wp2
            go_ret2
            exact IntsOK.of_eq ⟨_, rfl, Ints.nil _, FreshV.nil _, HB1.out.trans (HBeli.out.mono HBw.out)⟩ (by rw [HR2.out, HG.out]; rfl) (by rw [HR.out, HG.out])
          · have hqd : decide (q < 0) = false := by simpa using hq0
            clear hy
            go_wp2_with (at_builtin; refine app_int w1 wr rfl (.tmp 35) (.tmp 37) rfl B _ L rfl rfl HOi.out HBeli.out hBi (by have := HLl.out; omega) ?_)
            intro v' w' hown' hbel' hB'
            obtain ⟨a', c', rfl, _, _⟩ := (Ints.of_own hown').1.shape
            go_wp2
            go_roundw
            case rel => exact ⟨k + 1, by omega, by simp only [ordL]; rw [← HLq.out, ← HNX.out]; exact hown', hbel', hB', fun j hj => by
              by_cases h : j = k
              · rw [h, ← HLq.out, ← HNX.out]; omega
              · exact HALL.out j (by omega)⟩
            case measure => simp [slLen]; omega
    · have hkN : k = N := by omega
      have HG := Lib.hid (ord_yes (f := lf) (t := lt) (N := N) (fun j hj => HALL.out j (by omega)))
      have hd : decide (k < N) = false := by simp only [decide_eq_false_iff_not]; omega
      have HQ := Lib.hid (Ints.of_own HO.out)
      have HLN := Lib.hid (show L = ordL lf lt N N by rw [HLq.out, hkN])
      clear hkN
      go_wp2
      go_ret2
      exact IntsOK.of_eq ⟨_, rfl, HQ.out.1, HQ.out.2.mono HBw.out, HB1.out.trans (HBel.out.mono HBw.out)⟩ (by rw [HR2.out, HG.out, if_pos rfl, ← HLN.out]) (by rw [HR.out, HG.out])

def cJ (f t L : List Int) (v : Int) (j : Nat) : Bool := !memI v L && readyP f t L v j
theorem cJ_succ (f t L : List Int) (v : Int) (j : Nat) : cJ f t L v (j + 1) = (cJ f t L v j && (!(t.getD j 0 == v) || memI (f.getD j 0) L)) := by
  simp only [cJ, readyP, Bool.and_assoc]

set_option maxRecDepth 100000 in
set_option maxHeartbeats 4000000 in
theorem s_OrderOf_ok (N : Nat) (vf vt : Value) (lf lt : List Int) (w : World) (hf : Ints w vf lf) (ht : Ints w vt lt) (hQ : isQ N lf lt = true) :
    Calls Tryd.prog 54 #[.agg #[.int .i64 N, vf, vt]] w (IntsOK (ordR N lf lt) (ordOK N lf lt) w) := by
  have HLF := Lib.hid hf.lt; have HLT := Lib.hid ht.lt
  obtain ⟨a1, c1, rfl, hl1, hm1⟩ := hf.shape
  obtain ⟨a2, c2, rfl, hl2, hm2⟩ := ht.shape
  have h2 : Below w.heap.size w (w.alloc (.cells #[.int .i64 N, .slice a1 lf.length c1, .slice a2 lt.length c2] 26)) := (Below.refl _ w).alloc (Nat.le_refl _) _
  have P0 := Lib.hid (Blk.new w #[.int .i64 N, .slice a1 lf.length c1, .slice a2 lt.length c2] 26)
  have HF := Lib.hid (hf.below h2); have HT := Lib.hid (ht.below h2)
  have H2 := Lib.hid h2
  clear hf ht h2
  obtain ⟨W, hW⟩ : ∃ W, W = w.alloc (.cells #[.int .i64 N, .slice a1 lf.length c1, .slice a2 lt.length c2] 26) := ⟨_, rfl⟩
  obtain ⟨B, hB⟩ : ∃ B, B = w.heap.size + 1 := ⟨_, rfl⟩
  have hWs : W.heap.size = w.heap.size + 1 := by rw [hW]; simp
  have HWs := Lib.hid hWs
  rw [← hW] at P0 HF HT H2
  have HBw := Lib.hid (show w.heap.size + 1 ≤ B by omega); have HBW := Lib.hid (show B ≤ W.heap.size by omega)
  have HW := Lib.hid hW
  obtain ⟨n1, n5⟩ := isQ_n' hQ
  obtain ⟨hlen, h6⟩ := isQ_len hQ
  have HLEN := Lib.hid hlen
  have HQ := Lib.hid hQ
  have HR := Lib.hid (show ordOK N lf lt = ordGo lf lt N by simp [ordOK, hQ])
  have HR2 := Lib.hid (show ordR N lf lt = if ordGo lf lt N = true then ordL lf lt N N else [] by simp [ordR, ordOK, hQ])
  clear hW hB hWs hlen hQ
  go_enter Tryd.func54, Tryd.ntmps54
  go_wp2
  rw [← HW.out]
  go_loopw [4] (fun s wr => ∃ k, k ≤ N ∧ Own wr B 3 .i64 s (ordL lf lt N k) ∧ Below B W wr ∧ B ≤ wr.heap.size ∧ ∀ j, j < k → 0 ≤ nextV lf lt (ordL lf lt N j) N) (fun s _ => N - slLen s)
  case atStart => exact ⟨0, Nat.zero_le _, by rw [← HWs.out]; exact Own.made W _ _ HBW.out, (Below.refl B W).alloc HBW.out _, by have := HBW.out; simp; omega, fun j hj => absurd hj (by omega)⟩
  case round =>
    obtain ⟨k, hk, hown, hbel, hBr, hall⟩ := hrel
    have HALL := Lib.hid hall
    have hi := (Ints.of_own hown).1
    have HO := Lib.hid hown; have HBel := Lib.hid hbel
    obtain ⟨aL, cL, hs, hlL, hmL⟩ := hi.shape
    rw [ordL_len] at hs hlL
    subst hs
    have hLl := ordL_len lf lt N k
    obtain ⟨L, hL⟩ : ∃ L, L = ordL lf lt N k := ⟨_, rfl⟩
    have HLq := Lib.hid hL
    rw [← hL] at hi hLl HO
    have HLl := Lib.hid hLl
    have hP := P0.out.belowB hbel (by have := HBw.out; omega)
    have HP := Lib.hid hP
    have HI := Lib.hid hi
    have HFr := Lib.hid (HF.out.belowB hbel (fun q hq => by have := HLF.out q hq; have := HBw.out; omega))
    have HTr := Lib.hid (HT.out.belowB hbel (fun q hq => by have := HLT.out q hq; have := HBw.out; omega))
    clear hown hbel hall hi hL hLl
    obtain ⟨p0, p1, p2⟩ := blk3 hP
    clear hP
    go_wp2_with fail
    refine (s_IsQuiver _ _ _ lf lt _ HFr.out HTr.out).mono ?_; rintro e w1 ⟨rfl, b1⟩
    rw [HQ.out]
    have HO1 := Lib.hid (HO.out.below b1)
    have HBel1 := Lib.hid (HBel.out.trans (b1.mono hBr))
    have hBr1 : B ≤ w1.heap.size := Nat.le_trans hBr b1.size
    have HF1 := Lib.hid (HFr.out.below b1); have HT1 := Lib.hid (HTr.out.below b1); have HI1 := Lib.hid (HI.out.below b1)
    have HP1 := Lib.hid (HP.out.below b1)
    clear p0 p1 p2 b1
    obtain ⟨p0, p1, p2⟩ := blk3 HP1.out
    by_cases hlt : k < N
    · go_wp2
      go_loop [5, 6] (fun nx v => ∃ (d m : Nat) (y q : Int), d + m = N ∧ v = .int .i64 y ∧ y = (m : Int) - 1 ∧ nx = .int .i64 q ∧ q = pickD lf lt L N d) (fun _ v => (intOf v + 1).toNat)
      case atStart => exact ⟨0, N, _, _, by omega, rfl, rfl, rfl, rfl⟩
      case round =>
        obtain ⟨d, m, y, q, hdm, rfl, hy, rfl, hq⟩ := hrel
        have HPQ := Lib.hid hq; have HDM := Lib.hid hdm
        clear hq
        by_cases hm : 1 ≤ m
        · obtain ⟨m', rfl⟩ : ∃ m', m = m' + 1 := ⟨m - 1, by omega⟩
          have hy' : y = (m' : Int) := by omega
          have HD' := Lib.hid (show d + (m' + 1) = N from hdm)
          have hm'0 : (0 : Int) ≤ (m' : Int) := by omega
          have hm'5 : (m' : Int) ≤ 5 := by omega
          clear hy hdm HDM
          subst hy'
          go_wp2_with fail
          refine (s_l4Has _ L _ _ HI1.out).mono ?_; rintro e wz ⟨rfl, rfl⟩
          obtain ⟨b0, hb0⟩ : ∃ b0, b0 = memI (m' : Int) L := ⟨_, rfl⟩
          rw [← hb0]
          have HB0 := Lib.hid (show (!b0) = cJ lf lt L m' 0 by rw [hb0]; simp [cJ, readyP])
          clear hb0
          go_wp2
          go_loop [7, 8] (fun r i => ∃ (j : Nat) (b : Bool), j ≤ lf.length ∧ i = .int .i64 j ∧ r = .bool b ∧ b = cJ lf lt L m' j) (fun _ i => lf.length - (intOf i).toNat)
          case atStart => exact ⟨0, _, Nat.zero_le _, rfl, rfl, HB0.out⟩
          case round =>
            obtain ⟨j, b, hj, rfl, rfl, hb⟩ := hrel
            have HB := Lib.hid hb
            clear hb
            by_cases hjl : j < lf.length
            · have hjt : j < lt.length := by have := HLEN.out; omega
              obtain ⟨g, off, hg, hgs, hc, _⟩ := HF1.out.cell hjl
              obtain ⟨g', off', hg', hgs', hc', _⟩ := HT1.out.cell hjt
              subst hg; subst hg'
              obtain ⟨z, hz⟩ := elem_name lf j
              obtain ⟨y, hy⟩ := elem_name lt j
              rw [hz] at hc
              rw [hy] at hc'
              have HS := Lib.hid (show cJ lf lt L m' (j + 1) = (b && (!(y == (m' : Int)) || memI z L)) by rw [cJ_succ, ← HB.out, hy, hz])
              clear hz hy
              cases b
              · have HN := Lib.hid (show false = cJ lf lt L m' (j + 1) by rw [HS.out]; rfl)
                go_wp2
                go_round
                case rel => exact ⟨j + 1, _, by omega, by go_num, rfl, HN.out⟩
                case measure => simp [intOf]; omega
              · by_cases hyx : y = (m' : Int)
                · have hb' : (y != (m' : Int)) = false := by simpa using hyx
                  have hbe : (y == (m' : Int)) = true := by simpa using hyx
                  obtain ⟨b2, hb2⟩ : ∃ b2, b2 = memI z L := ⟨_, rfl⟩
                  have HN := Lib.hid (show b2 = cJ lf lt L m' (j + 1) by rw [HS.out, hbe, hb2]; simp)
                  have HB2 := Lib.hid hb2
                  clear hyx hbe hb2
                  go_wp2_with fail
                  refine (s_l4Has _ L _ _ HI1.out).mono ?_; rintro e wz ⟨rfl, rfl⟩
                  rw [← HB2.out]
                  go_wp2
                  go_round
                  case rel => exact ⟨j + 1, _, by omega, by go_num, rfl, HN.out⟩
                  case measure => simp [intOf]; omega
                · have hb' : (y != (m' : Int)) = true := by simpa using hyx
                  have hbe : (y == (m' : Int)) = false := by simpa using hyx
                  have HN := Lib.hid (show true = cJ lf lt L m' (j + 1) by rw [HS.out, hbe]; rfl)
                  clear hyx hbe
                  go_wp2
                  go_round
                  case rel => exact ⟨j + 1, _, by omega, by go_num, rfl, HN.out⟩
                  case measure => simp [intOf]; omega
            · have HC := Lib.hid (show b = candP lf lt L m' by rw [HB.out, show j = lt.length by have := HLEN.out; omega]; rfl)
              cases b
              · have HE := Lib.hid (pickD_no HD'.out HC.out.symm)
                go_wp2
                go_round
                case rel => exact ⟨d + 1, m', _, q, by have := HD'.out; omega, rfl, rfl, rfl, by rw [HE.out]; exact HPQ.out⟩
                case measure => simp [intOf]
              · have HE := Lib.hid (pickD_yes HD'.out HC.out.symm)
                go_wp2
                go_round
                case rel => exact ⟨d + 1, m', _, _, by have := HD'.out; omega, rfl, rfl, rfl, HE.out.symm⟩
                case measure => simp [intOf]
        · have HNX := Lib.hid (show q = nextV lf lt L N by rw [HPQ.out, show d = N by omega]; rfl)
          have hy0 : decide (0 ≤ y) = false := by simp only [decide_eq_false_iff_not]; omega
          clear hdm
          by_cases hq0 : q < 0
          · have HG := Lib.hid (ord_no (f := lf) (t := lt) hlt (show nextV lf lt (ordL lf lt N k) N < 0 by rw [← HLq.out, ← HNX.out]; exact hq0))
            have hqd : decide (q < 0) = true := by simpa using hq0
            have HM := Lib.hid (Ints.of_own (Own.made w1 (B := w1.heap.size) 3 .i64 (Nat.le_refl _)))
            have HBm := Lib.hid ((Below.refl w1.heap.size w1).alloc (Nat.le_refl _) (.cells #[] 3))
            clear hy
            go_wp2
            go_ret2
            exact IntsOK.of_eq ⟨_, rfl, HM.out.1, HM.out.2.mono (by have := HBw.out; omega), H2.out.trans ((HBel1.out.trans (HBm.out.mono hBr1)).mono (by have := HBw.out; omega))⟩ (by rw [HR2.out, HG.out]; rfl) (by rw [HR.out, HG.out])
          · have hqd : decide (q < 0) = false := by simpa using hq0
            clear hy
            go_wp2_with (at_builtin; refine app_int W w1 rfl (.tmp 61) (.tmp 63) rfl B _ L rfl rfl HO1.out HBel1.out hBr1 (by have := HLl.out; omega) ?_)
            intro v' w' hown' hbel' hB'
            obtain ⟨a', c', rfl, _, _⟩ := (Ints.of_own hown').1.shape
            go_wp2
            go_roundw
            case rel => exact ⟨k + 1, by omega, by simp only [ordL]; rw [← HLq.out, ← HNX.out]; exact hown', hbel', hB', fun j hj => by
              by_cases h : j = k
              · rw [h, ← HLq.out, ← HNX.out]; omega
              · exact HALL.out j (by omega)⟩
            case measure => simp [slLen]; have := HLl.out; omega
    · have hkN : k = N := by omega
      have HG := Lib.hid (ord_yes (f := lf) (t := lt) (N := N) (fun j hj => HALL.out j (by omega)))
      have hd : decide (k < N) = false := by simp only [decide_eq_false_iff_not]; omega
      have HLN := Lib.hid (show L = ordL lf lt N N by rw [HLq.out, hkN])
      clear hkN
      go_wp2_with fail
      refine (s_IsQuiver _ _ _ lf lt _ HF1.out HT1.out).mono ?_; rintro e w2 ⟨rfl, b2⟩
      rw [HQ.out]
      have HO2 := Lib.hid (Ints.of_own (HO1.out.below b2))
      have HBel2 := Lib.hid (HBel1.out.trans (b2.mono hBr1))
      clear b2
      go_wp2
      go_ret2
      exact IntsOK.of_eq ⟨_, rfl, HO2.out.1, HO2.out.2.mono (by have := HBw.out; omega), H2.out.trans (HBel2.out.mono (by have := HBw.out; omega))⟩ (by rw [HR2.out, HG.out, if_pos rfl, ← HLN.out]) (by rw [HR.out, HG.out])

set_option maxRecDepth 100000 in
set_option maxHeartbeats 2000000 in
theorem s_OrderOf_no (n : Int) (vf vt : Value) (lf lt : List Int) (w : World) (hf : Ints w vf lf) (ht : Ints w vt lt) (hQ : isQ n lf lt = false) :
    Calls Tryd.prog 54 #[.agg #[.int .i64 n, vf, vt]] w (IntsOK (ordR n lf lt) (ordOK n lf lt) w) := by
  have HLF := Lib.hid hf.lt; have HLT := Lib.hid ht.lt
  obtain ⟨a1, c1, rfl, hl1, hm1⟩ := hf.shape
  obtain ⟨a2, c2, rfl, hl2, hm2⟩ := ht.shape
  have h2 : Below w.heap.size w (w.alloc (.cells #[.int .i64 n, .slice a1 lf.length c1, .slice a2 lt.length c2] 26)) := (Below.refl _ w).alloc (Nat.le_refl _) _
  have P0 := Lib.hid (Blk.new w #[.int .i64 n, .slice a1 lf.length c1, .slice a2 lt.length c2] 26)
  have HF := Lib.hid (hf.below h2); have HT := Lib.hid (ht.below h2)
  have H2 := Lib.hid h2
  clear hf ht h2
  obtain ⟨W, hW⟩ : ∃ W, W = w.alloc (.cells #[.int .i64 n, .slice a1 lf.length c1, .slice a2 lt.length c2] 26) := ⟨_, rfl⟩
  obtain ⟨B, hB⟩ : ∃ B, B = w.heap.size + 1 := ⟨_, rfl⟩
  have hWs : W.heap.size = w.heap.size + 1 := by rw [hW]; simp
  have HWs := Lib.hid hWs
  rw [← hW] at P0 HF HT H2
  have HBw := Lib.hid (show w.heap.size + 1 ≤ B by omega); have HBW := Lib.hid (show B ≤ W.heap.size by omega)
  have HW := Lib.hid hW
  have HQ := Lib.hid hQ
  have HR := Lib.hid (show ordR n lf lt = [] ∧ ordOK n lf lt = false by simp [ordR, ordOK, hQ])
  clear hW hB hWs hQ
  go_enter Tryd.func54, Tryd.ntmps54
  go_wp2
  rw [← HW.out]
  go_loopw [4] (fun s wr => Own wr B 3 .i64 s [] ∧ Below B W wr ∧ B ≤ wr.heap.size) (fun _ _ => 0)
  case atStart => exact ⟨by rw [← HWs.out]; exact Own.made W _ _ HBW.out, (Below.refl B W).alloc HBW.out _, by have := HBW.out; simp; omega⟩
  case round =>
    obtain ⟨hown, hbel, hBr⟩ := hrel
    have HO := Lib.hid hown; have HBel := Lib.hid hbel
    have hP := P0.out.belowB hbel (by have := HBw.out; omega)
    have HP := Lib.hid hP
    have HFr := Lib.hid (HF.out.belowB hbel (fun q hq => by have := HLF.out q hq; have := HBw.out; omega))
    have HTr := Lib.hid (HT.out.belowB hbel (fun q hq => by have := HLT.out q hq; have := HBw.out; omega))
    clear hown hbel
    obtain ⟨p0, p1, p2⟩ := blk3 hP
    clear hP
    go_wp2_with fail
    refine (s_IsQuiver _ _ _ lf lt _ HFr.out HTr.out).mono ?_; rintro e w1 ⟨rfl, b1⟩
    rw [HQ.out]
    have HO1 := Lib.hid (HO.out.below b1)
    have HBel1 := Lib.hid (HBel.out.trans (b1.mono hBr))
    have hBr1 : B ≤ w1.heap.size := Nat.le_trans hBr b1.size
    have HF1 := Lib.hid (HFr.out.below b1); have HT1 := Lib.hid (HTr.out.below b1)
    have HP1 := Lib.hid (HP.out.below b1)
    clear p0 p1 p2 b1
    obtain ⟨p0, p1, p2⟩ := blk3 HP1.out
    go_wp2_with fail
    refine (s_IsQuiver _ _ _ lf lt _ HF1.out HT1.out).mono ?_; rintro e w2 ⟨rfl, b2⟩
    rw [HQ.out]
    have HO2 := Lib.hid (Ints.of_own (HO1.out.below b2))
    have HBel2 := Lib.hid (HBel1.out.trans (b2.mono hBr1))
    clear b2
    go_wp2
    go_ret2
    exact IntsOK.of_eq ⟨_, rfl, HO2.out.1, HO2.out.2.mono (by have := HBw.out; omega), H2.out.trans (HBel2.out.mono (by have := HBw.out; omega))⟩ HR.out.1.symm HR.out.2.symm
theorem s_OrderOf (n : Int) (vf vt : Value) (lf lt : List Int) (w : World) (hf : Ints w vf lf) (ht : Ints w vt lt) :
    Calls Tryd.prog 54 #[.agg #[.int .i64 n, vf, vt]] w (IntsOK (ordR n lf lt) (ordOK n lf lt) w) := by
  cases hQ : isQ n lf lt
  · exact s_OrderOf_no n vf vt lf lt w hf ht hQ
  · obtain ⟨n1, n5⟩ := isQ_n' hQ
    obtain ⟨N, rfl⟩ := Int.eq_ofNat_of_zero_le (show 0 ≤ n by omega)
    exact s_OrderOf_ok N vf vt lf lt w hf ht hQ

set_option maxRecDepth 100000 in
set_option maxHeartbeats 1000000 in
theorem i_IsAcyclic (n : Int) (vf vt : Value) (lf lt : List Int) (w : World) (hf : Ints w vf lf) (ht : Ints w vt lt) :
    Calls Tryd.prog 37 #[.agg #[.int .i64 n, vf, vt]] w (BoolAnsB (ordOK n lf lt) w) := by
  obtain ⟨a1, c1, rfl, hl1, hm1⟩ := hf.shape
  obtain ⟨a2, c2, rfl, hl2, hm2⟩ := ht.shape
  have h2 : Below w.heap.size w (w.alloc (.cells #[.int .i64 n, .slice a1 lf.length c1, .slice a2 lt.length c2] 26)) := (Below.refl _ w).alloc (Nat.le_refl _) _
  have P0 := Lib.hid (Blk.new w #[.int .i64 n, .slice a1 lf.length c1, .slice a2 lt.length c2] 26)
  have HF := Lib.hid (hf.below h2); have HT := Lib.hid (ht.below h2)
  have H2 := Lib.hid h2
  clear hf ht h2
  go_enter Tryd.func37, Tryd.ntmps37
  obtain ⟨p0, p1, p2⟩ := blk3 P0.out
  go_wp2_with fail
  refine (i_OrderOf _ _ _ lf lt _ HF.out HT.out).mono ?_; rintro e w1 ⟨v, rfl, hv, hfr, b1⟩
  have HB1 := Lib.hid (below_call H2.out b1 H2.out.size)
  clear p0 p1 p2 b1 hv hfr
  go_wp2
  go_ret
  exact ⟨rfl, HB1.out⟩

set_option maxRecDepth 100000 in
set_option maxHeartbeats 1000000 in
theorem s_IsAcyclic (n : Int) (vf vt : Value) (lf lt : List Int) (w : World) (hf : Ints w vf lf) (ht : Ints w vt lt) :
    Calls Tryd.prog 30 #[.agg #[.int .i64 n, vf, vt]] w (BoolAnsB (ordOK n lf lt) w) := by
  obtain ⟨a1, c1, rfl, hl1, hm1⟩ := hf.shape
  obtain ⟨a2, c2, rfl, hl2, hm2⟩ := ht.shape
  have h2 : Below w.heap.size w (w.alloc (.cells #[.int .i64 n, .slice a1 lf.length c1, .slice a2 lt.length c2] 26)) := (Below.refl _ w).alloc (Nat.le_refl _) _
  have P0 := Lib.hid (Blk.new w #[.int .i64 n, .slice a1 lf.length c1, .slice a2 lt.length c2] 26)
  have HF := Lib.hid (hf.below h2); have HT := Lib.hid (ht.below h2)
  have H2 := Lib.hid h2
  clear hf ht h2
  go_enter Tryd.func30, Tryd.ntmps30
  obtain ⟨p0, p1, p2⟩ := blk3 P0.out
  go_wp2_with fail
  refine (s_OrderOf _ _ _ lf lt _ HF.out HT.out).mono ?_; rintro e w1 ⟨v, rfl, hv, hfr, b1⟩
  have HB1 := Lib.hid (below_call H2.out b1 H2.out.size)
  clear p0 p1 p2 b1 hv hfr
  go_wp2
  go_ret
  exact ⟨rfl, HB1.out⟩

end Go.Proofs.YtndooeffjkofdaaDoor
