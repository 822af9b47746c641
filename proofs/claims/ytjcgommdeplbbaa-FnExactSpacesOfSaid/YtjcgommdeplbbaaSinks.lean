/- Sources and sinks, of the program and of the reference; the search of the slices package for one number. -/
import Derived.Test.YtjcgommdeplbbaaIsQuiv
namespace Go.Proofs.Ytjcgommdeplbbaa
open Go.RowKit
set_option linter.unusedVariables false
set_option linter.unusedSimpArgs false

/-- the number stands in the list -/
def memI (x : Int) (l : List Int) : Bool := l.any fun y => x == y
theorem memI_hit {x : Int} {l : List Int} {j : Nat} (hj : j < l.length) (h : l.getD j 0 = x) : memI x l = true := by
  unfold memI
  rw [List.any_eq_true]
  have e : l[j] = x := by simpa [List.getD, hj] using h
  exact ⟨l[j], List.getElem_mem hj, by simp [e]⟩
theorem memI_no {x : Int} {l : List Int} (h : ∀ j, j < l.length → (x == l.getD j 0) = false) : memI x l = false := by
  unfold memI
  rw [List.any_eq_false]
  intro y hy
  obtain ⟨j, hj, rfl⟩ := List.mem_iff_getElem.1 hy
  have := h j hj
  simpa [List.getD, hj] using this
/-- the numbers below k that do not stand in the list -/
def freeP (l : List Int) : Nat → List Int
  | 0 => []
  | k + 1 => if memI k l = true then freeP l k else freeP l k ++ [(k : Int)]
theorem freeP_len (l : List Int) (k : Nat) : (freeP l k).length ≤ k := by
  induction k with
  | zero => simp [freeP]
  | succ k ih => 
    simp only [freeP]
    split
    · omega
    · rw [List.length_append]; simp; omega
theorem freeP_in {l : List Int} {k : Nat} (h : memI k l = true) : freeP l (k + 1) = freeP l k := by simp [freeP, h]
theorem freeP_out {l : List Int} {k : Nat} (h : memI k l = false) : freeP l (k + 1) = freeP l k ++ [(k : Int)] := by simp [freeP, h]


set_option maxRecDepth 100000 in
set_option maxHeartbeats 400000 in
theorem Index_ints (v : Value) (l : List Int) (x : Int) (w : World) (hv : Ints w v l) :
    Calls Try.prog 52 #[v, .int .i64 x] w (IntAns (findI (fun y => x == y) l) w) := by
  obtain ⟨a, cap, rfl, hlc, hcm⟩ := hv.shape
  go_enter Try.func52, Try.ntmps52
  go_wp2
  go_loop [8] (fun i => ∃ k : Nat, k ≤ l.length ∧ i = .int .i64 k ∧ ∀ j, j < k → (x == l.getD j 0) = false) (fun i => l.length - (intOf i).toNat)
  case atStart => exact ⟨0, Nat.zero_le _, rfl, fun j hj => absurd hj (by omega)⟩
  case round =>
    obtain ⟨k, hk, rfl, hno⟩ := hrel
    have HN := Lib.hid hno; clear hno
    by_cases hlt : k < l.length
    · obtain ⟨g, off, rfl, hgs, hc, hf⟩ := hv.cell hlt
      obtain ⟨y, hy⟩ := elem_named l k
      rw [hy] at hc
      have HY := Lib.hid hy; clear hy
      by_cases hq : (x == y) = true
      · have HQ := Lib.hid (findI_hit (f := fun y => x == y) hlt HN.out (by rw [HY.out]; exact hq))
        go_wp2
        go_ret
        exact ⟨ret_int HQ.out.symm, rfl⟩
      · have hq : (x == y) = false := by simpa using hq
        have HQ := Lib.hid hq
        go_wp2
        go_round
        case rel => exact ⟨k + 1, by omega, by go_num, fun j hj => by
          by_cases h : j = k
          · rw [h, HY.out]; exact HQ.out
          · exact HN.out j (by omega)⟩
        case measure => simp [intOf]; omega
    · go_wp2
      go_ret
      exact ⟨ret_int (findI_none (f := fun y => x == y) (fun j hj => HN.out j (by omega))).symm, rfl⟩

set_option maxRecDepth 100000 in
set_option maxHeartbeats 400000 in
theorem Contains_ints (v : Value) (l : List Int) (x : Int) (w : World) (hv : Ints w v l) :
    Calls Try.prog 42 #[v, .int .i64 x] w (BoolAns (memI x l) w) := by
  obtain ⟨a, cap, rfl, hlc, hcm⟩ := hv.shape
  go_enter Try.func42, Try.ntmps42
  go_wp2_with fail
  refine (Index_ints _ l _ _ hv).mono ?_; rintro e wz ⟨rfl, rfl⟩
  have HA := Lib.hid (findI_any (fun y => x == y) l)
  generalize findI (fun y => x == y) l = q at HA
  by_cases hq : 0 ≤ q
  · have hd : decide (0 ≤ q) = true := by simpa using hq
    rw [hd] at HA
    go_wp2
    go_ret
    exact ⟨ret_bool HA.out, rfl⟩
  · have hd : decide (0 ≤ q) = false := by simpa using hq
    rw [hd] at HA
    go_wp2
    go_ret
    exact ⟨ret_bool HA.out, rfl⟩

set_option maxRecDepth 100000 in
set_option maxHeartbeats 1000000 in
theorem i_freeColumns (n : Nat) (v : Value) (l : List Int) (w : World) (hv : Ints w v l) (hn : n ≤ 64) :
    Calls Try.prog 24 #[.int .i64 n, v] w (IntsNew (freeP l n) w) := by
  have HLT := Lib.hid hv.lt
  obtain ⟨a, cap, rfl, hlc, hcm⟩ := hv.shape
  have HV := Lib.hid hv
  clear hv
  obtain ⟨B, hB⟩ : ∃ B, B = w.heap.size := ⟨_, rfl⟩
  have HB := Lib.hid hB
  have hBw : B ≤ w.heap.size := by omega
  clear hB
  go_enter Try.func24, Try.ntmps24
  go_wp2
  go_loopw [5, 8] (fun s i wr => ∃ (k : Nat), k ≤ n ∧ i = .int .i64 k ∧ Own wr B 3 .i64 s (freeP l k) ∧ Below B w wr ∧ B ≤ wr.heap.size) (fun _ i _ => n - (intOf i).toNat)
  case atStart => exact ⟨0, Nat.zero_le _, rfl, Own.nil _ _ _ _, Below.refl _ _, hBw⟩
  case round =>
    obtain ⟨k, hk, rfl, hown, hbel, hBr⟩ := hrel
    have HO := Lib.hid hown; have HBel := Lib.hid hbel
    by_cases hlt : k < n
    · have hfl := freeP_len l k
      have HV1 := Lib.hid (HV.out.belowB hbel (fun q hq => by rw [HB.out]; exact HLT.out q hq))
      cases hm : memI k l
      · have HM := Lib.hid (freeP_out hm)
        clear hown hbel
        go_wp2_with fail
        refine (Contains_ints _ l _ _ HV1.out).mono ?_; rintro e wz ⟨rfl, rfl⟩
        go_wp2_with (at_builtin; refine app_int w wr rfl (.tmp 15) (.tmp 17) rfl B _ (freeP l k) rfl rfl HO.out HBel.out hBr (by omega) ?_)
        intro v' w' hown' hbel' hB'
        go_wp2
        go_roundw
        case rel => exact ⟨k + 1, by omega, by go_num, by rw [HM.out]; exact hown', hbel', hB'⟩
        case measure => simp [intOf]; omega
      · have HM := Lib.hid (freeP_in hm)
        clear hown hbel
        go_wp2_with fail
        refine (Contains_ints _ l _ _ HV1.out).mono ?_; rintro e wz ⟨rfl, rfl⟩
        go_wp2
        go_roundw
        case rel => exact ⟨k + 1, by omega, by go_num, by rw [HM.out]; exact HO.out, HBel.out, hBr⟩
        case measure => simp [intOf]; omega
    · have hke : k = n := by omega
      clear hown hbel
      go_wp2
      go_ret
      obtain ⟨hi, hf⟩ := Ints.of_own HO.out
      exact ⟨_, rfl, by rw [← hke]; exact hi, by rw [← HB.out]; exact hf, by rw [← HB.out]; exact HBel.out⟩

/-- the vertices that do not stand among the ends given -/
def endsQ (n : Int) (f t l : List Int) : List Int := if isQ n f t = true then freeP l n.toNat else []
theorem endsQ_len (n : Int) (f t l : List Int) : (endsQ n f t l).length ≤ 5 := by
  unfold endsQ
  split
  · rename_i h
    unfold isQ at h
    simp only [Bool.and_eq_true] at h
    have h1 := inR_true h.1.1.1.1
    have := freeP_len l n.toNat
    omega
  · simp
theorem isQ_n' {n : Int} {f t : List Int} (h : isQ n f t = true) : 1 ≤ n ∧ n ≤ 5 := by
  unfold isQ at h
  simp only [Bool.and_eq_true] at h
  exact inR_true h.1.1.1.1





end Go.Proofs.Ytjcgommdeplbbaa
