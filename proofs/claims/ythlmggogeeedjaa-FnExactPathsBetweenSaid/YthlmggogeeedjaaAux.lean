/- The laws' own helpers on slices of integers: toIntS, eqIntS, markIntS, heldIntS, szIntS. -/
import Derived.Test.YthlmggogeeedjaaMem
import Derived.BigQuiet
import Derived.Deep.QuietTactic
namespace Go.Proofs.Ythlmggogeeedjaa
open Go.RowKit
set_option linter.unusedVariables false
set_option linter.unusedSimpArgs false

/-- a slice of integers that came in: it can be read -/
def Raw (w : World) (v : Value) (l : List Int) : Prop :=
  ∃ a cap, v = .slice a l.length cap ∧ l.length ≤ cap ∧ cap ≤ 9223372036854775807 ∧
    (l = [] ∨ ∃ b off, a = some ⟨b, off, none⟩ ∧ b < w.heap.size ∧ ∀ i, i < l.length → w.cell? ⟨b, off + i, none⟩ = some (.int .i64 (l.getD i 0)))
theorem Raw.shape {w : World} {v : Value} {l : List Int} (h : Raw w v l) : ∃ a cap, v = .slice a l.length cap ∧ l.length ≤ cap ∧ cap ≤ 9223372036854775807 := by
  obtain ⟨a, cap, rfl, h1, h2, _⟩ := h; exact ⟨a, cap, rfl, h1, h2⟩
theorem Raw.below {w w' : World} {v : Value} {l : List Int} (h : Raw w v l) (b : Below w.heap.size w w') : Raw w' v l := by
  obtain ⟨a, cap, rfl, h1, h2, h3 | ⟨g, off, rfl, hb, hc⟩⟩ := h
  · exact ⟨a, cap, rfl, h1, h2, .inl h3⟩
  · exact ⟨_, cap, rfl, h1, h2, .inr ⟨g, off, rfl, Nat.lt_of_lt_of_le hb b.size, fun i hi => by rw [b.cell (p := ⟨g, off + i, none⟩) hb]; exact hc i hi⟩⟩
theorem Raw.drew {w : World} {v : Value} {l : List Int} (h : Raw w v l) : Raw w.drew v l := h
theorem Raw.cell {w : World} {a : Option Addr} {n cap : Nat} {l : List Int} (h : Raw w (.slice a n cap) l) {i : Nat} (hi : i < l.length) :
    ∃ b off, a = some ⟨b, off, none⟩ ∧ b < w.heap.size ∧ w.cell? ⟨b, off + i, none⟩ = some (.int .i64 (l.getD i 0)) := by
  obtain ⟨a', cap', e, h1, h2, h3⟩ := h
  simp only [Value.slice.injEq] at e
  obtain ⟨rfl, rfl, rfl⟩ := e
  rcases h3 with rfl | ⟨g, off, rfl, hg, hc⟩
  · simp at hi
  · exact ⟨g, off, rfl, hg, hc i hi⟩

/-- a value of integers made by a call: it reads as l, its elements lie in new blocks -/
def IntsNew (l : List Int) (w : World) (e : Ending) (w' : World) : Prop := ∃ v, e = .returned v ∧ Ints w' v l ∧ FreshV w.heap.size v ∧ Below w.heap.size w w'

theorem elem_name (l : List Int) (k : Nat) : ∃ x, l.getD k 0 = x := ⟨_, rfl⟩

set_option maxRecDepth 100000 in
set_option maxHeartbeats 400000 in
theorem l_toIntS (v : Value) (l : List Int) (w : World) (hv : Raw w v l) (hl : l.length ≤ 1048576) :
    Calls Try.prog 18 #[v] w (IntsNew l w) := by
  obtain ⟨a, cap, rfl, hlc, hcm⟩ := hv.shape
  obtain ⟨B, hB⟩ : ∃ B, B = w.heap.size := ⟨_, rfl⟩
  have HB := Lib.hid hB
  have hB1 : B ≤ w.heap.size := by omega
  clear hB
  go_enter Try.func18, Try.ntmps18
  go_wp2_with (at_make; refine mk_ints w w rfl (.tmp 6) (.tmp 6) rfl B l.length rfl rfl (Below.refl _ _) hB1 (by omega) ?_)
  intro w1 hown hbel hB2
  go_wp2
  go_loopw [4] (fun i wr => ∃ k : Nat, k ≤ l.length ∧ i = .int .i64 k ∧ Own wr B 3 .i64 (.slice (some ⟨w.heap.size, 0, none⟩) l.length l.length) (l.take k ++ List.replicate (l.length - k) 0) ∧ Below B w wr) (fun i _ => l.length - (intOf i).toNat)
  case atStart => exact ⟨0, Nat.zero_le _, rfl, by simpa using hown, hbel⟩
  case round =>
    obtain ⟨k, hk, rfl, hown, hbel⟩ := hrel
    by_cases hlt : k < l.length
    · obtain ⟨g, hg, hBg, hgs, hcl, hfr⟩ := (Own.at hown).2.2 (by omega)
      obtain rfl : g = w.heap.size := by simpa using hg.symm
      obtain ⟨b, off, rfl, hbs, hc⟩ := hv.cell hlt
      rw [← hbel.cell (p := ⟨b, off + k, none⟩) (by rw [HB.out]; exact hbs)] at hc
      obtain ⟨x, hx⟩ := elem_name l k
      rw [hx] at hc
      have hc1 := hcl k hlt
      have hf1 := hfr k
      have hset := set_fill l l.length k rfl hlt x hx
      have hst := Own.store hown k x
      rw [hset] at hst
      have HST := Lib.hid hst
      clear hcl hfr hg hset hst hx
      go_wp2
      go_roundw
      case rel => exact ⟨k + 1, by omega, by go_num, HST.out, hbel.setCell hBg _⟩
      case measure => simp [intOf]; omega
    · have hk' : k = l.length := by omega
      rw [hk', fill_done _ _ rfl] at hown
      have hq := Lib.hid (Ints.of_own hown)
      have HK := Lib.hid hk'; clear hk'
      go_wp2
      go_ret
      have hb := hbel.mono (show w.heap.size ≤ B by rw [HB.out]; exact Nat.le_refl _)
      exact ⟨_, rfl, hq.out.1, hq.out.2.mono (by rw [HB.out]; exact Nat.le_refl _), hb⟩

theorem list_eq_of {la lb : List Int} (hn : la.length = lb.length) (h : ∀ j, j < la.length → la.getD j 0 = lb.getD j 0) : la = lb := by
  apply List.ext_getElem hn
  intro i h1 h2
  have := h i h1
  simpa [List.getD, h1, h2] using this

set_option maxRecDepth 100000 in
set_option maxHeartbeats 400000 in
theorem l_eqIntS (a b : Value) (la lb : List Int) (w : World) (ha : Ints w a la) (hb : Ints w b lb) :
    Calls Try.prog 23 #[a, b] w (BoolAnsB (decide (la = lb)) w) := by
  obtain ⟨a, cap, rfl, hlc, hcm⟩ := ha.shape
  obtain ⟨b, cap', rfl, hlc', hcm'⟩ := hb.shape
  by_cases hn : la.length = lb.length
  · have HN := Lib.hid hn
    have hnb : ((la.length : Int) != (lb.length : Int)) = false := by simp only [bne_eq_false_iff_eq]; omega
    have hnl : la.length ≤ lb.length := by omega
    clear hn
    go_enter Try.func23, Try.ntmps23
    go_wp2
    go_loopw [5] (fun i wr => ∃ k : Nat, k ≤ la.length ∧ i = .int .i64 k ∧ (∀ j, j < k → la.getD j 0 = lb.getD j 0) ∧ Below w.heap.size w wr) (fun i _ => la.length - (intOf i).toNat)
    case atStart => exact ⟨0, Nat.zero_le _, rfl, fun j hj => absurd hj (by omega), Below.refl _ _⟩
    case round =>
      obtain ⟨k, hk, rfl, hno, hbel⟩ := hrel
      have HE := Lib.hid hno; clear hno
      by_cases hlt : k < la.length
      · obtain ⟨g, off, rfl, hgs, hc, _⟩ := ha.cell hlt
        obtain ⟨g', off', rfl, hgs', hc', _⟩ := hb.cell (show k < lb.length by omega)
        rw [← hbel.cell (p := ⟨g, off + k, none⟩) hgs] at hc
        rw [← hbel.cell (p := ⟨g', off' + k, none⟩) hgs'] at hc'
        obtain ⟨x, hx⟩ := elem_name la k
        obtain ⟨y, hy⟩ := elem_name lb k
        rw [hx] at hc
        rw [hy] at hc'
        have HX := Lib.hid hx; have HY := Lib.hid hy; clear hx hy
        by_cases hq : x = y
        · have hqb : (x != y) = false := by simp [hq]
          have HQ := Lib.hid hq; clear hq
          have hk0 : (0 : Int) ≤ (k : Int) := by omega
          have hk1 : (k : Int) < (la.length : Int) := by omega
          have hk2 : (k : Int) < (lb.length : Int) := by omega
          go_wp2
          go_quiet (fail)
          go_wp2
          go_roundw
          case rel => exact ⟨k + 1, by omega, by go_num, fun j hj => by
            by_cases h : j = k
            · rw [h, HX.out, HY.out]; exact HQ.out
            · exact HE.out j (by omega), below_drewN hbel _⟩
          case measure => simp [intOf]; omega
        · have hqb : (x != y) = true := by simpa using hq
          have HQ := Lib.hid hq; clear hq
          have hk0 : (0 : Int) ≤ (k : Int) := by omega
          have hk1 : (k : Int) < (la.length : Int) := by omega
          have hk2 : (k : Int) < (lb.length : Int) := by omega
          go_wp2
          go_quiet (fail)
          go_wp2
          go_ret
          exact ⟨ret_bool (by rw [eq_comm]; simp only [decide_eq_false_iff_not]; exact fun h => HQ.out (by rw [← HX.out, ← HY.out, h])), below_drewN hbel _⟩
      · go_wp2
        go_ret
        exact ⟨ret_bool (by rw [eq_comm]; simp only [decide_eq_true_eq]; exact list_eq_of HN.out (fun j hj => HE.out j (by omega))), hbel⟩
  · have HV : Hid (decide (la = lb) = false) := by unfold Hid; simp; exact fun h => hn (by rw [h])
    have hnb : ((la.length : Int) != (lb.length : Int)) = true := by simp only [bne_iff_ne]; omega
    clear hn
    go_enter Try.func23, Try.ntmps23
    go_wp2
    go_ret
    exact ⟨ret_bool HV.out.symm, Below.refl _ _⟩

/-- what came in, as the form's reading of a slice of integers gives it -/
theorem Raw.mk {W : World} {x : Addr} {l c : Nat} {zs : List Int} (hl : l ≤ c) (hm : c ≤ maxLen) (hz : zs.length = c)
    (hcell : ∀ i, i < zs.length → W.cell? (x.add i) = some (.int .i64 (zs.getD i 0))) : Raw W (.slice (some x) l c) (zs.take l) := by
  have hlen : (zs.take l).length = l := by rw [List.length_take]; omega
  refine ⟨some x, c, by rw [hlen], by omega, by simpa [maxLen] using hm, ?_⟩
  by_cases h0 : l = 0
  · left; simp [h0]
  · right
    obtain ⟨b, off, spot⟩ := x
    have hc0 := hcell 0 (by omega)
    obtain rfl : spot = none := by simpa [Addr.add] using World.cell?_spot hc0
    have hadd : ∀ i, (⟨b, off, none⟩ : Addr).add i = ⟨b, off + i, none⟩ := fun i => by unfold Addr.add; split <;> simp_all
    rw [hadd] at hc0
    refine ⟨b, off, rfl, World.block_lt_of_cell? W _ hc0, fun i hi => ?_⟩
    have h := hcell i (by omega)
    rw [hadd] at h
    rw [h]
    congr 2
    simp [List.getD, show i < l by omega]
theorem Raw.nil (W : World) : Raw W (.slice none 0 0) [] := ⟨none, 0, rfl, Nat.le_refl _, by omega, .inl rfl⟩
/-- what int64 holds -/
def Bd (l : List Int) : Prop := ∀ x ∈ l, -9223372036854775808 ≤ x ∧ x ≤ 9223372036854775807
theorem wf_i64 {n : Int} (h : (Lit.int .i64 n).wf = true) : -9223372036854775808 ≤ n ∧ n ≤ 9223372036854775807 := by
  simpa [Lit.wf, IntKind.min, IntKind.max, IntKind.bits, IntKind.signed] using h
theorem Bd.of_wf {zs : List Int} {l : Nat} (h : ∀ n ∈ zs, (Lit.int .i64 n).wf = true) : Bd (zs.take l) := fun x hx => wf_i64 (h x (List.mem_of_mem_take hx))
theorem Bd.nil : Bd [] := fun x hx => by simp at hx

/-- k, k + 1, .., n numbers -/
def marks (k : Int) (n : Nat) : List Int := (List.range n).map fun (i : Nat) => k + (i : Int)
theorem marks_len (k : Int) (n : Nat) : (marks k n).length = n := by simp [marks]
theorem marks_get (k : Int) (n i : Nat) (h : i < n) : (marks k n).getD i 0 = k + i := by simp [marks, List.getD, h]
theorem marks_step (k : Int) (l : List Int) (j : Nat) (hj : j < l.length) : (marks k j ++ l.drop j).set j (k + j) = marks k (j + 1) ++ l.drop (j + 1) := by
  have e : marks k (j + 1) = marks k j ++ [k + j] := by simp [marks, List.range_succ]
  rw [List.drop_eq_getElem_cons hj, List.set_append_right _ _ (by rw [marks_len]; exact Nat.le_refl _), marks_len, Nat.sub_self, List.set_cons_zero, e, List.append_assoc]
  rfl
theorem marks_done (k : Int) (l : List Int) : marks k l.length ++ l.drop l.length = marks k l.length := by simp

/-- the slice is written with k, k + 1, ..; nothing else turns -/
def MarkAns (v : Value) (l : List Int) (k : Int) (w : World) (e : Ending) (w' : World) : Prop :=
  e = .returned (.int .i64 (k + l.length)) ∧ Ints w' v (marks k l.length) ∧ Chg (fun b => blk v = some b) w w'

set_option maxRecDepth 100000 in
set_option maxHeartbeats 400000 in
theorem l_markIntS (v : Value) (l : List Int) (k : Int) (w : World) (hv : Ints w v l) (hk0 : 0 ≤ k) (hk1 : k + l.length ≤ 4611686018427387904) :
    Calls Try.prog 24 #[v, .int .i64 k] w (MarkAns v l k w) := by
  have hv0 := hv
  obtain ⟨a, cap, rfl, hlc, hcm⟩ := hv.shape
  have HV := Lib.hid hv0; clear hv0 hv
  go_enter Try.func24, Try.ntmps24
  go_wp2
  go_loopw [1, 5] (fun kk i wr => ∃ j : Nat, j ≤ l.length ∧ i = .int .i64 j ∧ kk = .int .i64 (k + j) ∧ Ints wr (.slice a l.length cap) (marks k j ++ l.drop j) ∧ Chg (fun b => blk (.slice a l.length cap) = some b) w wr) (fun _ i _ => l.length - (intOf i).toNat)
  case atStart => exact ⟨0, Nat.zero_le _, rfl, by simp, by simpa [marks] using HV.out, Chg.refl _ _⟩
  case round =>
    obtain ⟨j, hj, rfl, rfl, hv, hch⟩ := hrel
    by_cases hlt : j < l.length
    · have hlen : j < (marks k j ++ l.drop j).length := by rw [List.length_append, marks_len, List.length_drop]; omega
      obtain ⟨g, off, rfl, hgs, hc, hf⟩ := hv.cell hlen
      obtain ⟨hst, hb⟩ := hv.set hlen (k + j)
      rw [marks_step k l j hlt] at hst
      have HST := Lib.hid hst
      have HB := Lib.hid hb
      clear hst hb hv hlen
      go_wp2
      go_roundw
      case rel => exact ⟨j + 1, by omega, by go_num, by go_num, HST.out, hch.setCell HB.out _⟩
      case measure => simp [intOf]; omega
    · have hj' : j = l.length := by omega
      have HR : Hid (Ints wr (.slice a l.length cap) (marks k l.length) ∧ k + (j : Int) = k + l.length) := ⟨by rw [hj', marks_done] at hv; exact hv, by rw [hj']⟩
      clear hv hj'
      go_wp2
      go_ret
      exact ⟨ret_int HR.out.2, HR.out.1, hch⟩

set_option maxRecDepth 100000 in
set_option maxHeartbeats 400000 in
theorem l_heldIntS (v : Value) (n : Nat) (k : Int) (w : World) (hv : Ints w v (marks k n)) (hk0 : 0 ≤ k) (hk1 : k + n ≤ 4611686018427387904) :
    Calls Try.prog 25 #[v, .int .i64 k] w (IntAns (k + n) w) := by
  obtain ⟨a, cap, e, hlc, hcm⟩ := hv.shape
  rw [marks_len] at e hlc
  subst e
  go_enter Try.func25, Try.ntmps25
  go_wp2
  go_loop [1, 5] (fun kk i => ∃ j : Nat, j ≤ n ∧ i = .int .i64 j ∧ kk = .int .i64 (k + j)) (fun _ i => n - (intOf i).toNat)
  case atStart => exact ⟨0, Nat.zero_le _, rfl, by simp⟩
  case round =>
    obtain ⟨j, hj, rfl, rfl⟩ := hrel
    by_cases hlt : j < n
    · obtain ⟨g, off, rfl, hgs, hc, hf⟩ := hv.cell (i := j) (by rw [marks_len]; exact hlt)
      rw [marks_get k n j hlt] at hc
      have hqb : ((k + (j : Int)) != (k + (j : Int))) = false := by simp
      go_wp2
      go_round
      case rel => exact ⟨j + 1, by omega, by go_num, by go_num⟩
      case measure => simp [intOf]; omega
    · obtain rfl : j = n := by omega
      go_wp2
      go_ret
      exact ⟨rfl, rfl⟩

/-- what is left of a size -/
def szI (left : Int) (l : List Int) : Int := if left < l.length then -1 else left - l.length
set_option maxRecDepth 100000 in
set_option maxHeartbeats 400000 in
theorem l_szIntS (v : Value) (l : List Int) (left : Int) (w : World) (hv : Raw w v l) (h0 : 0 ≤ left) (h1 : left ≤ 1048576) :
    Calls Try.prog 13 #[v, .int .i64 left] w (IntAns (szI left l) w) := by
  obtain ⟨a, cap, rfl, hlc, hcm⟩ := hv.shape
  by_cases hlt : left < l.length
  · have HE := Lib.hid (show szI left l = -1 from if_pos hlt)
    go_enter Try.func13, Try.ntmps13
    go_wp2
    go_ret
    exact ⟨ret_int HE.out.symm, rfl⟩
  · have HE := Lib.hid (show szI left l = left - l.length from if_neg hlt)
    go_enter Try.func13, Try.ntmps13
    go_wp2
    go_ret
    exact ⟨ret_int HE.out.symm, rfl⟩

end Go.Proofs.Ythlmggogeeedjaa
