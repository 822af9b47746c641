/- IsVector, of the program and of the reference; the search of the slices package that it goes through. The laws' own helpers on slices of integers: toIntS, eqIntS, markIntS, heldIntS, szIntS. slices.Clone and addMultiple at integers. That values made one after the other lie in blocks of their own. -/
import Derived.Test.YtjcgommdeplbbaaMg1
import Derived.BigQuiet
import Derived.Deep.QuietTactic
import Derived.Deep.AppendLies
import Derived.Deep.RegionHeld3
namespace Go.Proofs.Ytjcgommdeplbbaa
open Go.RowKit
set_option linter.unusedVariables false
set_option linter.unusedSimpArgs false

def okV (p : Int) (l : List Int) : Bool := l.all fun x => inR x 0 (p - 1)
def isV (p : Int) (l : List Int) : Bool := isF p && decide (l.length ≤ 64) && okV p l

theorem okV_of {p : Int} {l : List Int} (h : ∀ j, j < l.length → inR (l.getD j 0) 0 (p - 1) = true) : okV p l = true := by
  unfold okV
  rw [List.all_eq_true]
  intro x hx
  obtain ⟨j, hj, rfl⟩ := List.mem_iff_getElem.1 hx
  simpa [List.getD, hj] using h j hj
theorem okV_no {p : Int} {l : List Int} {j : Nat} (hj : j < l.length) (h : inR (l.getD j 0) 0 (p - 1) = false) : okV p l = false := by
  unfold okV
  rw [List.all_eq_false]
  exact ⟨l[j], List.getElem_mem hj, by simpa [List.getD, hj] using h⟩
theorem isV_noF {p : Int} {l : List Int} (h : isF p = false) : isV p l = false := by simp [isV, h]
theorem isV_noL {p : Int} {l : List Int} (h : 64 < l.length) : isV p l = false := by simp [isV, show ¬ l.length ≤ 64 by omega]
theorem isV_ok {p : Int} {l : List Int} (h : isF p = true) (hl : l.length ≤ 64) : isV p l = okV p l := by simp [isV, h, hl]

/-- the element of a list, under a name of its own -/
theorem elem_named (l : List Int) (k : Nat) : ∃ x, l.getD k 0 = x := ⟨_, rfl⟩

set_option maxRecDepth 100000 in
set_option maxHeartbeats 400000 in
theorem s_IsVector (p : Int) (v : Value) (l : List Int) (w : World) (hv : Ints w v l) :
    Calls Try.prog 50 #[.int .i64 p, v] w (BoolAns (isV p l) w) := by
  obtain ⟨a, cap, rfl, hlc, hcm⟩ := hv.shape
  by_cases hF : isF p = true
  · by_cases hL : l.length ≤ 64
    · have HV := Lib.hid (isV_ok hF hL)
      have hp5 : 2 ≤ p ∧ p ≤ 5 := by have := isF_cases hF; omega
      obtain ⟨hp2, hp5⟩ := hp5
      have hd : decide ((64 : Int) < (l.length : Int)) = false := by simp; omega
      have hd' : decide (64 < l.length) = false := by simp; omega
      go_enter Try.func50, Try.ntmps50
      go_wp2_with fail
      refine (s_IsField _ _).mono ?_; rintro e w' ⟨rfl, rfl⟩
      go_wp2
      go_loop [5] (fun i => ∃ k : Nat, k ≤ l.length ∧ i = .int .i64 k ∧ ∀ j, j < k → inR (l.getD j 0) 0 (p - 1) = true) (fun i => l.length - (intOf i).toNat)
      case atStart => exact ⟨0, Nat.zero_le _, rfl, fun j hj => absurd hj (by omega)⟩
      case round =>
        obtain ⟨k, hk, rfl, hno⟩ := hrel
        have HN := Lib.hid hno; clear hno
        by_cases hlt : k < l.length
        · obtain ⟨g, off, rfl, hgs, hc, hf⟩ := hv.cell hlt
          obtain ⟨x, hx⟩ := elem_named l k
          rw [hx] at hc
          have HX := Lib.hid hx; clear hx
          by_cases hq : inR x 0 (p - 1) = true
          · go_wp2_with fail
            refine (s_l1In _ _ _ _).mono ?_; rintro e w' ⟨rfl, rfl⟩
            go_wp2
            go_round
            case rel => exact ⟨k + 1, by omega, by go_num, fun j hj => by
              by_cases h : j = k
              · rw [h, HX.out]; exact hq
              · exact HN.out j (by omega)⟩
            case measure => simp [intOf]; omega
          · have hq : inR x 0 (p - 1) = false := by simpa using hq
            go_wp2_with fail
            refine (s_l1In _ _ _ _).mono ?_; rintro e w' ⟨rfl, rfl⟩
            go_wp2
            go_ret
            exact ⟨ret_bool (by rw [HV.out, okV_no hlt (by rw [HX.out]; exact hq)]), rfl⟩
        · go_wp2
          go_ret
          exact ⟨ret_bool (by rw [HV.out, okV_of (fun j hj => HN.out j (by omega))]), rfl⟩
    · have HV := Lib.hid (isV_noL (p := p) (l := l) (by omega))
      go_enter Try.func50, Try.ntmps50
      go_wp2_with fail
      refine (s_IsField _ _).mono ?_; rintro e w' ⟨rfl, rfl⟩
      go_wp2
      go_ret
      exact ⟨ret_bool HV.out.symm, rfl⟩
  · have hF : isF p = false := by simpa using hF
    have HV := Lib.hid (isV_noF (l := l) hF)
    go_enter Try.func50, Try.ntmps50
    go_wp2_with fail
    refine (s_IsField _ _).mono ?_; rintro e w' ⟨rfl, rfl⟩
    go_wp2
    go_ret
    exact ⟨ret_bool HV.out.symm, rfl⟩

/-- the place of the first number with a property, or -1 -/
def findI (f : Int → Bool) (l : List Int) : Int := match l.findIdx? f with | some i => (i : Int) | none => -1
theorem findI_hit {f : Int → Bool} {l : List Int} {k : Nat} (hk : k < l.length) (h : ∀ j, j < k → f (l.getD j 0) = false) (hq : f (l.getD k 0) = true) : findI f l = k := by
  unfold findI
  have : l.findIdx? f = some k := by
    rw [List.findIdx?_eq_some_iff_getElem]
    refine ⟨hk, by simpa [List.getD, hk] using hq, fun j hj => ?_⟩
    have := h j hj
    simpa [List.getD, show j < l.length by omega] using this
  rw [this]
theorem findI_none {f : Int → Bool} {l : List Int} (h : ∀ j, j < l.length → f (l.getD j 0) = false) : findI f l = -1 := by
  unfold findI
  have : l.findIdx? f = none := by
    rw [List.findIdx?_eq_none_iff]
    intro x hx
    obtain ⟨j, hj, rfl⟩ := List.mem_iff_getElem.1 hx
    simpa [List.getD, hj] using h j hj
  rw [this]
theorem findI_any (f : Int → Bool) (l : List Int) : decide (0 ≤ findI f l) = l.any f := by
  unfold findI
  cases h : l.findIdx? f with
  | none =>
    rw [List.findIdx?_eq_none_iff] at h
    have : l.any f = false := by rw [List.any_eq_false]; simpa using h
    rw [this]; rfl
  | some i =>
    rw [List.findIdx?_eq_some_iff_getElem] at h
    obtain ⟨hi, h, _⟩ := h
    have : l.any f = true := by rw [List.any_eq_true]; exact ⟨_, List.getElem_mem hi, h⟩
    rw [this]; simp




end Go.Proofs.Ytjcgommdeplbbaa

namespace Go.Proofs.Ytjcgommdeplbbaa
open Go.RowKit
set_option linter.unusedVariables false
set_option linter.unusedSimpArgs false

/-- a slice of integers that came in: it can be read -/
def Raw (w : World) (v : Value) (l : List Int) : Prop :=
  ∃ a cap, v = .slice a l.length cap ∧ l.length ≤ cap ∧ cap ≤ 9223372036854775807 ∧
    (l = [] ∨ ∃ b off, a = some ⟨b, off, none⟩ ∧ b < w.heap.size ∧ ∀ i, i < l.length → w.cell? ⟨b, off + i, none⟩ = some (.int .i64 (l.getD i 0)))
theorem Raw.shape {w : World} {v : Value} {l : List Int} (h : Raw w v l) : ∃ a cap, v = .slice a l.length cap ∧ l.length ≤ cap ∧ cap ≤ 9223372036854775807 := by
  obtain ⟨a, cap, rfl, h1, h2, _⟩ := h; exact ⟨a, cap, rfl, h1, h2⟩
theorem Raw.below {w w' : World} {v : Value} {l : List Int} (h : Raw w v l) (b : Below w.heap.size w w') : Raw w' v l := by
  obtain ⟨a, cap, rfl, h1, h2, h3 | ⟨g, off, rfl, hb, hc⟩⟩ := h
  · exact ⟨a, cap, rfl, h1, h2, .inl h3⟩
  · exact ⟨_, cap, rfl, h1, h2, .inr ⟨g, off, rfl, Nat.lt_of_lt_of_le hb b.size, fun i hi => by rw [b.cell (p := ⟨g, off + i, none⟩) hb]; exact hc i hi⟩⟩
theorem Raw.drew {w : World} {v : Value} {l : List Int} (h : Raw w v l) : Raw w.drew v l := h
theorem Raw.cell {w : World} {a : Option Addr} {n cap : Nat} {l : List Int} (h : Raw w (.slice a n cap) l) {i : Nat} (hi : i < l.length) :
    ∃ b off, a = some ⟨b, off, none⟩ ∧ b < w.heap.size ∧ w.cell? ⟨b, off + i, none⟩ = some (.int .i64 (l.getD i 0)) := by
  obtain ⟨a', cap', e, h1, h2, h3⟩ := h
  simp only [Value.slice.injEq] at e
  obtain ⟨rfl, rfl, rfl⟩ := e
  rcases h3 with rfl | ⟨g, off, rfl, hg, hc⟩
  · simp at hi
  · exact ⟨g, off, rfl, hg, hc i hi⟩

/-- a value of integers made by a call: it reads as l, its elements lie in new blocks -/
def IntsNew (l : List Int) (w : World) (e : Ending) (w' : World) : Prop := ∃ v, e = .returned v ∧ Ints w' v l ∧ FreshV w.heap.size v ∧ Below w.heap.size w w'

theorem elem_name (l : List Int) (k : Nat) : ∃ x, l.getD k 0 = x := ⟨_, rfl⟩


theorem list_eq_of {la lb : List Int} (hn : la.length = lb.length) (h : ∀ j, j < la.length → la.getD j 0 = lb.getD j 0) : la = lb := by
  apply List.ext_getElem hn
  intro i h1 h2
  have := h i h1
  simpa [List.getD, h1, h2] using this

set_option maxRecDepth 100000 in
set_option maxHeartbeats 400000 in
theorem l_eqIntS (a b : Value) (la lb : List Int) (w : World) (ha : Ints w a la) (hb : Ints w b lb) :
    Calls Try.prog 49 #[a, b] w (BoolAnsB (decide (la = lb)) w) := by
  obtain ⟨a, cap, rfl, hlc, hcm⟩ := ha.shape
  obtain ⟨b, cap', rfl, hlc', hcm'⟩ := hb.shape
  by_cases hn : la.length = lb.length
  · have HN := Lib.hid hn
    have hnb : ((la.length : Int) != (lb.length : Int)) = false := by simp only [bne_eq_false_iff_eq]; omega
    have hnl : la.length ≤ lb.length := by omega
    clear hn
    go_enter Try.func49, Try.ntmps49
    go_wp2
    go_loopw [5] (fun i wr => ∃ k : Nat, k ≤ la.length ∧ i = .int .i64 k ∧ (∀ j, j < k → la.getD j 0 = lb.getD j 0) ∧ Below w.heap.size w wr) (fun i _ => la.length - (intOf i).toNat)
    case atStart => exact ⟨0, Nat.zero_le _, rfl, fun j hj => absurd hj (by omega), Below.refl _ _⟩
    case round =>
      obtain ⟨k, hk, rfl, hno, hbel⟩ := hrel
      have HE := Lib.hid hno; clear hno
      by_cases hlt : k < la.length
      · obtain ⟨g, off, rfl, hgs, hc, _⟩ := ha.cell hlt
        obtain ⟨g', off', rfl, hgs', hc', _⟩ := hb.cell (show k < lb.length by omega)
        rw [← hbel.cell (p := ⟨g, off + k, none⟩) hgs] at hc
        rw [← hbel.cell (p := ⟨g', off' + k, none⟩) hgs'] at hc'
        obtain ⟨x, hx⟩ := elem_name la k
        obtain ⟨y, hy⟩ := elem_name lb k
        rw [hx] at hc
        rw [hy] at hc'
        have HX := Lib.hid hx; have HY := Lib.hid hy; clear hx hy
        by_cases hq : x = y
        · have hqb : (x != y) = false := by simp [hq]
          have HQ := Lib.hid hq; clear hq
          have hk0 : (0 : Int) ≤ (k : Int) := by omega
          have hk1 : (k : Int) < (la.length : Int) := by omega
          have hk2 : (k : Int) < (lb.length : Int) := by omega
          go_wp2
          go_quiet (fail)
          go_wp2
          go_roundw
          case rel => exact ⟨k + 1, by omega, by go_num, fun j hj => by
            by_cases h : j = k
            · rw [h, HX.out, HY.out]; exact HQ.out
            · exact HE.out j (by omega), below_drewN hbel _⟩
          case measure => simp [intOf]; omega
        · have hqb : (x != y) = true := by simpa using hq
          have HQ := Lib.hid hq; clear hq
          have hk0 : (0 : Int) ≤ (k : Int) := by omega
          have hk1 : (k : Int) < (la.length : Int) := by omega
          have hk2 : (k : Int) < (lb.length : Int) := by omega
          go_wp2
          go_quiet (fail)
          go_wp2
          go_ret
          exact ⟨ret_bool (by rw [eq_comm]; simp only [decide_eq_false_iff_not]; exact fun h => HQ.out (by rw [← HX.out, ← HY.out, h])), below_drewN hbel _⟩
      · go_wp2
        go_ret
        exact ⟨ret_bool (by rw [eq_comm]; simp only [decide_eq_true_eq]; exact list_eq_of HN.out (fun j hj => HE.out j (by omega))), hbel⟩
  · have HV : Hid (decide (la = lb) = false) := by unfold Hid; simp; exact fun h => hn (by rw [h])
    have hnb : ((la.length : Int) != (lb.length : Int)) = true := by simp only [bne_iff_ne]; omega
    clear hn
    go_enter Try.func49, Try.ntmps49
    go_wp2
    go_ret
    exact ⟨ret_bool HV.out.symm, Below.refl _ _⟩

/-- what came in, as the form's reading of a slice of integers gives it -/
theorem Raw.mk {W : World} {x : Addr} {l c : Nat} {zs : List Int} (hl : l ≤ c) (hm : c ≤ maxLen) (hz : zs.length = c)
    (hcell : ∀ i, i < zs.length → W.cell? (x.add i) = some (.int .i64 (zs.getD i 0))) : Raw W (.slice (some x) l c) (zs.take l) := by
  have hlen : (zs.take l).length = l := by rw [List.length_take]; omega
  refine ⟨some x, c, by rw [hlen], by omega, by simpa [maxLen] using hm, ?_⟩
  by_cases h0 : l = 0
  · left; simp [h0]
  · right
    obtain ⟨b, off, spot⟩ := x
    have hc0 := hcell 0 (by omega)
    obtain rfl : spot = none := by simpa [Addr.add] using World.cell?_spot hc0
    have hadd : ∀ i, (⟨b, off, none⟩ : Addr).add i = ⟨b, off + i, none⟩ := fun i => by unfold Addr.add; split <;> simp_all
    rw [hadd] at hc0
    refine ⟨b, off, rfl, World.block_lt_of_cell? W _ hc0, fun i hi => ?_⟩
    have h := hcell i (by omega)
    rw [hadd] at h
    rw [h]
    congr 2
    simp [List.getD, show i < l by omega]
theorem Raw.nil (W : World) : Raw W (.slice none 0 0) [] := ⟨none, 0, rfl, Nat.le_refl _, by omega, .inl rfl⟩
/-- what int64 holds -/
def Bd (l : List Int) : Prop := ∀ x ∈ l, -9223372036854775808 ≤ x ∧ x ≤ 9223372036854775807
theorem wf_i64 {n : Int} (h : (Lit.int .i64 n).wf = true) : -9223372036854775808 ≤ n ∧ n ≤ 9223372036854775807 := by
  simpa [Lit.wf, IntKind.min, IntKind.max, IntKind.bits, IntKind.signed] using h
theorem Bd.of_wf {zs : List Int} {l : Nat} (h : ∀ n ∈ zs, (Lit.int .i64 n).wf = true) : Bd (zs.take l) := fun x hx => wf_i64 (h x (List.mem_of_mem_take hx))
theorem Bd.nil : Bd [] := fun x hx => by simp at hx

/-- k, k + 1, .., n numbers -/
def marks (k : Int) (n : Nat) : List Int := (List.range n).map fun (i : Nat) => k + (i : Int)
theorem marks_len (k : Int) (n : Nat) : (marks k n).length = n := by simp [marks]
theorem marks_get (k : Int) (n i : Nat) (h : i < n) : (marks k n).getD i 0 = k + i := by simp [marks, List.getD, h]
theorem marks_step (k : Int) (l : List Int) (j : Nat) (hj : j < l.length) : (marks k j ++ l.drop j).set j (k + j) = marks k (j + 1) ++ l.drop (j + 1) := by
  have e : marks k (j + 1) = marks k j ++ [k + j] := by simp [marks, List.range_succ]
  rw [List.drop_eq_getElem_cons hj, List.set_append_right _ _ (by rw [marks_len]; exact Nat.le_refl _), marks_len, Nat.sub_self, List.set_cons_zero, e, List.append_assoc]
  rfl
theorem marks_done (k : Int) (l : List Int) : marks k l.length ++ l.drop l.length = marks k l.length := by simp

/-- the slice is written with k, k + 1, ..; nothing else turns -/
def MarkAns (v : Value) (l : List Int) (k : Int) (w : World) (e : Ending) (w' : World) : Prop :=
  e = .returned (.int .i64 (k + l.length)) ∧ Ints w' v (marks k l.length) ∧ Chg (fun b => blk v = some b) w w'

set_option maxRecDepth 100000 in
set_option maxHeartbeats 400000 in
theorem l_markIntS (v : Value) (l : List Int) (k : Int) (w : World) (hv : Ints w v l) (hk0 : 0 ≤ k) (hk1 : k + l.length ≤ 4611686018427387904) :
    Calls Try.prog 36 #[v, .int .i64 k] w (MarkAns v l k w) := by
  have hv0 := hv
  obtain ⟨a, cap, rfl, hlc, hcm⟩ := hv.shape
  have HV := Lib.hid hv0; clear hv0 hv
  go_enter Try.func36, Try.ntmps36
  go_wp2
  go_loopw [1, 5] (fun kk i wr => ∃ j : Nat, j ≤ l.length ∧ i = .int .i64 j ∧ kk = .int .i64 (k + j) ∧ Ints wr (.slice a l.length cap) (marks k j ++ l.drop j) ∧ Chg (fun b => blk (.slice a l.length cap) = some b) w wr) (fun _ i _ => l.length - (intOf i).toNat)
  case atStart => exact ⟨0, Nat.zero_le _, rfl, by simp, by simpa [marks] using HV.out, Chg.refl _ _⟩
  case round =>
    obtain ⟨j, hj, rfl, rfl, hv, hch⟩ := hrel
    by_cases hlt : j < l.length
    · have hlen : j < (marks k j ++ l.drop j).length := by rw [List.length_append, marks_len, List.length_drop]; omega
      obtain ⟨g, off, rfl, hgs, hc, hf⟩ := hv.cell hlen
      obtain ⟨hst, hb⟩ := hv.set hlen (k + j)
      rw [marks_step k l j hlt] at hst
      have HST := Lib.hid hst
      have HB := Lib.hid hb
      clear hst hb hv hlen
      go_wp2
      go_roundw
      case rel => exact ⟨j + 1, by omega, by go_num, by go_num, HST.out, hch.setCell HB.out _⟩
      case measure => simp [intOf]; omega
    · have hj' : j = l.length := by omega
      have HR : Hid (Ints wr (.slice a l.length cap) (marks k l.length) ∧ k + (j : Int) = k + l.length) := ⟨by rw [hj', marks_done] at hv; exact hv, by rw [hj']⟩
      clear hv hj'
      go_wp2
      go_ret
      exact ⟨ret_int HR.out.2, HR.out.1, hch⟩

set_option maxRecDepth 100000 in
set_option maxHeartbeats 400000 in
theorem l_heldIntS (v : Value) (n : Nat) (k : Int) (w : World) (hv : Ints w v (marks k n)) (hk0 : 0 ≤ k) (hk1 : k + n ≤ 4611686018427387904) :
    Calls Try.prog 37 #[v, .int .i64 k] w (IntAns (k + n) w) := by
  obtain ⟨a, cap, e, hlc, hcm⟩ := hv.shape
  rw [marks_len] at e hlc
  subst e
  go_enter Try.func37, Try.ntmps37
  go_wp2
  go_loop [1, 5] (fun kk i => ∃ j : Nat, j ≤ n ∧ i = .int .i64 j ∧ kk = .int .i64 (k + j)) (fun _ i => n - (intOf i).toNat)
  case atStart => exact ⟨0, Nat.zero_le _, rfl, by simp⟩
  case round =>
    obtain ⟨j, hj, rfl, rfl⟩ := hrel
    by_cases hlt : j < n
    · obtain ⟨g, off, rfl, hgs, hc, hf⟩ := hv.cell (i := j) (by rw [marks_len]; exact hlt)
      rw [marks_get k n j hlt] at hc
      have hqb : ((k + (j : Int)) != (k + (j : Int))) = false := by simp
      go_wp2
      go_round
      case rel => exact ⟨j + 1, by omega, by go_num, by go_num⟩
      case measure => simp [intOf]; omega
    · obtain rfl : j = n := by omega
      go_wp2
      go_ret
      exact ⟨rfl, rfl⟩

/-- what is left of a size -/
def szI (left : Int) (l : List Int) : Int := if left < l.length then -1 else left - l.length

end Go.Proofs.Ytjcgommdeplbbaa

namespace Go.Proofs.Ytjcgommdeplbbaa
open Go.RowKit
set_option linter.unusedVariables false
set_option linter.unusedSimpArgs false

/-- append of a slice that reads as ls to one that the call owns -/
theorem app_src {ops : Array Oper} {rest : List Oper} {o : Oper} {a : Act} {Q : Exit → Act → World → Prop} (w0 w : World) (hgd : o.guard = none) (s x : Operand)
    (ho : o.op = .call { callee := .builtin .append, args := #[s, x], argTypes := #[37, 37] }) (B : Nat) (v : Value) (l ls : List Int) (ad : Addr) (m c : Nat)
    (hs : a.eval s = v) (hx : a.eval x = .slice (some ad) m c) (hsrc : Ints w (.slice (some ad) m c) ls) (hown : Own w B 3 .i64 v l) (hbel : Below B w0 w) (hB : B ≤ w.heap.size) (hl : l.length + ls.length ≤ 17592186044416)
    (hK : ∀ v' w', Own w' B 3 .i64 v' (l ++ ls) → Below B w0 w' → B ≤ w'.heap.size → wpList Try.prog ops Q rest (a.put o.dst v') w') :
    wpList Try.prog ops Q (o :: rest) a w := by
  obtain ⟨i, hi, h0, h1, h2⟩ := info_parts infoInt
  obtain ⟨a1, c1, e, hlc, hcm, hcells⟩ := hsrc
  simp only [Value.slice.injEq] at e
  obtain ⟨rfl, rfl, rfl⟩ := e
  refine wpList_append_own w hgd s x 37 ho B 3 i (.int .i64 0) 1 8 Try.underlying37 hi h0 h1 h2 rfl (by decide) v l.length (l.map (Value.int .i64)) hs hown
    ad ls.length c (ls.map (Value.int .i64)) hx (by simp) ?_ (ints_oneCell _ _) (by unfold maxLen; omega) (by omega) hB ?_
  · intro j u hj
    rcases hcells with rfl | ⟨g, off, cur, e, hg, hs, hc⟩
    · simp at hj
    · simp only [Option.some.injEq] at e
      subst e
      have hjl : j < ls.length := by
        rcases Nat.lt_or_ge j ls.length with h | h
        · exact h
        · simp [List.getElem?_eq_none (show (ls.map (Value.int .i64)).length ≤ j by simpa using h)] at hj
      have hadd : (⟨g, off, none⟩ : Addr).add j = ⟨g, off + j, none⟩ := by unfold Addr.add; split <;> simp_all
      rw [hadd, cell_of_row w g _ cur _ _ hg, hc j hjl, ← hj]
      simp [List.getD, hjl]
  · intro v' w' ho' hg _
    have hb : Below B w0 w' := hbel.grown hg (by omega) (fun k hk => (World.ownsRow.lt hown k hk).1)
    refine hK v' w' ?_ hb ?_
    · unfold Own; simpa using ho'
    · have := hg.size; omega

/-- inside a region that draws its order: append of the one new element of the block just made -/
theorem step_app_int {ops : Array Oper} {o : Oper} {a : Act} {K : Act → World → Prop} {Q : Exit → Act → World → Prop} {E : Prop} {c : Int} (w0 w : World) (hgd : o.guard = none) (s x : Operand)
    (ho : o.op = .call { callee := .builtin .append, args := #[s, x], argTypes := #[37, 37] }) (B : Nat) (v : Value) (l : List Int)
    (hs : a.eval s = v) (hx : a.eval x = .slice (some ⟨w.heap.size, 0, none⟩) 1 1) (hown : Own w B 3 .i64 v l) (hbel : Below B w0 w) (hB : B ≤ w.heap.size) (hl : l.length + 1 ≤ 17592186044416)
    (hK : ∀ v' w', Own w' B 3 .i64 v' (l ++ [c]) → Below B w0 w' → B ≤ w'.heap.size → K (a.put o.dst v') w') :
    if Region.wanted o (yielded ops a.tmps) = true then Oper.wp Try.prog o a (w.alloc (.cells #[.int .i64 c] 3)).drew K Q else E := by
  obtain ⟨i, hi, h0, h1, h2⟩ := info_parts infoInt
  refine step_append_lies _ hgd s x 37 ho B 3 i (.int .i64 0) 1 8 Try.underlying37 hi h0 h1 h2 rfl (by decide) v l.length (l.map (Value.int .i64)) hs ((World.ownsRow.alloc hown _).drew)
    ⟨w.heap.size, 0, none⟩ 1 1 [.int .i64 c] hx rfl (news_cells w _ [.int .i64 c]) (ints_oneCell .i64 [c]) (by decide) (by unfold maxLen; omega) (by omega) (by simp; omega) _ rfl ?_
  intro g cap w' ho' hg _ _
  have hb : Below B w0 w' := ((hbel.alloc hB _).drew).grown hg (by simp; omega) (fun k hk => (World.ownsRow.lt hown k hk).1)
  refine hK _ w' ?_ hb ?_
  · unfold Own; simpa using ho'
  · have := hg.size; simp at this; omega

set_option maxRecDepth 100000 in
set_option maxHeartbeats 400000 in
theorem Clone_ints (v : Value) (l : List Int) (w : World) (hv : Ints w v l) (hl : l.length ≤ 1048576) :
    Calls Try.prog 45 #[v] w (IntsNew l w) := by
  obtain ⟨a, cap, rfl, hlc, hcm⟩ := hv.shape
  obtain ⟨B, hB⟩ : ∃ B, B = w.heap.size := ⟨_, rfl⟩
  have HB := Lib.hid hB
  have hB1 : B ≤ w.heap.size := by omega
  clear hB
  cases a with
  | none =>
    have hl0 : l = [] := by
      obtain ⟨a', cap', e, h1, h2, h3⟩ := hv
      simp only [Value.slice.injEq] at e
      obtain ⟨rfl, _, _⟩ := e
      rcases h3 with h3 | ⟨_, _, _, h, _⟩
      · exact h3
      · cases h
    subst hl0
    have hnil := Lib.run_eql_slice_nil (P := Try.prog) w 37 3 none 0 cap 0 0 Try.underlying37
    go_enter Try.func45, Try.ntmps45
    go_wp2
    go_ret
    exact ⟨_, rfl, Ints.nil w, FreshV.nil _, Below.refl _ _⟩
  | some ad =>
    have hnil := Lib.run_eql_slice_nil (P := Try.prog) w 37 3 (some ad) l.length cap 0 0 Try.underlying37
    have hv2 := Lib.hid (hv.below ((Below.refl w.heap.size w).alloc (Nat.le_refl _) (.cells #[] 3)))
    have hmd := Lib.hid (Own.made w (B := B) 3 .i64 hB1)
    have hbl := Lib.hid ((Below.refl B w).alloc hB1 (.cells #[] 3))
    clear hv
    go_enter Try.func45, Try.ntmps45
    go_wp2_with (at_builtin; refine app_src w _ rfl (.tmp 5) (.tmp 6) rfl B _ [] l ad l.length cap rfl rfl hv2.out hmd.out hbl.out (by simp; omega) (by simp; omega) ?_)
    intro v' w1 hown1 hbel1 hB2
    have hq := Lib.hid (Ints.of_own hown1)
    go_wp2
    go_ret
    exact ⟨_, rfl, hq.out.1, hq.out.2.mono (by rw [HB.out]; exact Nat.le_refl _), hbel1.mono (by rw [HB.out]; exact Nat.le_refl _)⟩

/-- a row of a list to which a multiple of another list has been added, up to the place j -/
def addAt (p : Int) (L : List Int) (d : Nat) (k : Int) (lb : List Int) (j : Nat) : List Int :=
  (List.range L.length).map fun (t : Nat) => if d ≤ t ∧ t < d + j then (L.getD t 0 + k * lb.getD (t - d) 0) % p else L.getD t 0
theorem addAt_len (p : Int) (L : List Int) (d : Nat) (k : Int) (lb : List Int) (j : Nat) : (addAt p L d k lb j).length = L.length := by simp [addAt]
theorem addAt_zero (p : Int) (L : List Int) (d : Nat) (k : Int) (lb : List Int) : addAt p L d k lb 0 = L := by
  apply List.ext_getElem (by simp [addAt])
  intro t h1 h2
  simp only [addAt, List.getElem_map, List.getElem_range]
  rw [if_neg (by omega)]
  simp [List.getD, h2]
theorem addAt_get (p : Int) (L : List Int) (d : Nat) (k : Int) (lb : List Int) (j t : Nat) (ht : t < L.length) :
    (addAt p L d k lb j).getD t 0 = if d ≤ t ∧ t < d + j then (L.getD t 0 + k * lb.getD (t - d) 0) % p else L.getD t 0 := by
  simp [addAt, List.getD, ht]
theorem addAt_here (p : Int) (L : List Int) (d : Nat) (k : Int) (lb : List Int) (j : Nat) (ht : d + j < L.length) : (addAt p L d k lb j).getD (d + j) 0 = L.getD (d + j) 0 := by
  rw [addAt_get _ _ _ _ _ _ _ ht, if_neg (by omega)]
theorem addAt_step (p : Int) (L : List Int) (d : Nat) (k : Int) (lb : List Int) (j : Nat) (hj : d + j < L.length) :
    (addAt p L d k lb j).set (d + j) ((L.getD (d + j) 0 + k * lb.getD j 0) % p) = addAt p L d k lb (j + 1) := by
  apply List.ext_getElem (by simp [addAt])
  intro t h1 h2
  rw [List.getElem_set]
  simp only [addAt, List.getElem_map, List.getElem_range]
  by_cases h : d + j = t
  · subst h
    rw [if_pos rfl, if_pos (by omega), Nat.add_sub_cancel_left]
  · rw [if_neg h]
    by_cases h3 : d ≤ t ∧ t < d + j
    · rw [if_pos h3, if_pos (by omega)]
    · rw [if_neg h3, if_neg (by omega)]


end Go.Proofs.Ytjcgommdeplbbaa

namespace Go.Proofs.Ytjcgommdeplbbaa
open Go.RowKit
set_option linter.unusedVariables false
set_option linter.unusedSimpArgs false

theorem sep_new {w : World} {u v : Value} {l : List Int} (hu : Ints w u l) (hf : FreshV w.heap.size v) : ∀ k, blk u = some k → ¬ blk v = some k :=
  fun k hk hk' => by have := hu.lt k hk; have := hf k hk'; omega
theorem sep_symm {u v : Value} (h : ∀ k, blk u = some k → ¬ blk v = some k) : ∀ k, blk v = some k → ¬ blk u = some k := fun k hk hk' => h k hk' hk
theorem sep_blk_new {w : World} {b : Nat} {cs : Array Value} {T : TypeId} {v : Value} (p : Blk w b cs T) (hf : FreshV w.heap.size v) : ¬ blk v = some b :=
  fun h => by have := p.lt; have := hf b h; omega
theorem sep_blk_old {w : World} {u : Value} {l : List Int} (hu : Ints w u l) : ¬ blk u = some w.heap.size :=
  fun h => by have := hu.lt _ h; omega
theorem blk3 {w : World} {b : Nat} {x y z : Value} {T : TypeId} (p : Blk w b #[x, y, z] T) : w.cell? ⟨b, 0, none⟩ = some x ∧ w.cell? ⟨b, 1, none⟩ = some y ∧ w.cell? ⟨b, 2, none⟩ = some z :=
  ⟨p.cell 0, p.cell 1, p.cell 2⟩

theorem below_of_drew {w w' : World} (h : Below w.drew.heap.size w.drew w') : Below w.heap.size w w' := ⟨h.os, h.tape, h.output, h.size, h.block⟩

theorem blk2 {w : World} {b : Nat} {x y : Value} {T : TypeId} (p : Blk w b #[x, y] T) : w.cell? ⟨b, 0, none⟩ = some x ∧ w.cell? ⟨b, 1, none⟩ = some y :=
  ⟨p.cell 0, p.cell 1⟩
theorem blk4 {w : World} {b : Nat} {x y z t : Value} {T : TypeId} (p : Blk w b #[x, y, z, t] T) : w.cell? ⟨b, 0, none⟩ = some x ∧ w.cell? ⟨b, 1, none⟩ = some y ∧ w.cell? ⟨b, 2, none⟩ = some z ∧ w.cell? ⟨b, 3, none⟩ = some t :=
  ⟨p.cell 0, p.cell 1, p.cell 2, p.cell 3⟩
def set2 (w : World) (b : Nat) (y0 y1 : Value) : World := (w.setCell ⟨b, 0, none⟩ y0).setCell ⟨b, 1, none⟩ y1
theorem set2_blk {w : World} {b : Nat} {x0 x1 : Value} {T : TypeId} (h : Blk w b #[x0, x1] T) (y0 y1 : Value) : Blk (set2 w b y0 y1) b #[y0, y1] T := (h.set 0 y0).set 1 y1
theorem set2_below {B : Nat} {a w : World} (h : Below B a w) {b : Nat} (hb : B ≤ b) (y0 y1 : Value) : Below B a (set2 w b y0 y1) :=
  (h.setCell (p := ⟨b, 0, none⟩) hb y0).setCell (p := ⟨b, 1, none⟩) hb y1
theorem set2_other {w : World} {b : Nat} (y0 y1 : Value) {k : Nat} (hk : k ≠ b) : (set2 w b y0 y1).heap[k]? = w.heap[k]? := by
  unfold set2
  rw [heap_setCell_other _ _ _ _ hk, heap_setCell_other _ _ _ _ hk]
theorem set2_ints {w : World} {v : Value} {l : List Int} (h : Ints w v l) {b : Nat} (hb : ∀ k, blk v = some k → k ≠ b) (y0 y1 : Value) : Ints (set2 w b y0 y1) v l :=
  h.keep fun k hk => set2_other y0 y1 (hb k hk)
/-- what stands in a result's block of three cells ahead of the store, and what the store leaves -/
theorem res3_pre {w w1 : World} {z0 z1 z2 : Value} {T : TypeId} (hb : Below (w.alloc (.cells #[z0, z1, z2] T)).heap.size (w.alloc (.cells #[z0, z1, z2] T)) w1) :
    w1.cell? ⟨w.heap.size, 0, none⟩ = some z0 ∧ w1.cell? ⟨w.heap.size, 1, none⟩ = some z1 ∧ w1.cell? ⟨w.heap.size, 2, none⟩ = some z2 ∧
    w1.frozen? ⟨w.heap.size, 0, none⟩ = false ∧ w1.frozen? ⟨w.heap.size, 1, none⟩ = false ∧ w1.frozen? ⟨w.heap.size, 2, none⟩ = false := by
  have h := (Blk.new w #[z0, z1, z2] T).below hb
  exact ⟨h.cell 0, h.cell 1, h.cell 2, h.frozen 0, h.frozen 1, h.frozen 2⟩
theorem res2_pre {w w1 : World} {z0 z1 : Value} {T : TypeId} (hb : Below (w.alloc (.cells #[z0, z1] T)).heap.size (w.alloc (.cells #[z0, z1] T)) w1) :
    w1.cell? ⟨w.heap.size, 0, none⟩ = some z0 ∧ w1.cell? ⟨w.heap.size, 1, none⟩ = some z1 ∧
    w1.frozen? ⟨w.heap.size, 0, none⟩ = false ∧ w1.frozen? ⟨w.heap.size, 1, none⟩ = false := by
  have h := (Blk.new w #[z0, z1] T).below hb
  exact ⟨h.cell 0, h.cell 1, h.frozen 0, h.frozen 1⟩
theorem res3_tail {w w1 : World} {z0 z1 z2 : Value} {T : TypeId} (y0 y1 y2 : Value) (hb : Below (w.alloc (.cells #[z0, z1, z2] T)).heap.size (w.alloc (.cells #[z0, z1, z2] T)) w1) :
    Below w.heap.size w (set3 w1 w.heap.size y0 y1 y2) ∧ (set3 w1 w.heap.size y0 y1 y2).cell? ⟨w.heap.size, 0, none⟩ = some y0 ∧
    (set3 w1 w.heap.size y0 y1 y2).cell? ⟨w.heap.size, 1, none⟩ = some y1 ∧ (set3 w1 w.heap.size y0 y1 y2).cell? ⟨w.heap.size, 2, none⟩ = some y2 := by
  have hB := set3_blk ((Blk.new w #[z0, z1, z2] T).below hb) y0 y1 y2
  have hbw : Below w.heap.size w w1 := ((Below.refl _ w).alloc (Nat.le_refl _) _).trans (hb.mono (by simp))
  exact ⟨set3_below hbw (Nat.le_refl _) _ _ _, hB.cell 0, hB.cell 1, hB.cell 2⟩
theorem res2_tail {w w1 : World} {z0 z1 : Value} {T : TypeId} (y0 y1 : Value) (hb : Below (w.alloc (.cells #[z0, z1] T)).heap.size (w.alloc (.cells #[z0, z1] T)) w1) :
    Below w.heap.size w (set2 w1 w.heap.size y0 y1) ∧ (set2 w1 w.heap.size y0 y1).cell? ⟨w.heap.size, 0, none⟩ = some y0 ∧ (set2 w1 w.heap.size y0 y1).cell? ⟨w.heap.size, 1, none⟩ = some y1 := by
  have hB := set2_blk ((Blk.new w #[z0, z1] T).below hb) y0 y1
  have hbw : Below w.heap.size w w1 := ((Below.refl _ w).alloc (Nat.le_refl _) _).trans (hb.mono (by simp))
  exact ⟨set2_below hbw (Nat.le_refl _) _ _, hB.cell 0, hB.cell 1⟩
theorem fresh_ne {w : World} {v : Value} {o : Obj} (hf : FreshV (w.alloc o).heap.size v) : ∀ k, blk v = some k → k ≠ w.heap.size :=
  fun k hk => by have := hf k hk; rw [World.size_alloc] at this; omega

end Go.Proofs.Ytjcgommdeplbbaa
