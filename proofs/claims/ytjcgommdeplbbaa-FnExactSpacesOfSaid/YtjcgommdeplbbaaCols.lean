/- row, rows, column, columns, fromColumns of a matrix of the program. -/
import Derived.Test.YtjcgommdeplbbaaAppRows
import Derived.Test.YtjcgommdeplbbaaMat2
namespace Go.Proofs.Ytjcgommdeplbbaa
open Go.RowKit
set_option linter.unusedVariables false
set_option linter.unusedSimpArgs false

/-- what row gives: a slice of the matrix's own block -/
def RowAns (v : Value) (c i : Nat) (l : List Int) (w : World) (e : Ending) (w' : World) : Prop :=
  ∃ v', e = .returned v' ∧ Ints w' v' (rowL c i l) ∧ (∀ g off n cap, 0 < c → v = .slice (some ⟨g, off, none⟩) n cap → v' = .slice (some ⟨g, off + i * c, none⟩) c (cap - i * c)) ∧ (∀ q, blk v' = some q → blk v = some q) ∧ Below w.heap.size w w'

theorem blk_slice {g off n cap : Nat} (h : 0 < n) : blk (.slice (some ⟨g, off, none⟩) n cap) = some g := by
  cases n with
  | zero => omega
  | succ n => rfl
theorem Ints.row {w : World} {a : Option Addr} {r c i N cap : Nat} {l : List Int} (h : Ints w (.slice a N cap) l) (hl : l.length = r * c) (hi : i < r) (hc : 0 < c) :
    ∃ g off, a = some ⟨g, off, none⟩ ∧ i * c + c ≤ cap ∧ Ints w (.slice (some ⟨g, off + i * c, none⟩) c (cap - i * c)) (rowL c i l) := by
  have hx : (i + 1) * c ≤ r * c := Nat.mul_le_mul_right c (by omega)
  rw [Nat.add_mul] at hx
  have hlen := rowL_len hl hi
  obtain ⟨a', cap', e, h1, h2, h3⟩ := h
  simp only [Value.slice.injEq] at e
  obtain ⟨rfl, rfl, rfl⟩ := e
  rcases h3 with rfl | ⟨g, off, cur, rfl, hg, hs, hcur⟩
  · simp at hl; omega
  · refine ⟨g, off, rfl, by omega, _, _, by rw [hlen], by omega, by omega, .inr ⟨g, off + i * c, cur, rfl, hg, by omega, fun k hk => ?_⟩⟩
    rw [hlen] at hk
    rw [rowL_get hk, ← hcur (i * c + k) (by omega), Nat.add_assoc]

set_option maxRecDepth 100000 in
set_option maxHeartbeats 1000000 in
theorem i_row (R C : Int) (r c i : Nat) (hC : C = c) (v : Value) (l : List Int) (w : World) (hv : Ints w v l) (hl : l.length = r * c) (hi : i < r) (hr8 : r ≤ 64) (hc8 : c ≤ 64) :
    Calls Try.prog 28 #[.agg #[.int .i64 R, .int .i64 C, v], .int .i64 i] w (RowAns v c i l w) := by
  subst hC
  have hx : (i + 1) * c ≤ r * c := Nat.mul_le_mul_right c (by omega)
  have hrc : r * c ≤ 4096 := Nat.mul_le_mul hr8 hc8
  rw [Nat.add_mul] at hx
  obtain ⟨a, cap, rfl, hlc, hcm⟩ := hv.shape
  rcases Nat.eq_zero_or_pos c with h0 | hpos
  · subst h0
    have hl0 : l = [] := by simpa using hl
    subst hl0
    have hb : Below w.heap.size w (w.alloc (.cells #[.int .i64 R, .int .i64 0, .slice a 0 cap] 49)) := (Below.refl _ w).alloc (Nat.le_refl _) _
    have HV := Lib.hid (hv.below hb)
    have HB := Lib.hid hb
    clear hv hb hl hx hlc
    go_enter Try.func28, Try.ntmps28
    go_wp2
    go_ret
    exact ⟨_, rfl, HV.out, fun _ _ _ _ h => absurd h (by omega), fun q h => by cases a <;> simp [blk] at h, HB.out⟩
  · obtain ⟨g, off, rfl, hcc, hrow⟩ := hv.row hl hi hpos
    have hb : Below w.heap.size w (w.alloc (.cells #[.int .i64 R, .int .i64 c, .slice (some ⟨g, off, none⟩) l.length cap] 49)) := (Below.refl _ w).alloc (Nat.le_refl _) _
    have HV := Lib.hid (hrow.below hb)
    have HB := Lib.hid hb
    have HL := Lib.hid hl
    obtain ⟨q, hq⟩ : ∃ q, i * c = q := ⟨_, rfl⟩
    have hm1 : (i : Int) * (c : Int) = (q : Int) := by rw [← hq]; simp
    have hm2 : ((i : Int) + 1) * (c : Int) = (q : Int) + (c : Int) := by rw [← hq]; simp [Int.add_mul]
    rw [hq] at hcc hx
    have HQ := Lib.hid hq
    have hne : (cap == q) = false := by simp; omega
    have hsub : q + c - q = c := by omega
    clear hv hb hl hrow hq
    go_enter Try.func28, Try.ntmps28
    go_wp2
    go_ret
    refine ⟨_, rfl, ?_, ?_, ?_, HB.out⟩
    · have h := HV.out
      rw [HQ.out] at h
      show Ints _ (.slice (some ⟨g, off + q, none⟩) (q + c - q) (cap - q)) _
      rw [hsub]
      exact h
    · intro g' off' n' cap' _ e
      simp only [Value.slice.injEq, Option.some.injEq, Addr.mk.injEq, and_true] at e
      obtain ⟨⟨rfl, rfl⟩, rfl, rfl⟩ := e
      rw [HQ.out]
      show Value.slice (some ⟨g, off + q, none⟩) (q + c - q) (cap - q) = _
      rw [hsub]
    · intro q' h
      have h' : blk (.slice (some ⟨g, off + q, none⟩) (q + c - q) (cap - q)) = some q' := h
      rw [hsub] at h'
      rw [blk_slice hpos] at h'
      rw [blk_slice (by rw [HL.out]; exact Nat.lt_of_lt_of_le hpos (Nat.le_trans (Nat.le_add_left c q) (by omega))), h']

/-- rows of rows that the call itself made -/
def RowsOwn (ll : List (List Int)) (w : World) (e : Ending) (w' : World) : Prop := ∃ v, e = .returned v ∧ OwnR w' w.heap.size v ll ∧ Below w.heap.size w w'
def RowsNew (ll : List (List Int)) (w : World) (e : Ending) (w' : World) : Prop := ∃ v, e = .returned v ∧ Rws w.heap.size w' v ll ∧ Below w.heap.size w w'
/-- the first k rows of a matrix of c columns -/
def rowsK (c : Nat) (l : List Int) (k : Nat) : List (List Int) := (List.range k).map fun i => rowL c i l
theorem rowsK_len (c : Nat) (l : List Int) (k : Nat) : (rowsK c l k).length = k := by simp [rowsK]
theorem rowsK_succ (c : Nat) (l : List Int) (k : Nat) : rowsK c l k ++ [rowL c k l] = rowsK c l (k + 1) := by simp [rowsK, List.range_succ]
set_option maxRecDepth 100000 in
set_option maxHeartbeats 1000000 in
theorem i_rowsO (r c : Nat) (v : Value) (l : List Int) (w : World) (hv : Ints w v l) (hl : l.length = r * c) (hr8 : r ≤ 64) (hc8 : c ≤ 64) :
    Calls Try.prog 29 #[.agg #[.int .i64 r, .int .i64 c, v]] w (RowsOwn (rowsK c l r) w) := by
  obtain ⟨a, cap, rfl, hlc, hcm⟩ := hv.shape
  have M := Lib.hid (((MB.start w).addI hv).alloc #[.int .i64 r, .int .i64 c, .slice a l.length cap] 49)
  have HL := Lib.hid hl
  clear hv hl
  obtain ⟨W, hW⟩ : ∃ W, W = w.alloc (.cells #[.int .i64 r, .int .i64 c, .slice a l.length cap] 49) := ⟨_, rfl⟩
  have hWs : W.heap.size = w.heap.size + 1 := by rw [hW]; simp
  rw [← hW] at M
  have HWs := Lib.hid hWs; have HW := Lib.hid hW
  clear hWs hW
  go_enter Try.func29, Try.ntmps29
  go_wp2
  rw [← HW.out]
  go_loopw [3, 7] (fun s i wr => ∃ k : Nat, k ≤ r ∧ i = .int .i64 k ∧ OwnR wr W.heap.size s (rowsK c l k) ∧ Below W.heap.size W wr) (fun _ i _ => r - (intOf i).toNat)
  case atStart => exact ⟨0, Nat.zero_le _, rfl, OwnR.nil _ _, Below.refl _ _⟩
  case round =>
    obtain ⟨k, hk, rfl, hown, hbel⟩ := hrel
    have M1 := Lib.hid (M.out.call hbel)
    have HO := Lib.hid hown
    obtain ⟨a3, c3, rfl, hx3, hy3⟩ := hown.rws.shape
    rw [rowsK_len] at *
    have HB := Lib.hid hbel
    clear hown hbel
    obtain ⟨p0, p1, p2⟩ := blk3 M1.out.b0
    by_cases hlt : k < r
    · go_wp2_with fail
      refine (i_row _ _ r c k rfl _ l _ M1.out.i0 HL.out hlt hr8 hc8).mono ?_; rintro e w1 ⟨v1, rfl, hv1, _, _, b1⟩
      have hlen1 := rowL_len HL.out hlt
      have hq1 := Lib.hid hv1
      have HB1 := Lib.hid (HB.out.trans (b1.mono HB.out.size))
      have HO1 := Lib.hid (HO.out.below b1)
      obtain ⟨a4, c4, rfl, _, _⟩ := hv1.shape
      clear hv1 b1 p0 p1 p2
      rw [hlen1] at *
      clear hlen1
      go_wp2_with fail
      refine (Clone_ints _ (rowL c k l) _ hq1.out (by rw [rowL_len HL.out hlt]; omega)).mono ?_; rintro e w2 ⟨v2, rfl, hv2, hf2, b2⟩
      have HV2 := Lib.hid hv2
      have HF2 := Lib.hid (hf2.mono (show W.heap.size ≤ w1.heap.size from HB1.out.size))
      have HB2 := Lib.hid (HB1.out.trans (b2.mono HB1.out.size))
      have HO2 := Lib.hid (HO1.out.below b2)
      obtain ⟨a5, c5, rfl, _, _⟩ := hv2.shape
      clear hv2 hf2 b2
      go_wp2_with (at_builtin; refine app_row W _ rfl (.tmp 10) (.tmp 15) rfl W.heap.size _ (rowsK c l k) (rowL c k l) rfl rfl rfl HV2.out HF2.out HO2.out HB2.out HB2.out.size (by rw [rowsK_len]; omega) ?_)
      intro v6 w6 hown6 hbel6 hB6
      rw [rowsK_succ] at hown6
      have HO6 := Lib.hid hown6; have HB6 := Lib.hid hbel6
      clear hown6 hbel6 hB6
      go_wp2
      go_roundw
      case rel => exact ⟨k + 1, by omega, by go_num, HO6.out, HB6.out⟩
      case measure => simp [intOf]; omega
    · obtain rfl : k = r := by omega
      go_wp2
      go_ret
      exact ⟨_, rfl, HO.out.mono (by have := HWs.out; omega), M1.out.bel⟩
theorem i_rows (r c : Nat) (v : Value) (l : List Int) (w : World) (hv : Ints w v l) (hl : l.length = r * c) (hr8 : r ≤ 64) (hc8 : c ≤ 64) :
    Calls Try.prog 29 #[.agg #[.int .i64 r, .int .i64 c, v]] w (RowsNew (rowsK c l r) w) :=
  (i_rowsO r c v l w hv hl hr8 hc8).mono fun _ _ ⟨v, e, h, b⟩ => ⟨v, e, h.rws, b⟩


end Go.Proofs.Ytjcgommdeplbbaa
