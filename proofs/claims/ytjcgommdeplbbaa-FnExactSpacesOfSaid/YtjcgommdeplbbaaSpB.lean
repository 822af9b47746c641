/- SpacesOf, of the reference: l5Basis, l5Fine, IsSpace. -/
import Derived.Test.YtjcgommdeplbbaaSpA
import Derived.Test.YtjcgommdeplbbaaRedX
import Derived.Test.YtjcgommdeplbbaaCols
import Derived.Test.YtjcgommdeplbbaaCount
namespace Go.Proofs.Ytjcgommdeplbbaa
open Go.RowKit
set_option linter.unusedVariables false
set_option linter.unusedSimpArgs false

theorem OwnR.made (w : World) {B : Nat} (hB : B ≤ w.heap.size) : OwnR (w.alloc (.cells #[] 37)) B (.slice (some ⟨w.heap.size, 0, none⟩) 0 0) [] :=
  ⟨[], World.ownsRow_made w #[] 0 hB (by decide) rfl, trivial⟩
/-- the reduced basis of a matrix's rows -/
def BasOut (p : Int) (R C : Nat) (f0 : Nat → Nat → Int) (w : World) (e : Ending) (w' : World) : Prop :=
  ∃ (f : Nat → Nat → Int) (Ln : List Nat) (row col : Nat) (u : Value), e = .returned u ∧ OwnR w' w.heap.size u (rowsK C (matL R C f) row) ∧ Below w.heap.size w w' ∧ RF p R C f row col Ln ∧ (col = C ∨ row = R) ∧
    ∀ L0, RS R C f0 L0 → Ln = L0 ∧ ∀ r c, r < R → c < C → f r c = f0 r c
set_option maxRecDepth 100000 in
set_option maxHeartbeats 4000000 in
theorem s_l5Basis (p : Int) (R C : Nat) (f0 : Nat → Nat → Int) (v : Value) (w : World) (hp : isF p = true) (hR8 : R ≤ 8) (hC8 : C ≤ 8) (hC0 : 0 < C) (hv : Ints w v (matL R C f0)) (hrng : ∀ r c, r < R → c < C → 0 ≤ f0 r c ∧ f0 r c < p) :
    Calls Try.prog 40 #[.int .i64 p, .agg #[.int .i64 R, .int .i64 C, v]] w (BasOut p R C f0 w) := by
  obtain ⟨a, cap, rfl, hlc, hcm⟩ := hv.shape
  rw [matL_len] at *
  have hb0 : Below w.heap.size w (w.alloc (.cells #[.int .i64 R, .int .i64 C, .slice a (R * C) cap] 49)) := (Below.refl _ w).alloc (Nat.le_refl _) _
  have hcon := s_l4ReduceX p R C f0 _ _ hp hR8 hC8 (hv.below hb0) hrng
  have HB0 := Lib.hid hb0
  have P0 := Lib.hid (Blk.new w #[.int .i64 R, .int .i64 C, .slice a (R * C) cap] 49)
  clear hv hb0 hrng
  go_enter Try.func40, Try.ntmps40
  obtain ⟨p0, p1, p2⟩ := blk3 P0.out
  go_wp2_with fail
  refine hcon.mono ?_; rintro e w1 ⟨f, Ln, row, col, c6, vL, rfl, hc6, hL, b1, hRF, hex, hst⟩
  have HR := Lib.hid (And.intro hRF (And.intro hex hst))
  have hrow := hRF.hrow
  have hlen := hRF.len
  obtain ⟨aL, cL, hvL, hlL, hmL⟩ := hL.shape
  rw [List.length_map, hlen] at hvL hlL
  subst hvL
  obtain ⟨a6, cc6, hv6, hl6, hm6⟩ := hc6.shape
  rw [matL_len] at hv6 hl6
  subst hv6
  have hs1 : w.heap.size + 1 ≤ w1.heap.size := by have := b1.size; simpa using this
  have HB1 := Lib.hid (HB0.out.trans (b1.mono HB0.out.size))
  obtain ⟨l, hl⟩ : ∃ l, l = matL R C f := ⟨_, rfl⟩
  rw [← hl] at hc6
  have HLL := Lib.hid (show l.length = R * C by rw [hl, matL_len])
  have HLE := Lib.hid hl
  have hl64 : R * C ≤ 64 := by have : R * C ≤ 8 * 8 := Nat.mul_le_mul hR8 hC8; omega
  have h2 : Below w1.heap.size w1 ((w1.alloc (.cells #[.int .i64 R, .int .i64 C, .slice a6 (R * C) cc6] 49)).alloc (.cells #[] 37)) := ((Below.refl _ w1).alloc (Nat.le_refl _) _).alloc (by simp) _
  have HC6 := Lib.hid (hc6.below h2)
  have HLT := Lib.hid hc6.lt
  have hs2 : (w1.alloc (.cells #[.int .i64 R, .int .i64 C, .slice a6 (R * C) cc6] 49)).heap.size = w1.heap.size + 1 := by simp
  have Q0 := Lib.hid ((Blk.new w1 #[.int .i64 R, .int .i64 C, .slice a6 (R * C) cc6] 49).below ((Below.refl _ _).alloc (Nat.le_refl _) (.cells #[] 37)))
  have HO0 := Lib.hid (OwnR.made (w1.alloc (.cells #[.int .i64 R, .int .i64 C, .slice a6 (R * C) cc6] 49)) (B := w1.heap.size + 1) (by omega))
  rw [hs2] at HO0
  obtain ⟨W, hW⟩ : ∃ W, W = ((w1.alloc (.cells #[.int .i64 R, .int .i64 C, .slice a6 (R * C) cc6] 49)).alloc (.cells #[] 37)) := ⟨_, rfl⟩
  have HWB := Lib.hid (h2.mono (Nat.le_refl _) : Below w1.heap.size w1 _)
  rw [← hW] at HC6 Q0 HO0 HWB
  have HW := Lib.hid hW
  clear hc6 hL b1 hRF hex hst p0 p1 p2 hl h2 hs2 hW
  go_wp2
  rw [← HW.out]
  have hWs : w1.heap.size + 1 ≤ W.heap.size := by rw [HW.out]; simp
  go_loopw [7, 8] (fun s i wr => ∃ k : Nat, k ≤ row ∧ i = .int .i64 k ∧ Hid (OwnR wr (w1.heap.size + 1) s (rowsK C l k)) ∧ Hid (Below (w1.heap.size + 1) W wr)) (fun _ i _ => row - (intOf i).toNat)
  case atStart => exact ⟨0, Nat.zero_le _, rfl, HO0, Lib.hid (Below.refl _ _)⟩
  case round =>
    obtain ⟨k, hk, rfl, HO, HB⟩ := hrel
    obtain ⟨a3, c3, hv3, hx3, hy3⟩ := HO.out.rws.shape
    rw [rowsK_len] at hv3 hx3
    subst hv3
    have Q1 := Q0.out.belowB HB.out (by omega)
    obtain ⟨p0, p1, p2⟩ := blk3 Q1
    by_cases hlt : k < row
    · have hC1 := HC6.out.belowB HB.out (fun q hq => by have := HLT.out q hq; omega)
      have hkR : k < R := by omega
      obtain ⟨g, off, rfl, hcc, hrw⟩ := Ints.row hC1 HLL.out hkR hC0
      obtain ⟨q, hq⟩ : ∃ q, k * C = q := ⟨_, rfl⟩
      have hqb : q + C ≤ R * C := by
        rw [← hq, ← Nat.succ_mul]; exact Nat.mul_le_mul_right _ hkR
      have hm1 : (k : Int) * (C : Int) = (q : Int) := by rw [← hq]; simp
      rw [hq] at hcc hrw
      have hq0 : (0 : Int) ≤ (q : Int) := by omega
      have hq1 : (q : Int) ≤ (q : Int) + (C : Int) := by omega
      have hq2 : (q : Int) + (C : Int) ≤ (cc6 : Int) := by omega
      have hq3 : ((q : Int) + (C : Int)).toNat = q + C := by omega
      have hq4 : q + C - q = C := by omega
      have ba : Below wr.heap.size wr (wr.alloc (.cells #[] 3)) := (Below.refl _ wr).alloc (Nat.le_refl _) _
      obtain ⟨u0, u1, u2⟩ := blk3 (Q1.below ba)
      have HRW := Lib.hid (hrw.below ba)
      have HBA := Lib.hid ba
      have hrl : (rowL C k l).length = C := rowL_len HLL.out hkR
      clear hq hrw hC1 ba
      obtain ⟨row1, hrow1⟩ : ∃ r1, r1 = rowL C k l := ⟨_, rfl⟩
      rw [← hrow1] at HRW hrl
      have HR1 := Lib.hid hrow1
      clear hrow1
      go_wp2_with (at_builtin; refine app_any2 (wr.alloc (.cells #[] 3)) rfl (.tmp 23) (.tmp 37) rfl wr.heap.size _ _ [] row1 rfl rfl (Own.made wr 3 .i64 (Nat.le_refl _)) HRW.out (by simp) (by simp; omega) ?_)
      intro v5 w5 ho5 hg5 hloc5
      have b5 : Below wr.heap.size wr w5 := Below.grown HBA.out hg5 (by simp) (fun k hk => by simp [Value.ownBlock] at hk; omega)
      have ho5' : Own w5 wr.heap.size 3 .i64 v5 row1 := ho5
      have hi5 := Ints.of_own ho5'
      obtain ⟨a5, c5, hv5, hl5, _⟩ := hi5.1.shape
      rw [hrl] at hv5 hl5
      subst hv5
      have HI5 := Lib.hid hi5
      have HO5 := Lib.hid (HO.out.below b5)
      have hwr : w1.heap.size + 1 ≤ wr.heap.size := Nat.le_trans hWs HB.out.size
      have HB5 := Lib.hid (HB.out.trans (b5.mono hwr))
      clear ho5 hg5 hloc5 ho5' hi5 b5 u0 u1 u2 p0 p1 p2
      go_wp2_with (at_builtin; refine app_row W w5 rfl (.tmp 22) (.tmp 39) rfl (w1.heap.size + 1) _ (rowsK C l k) row1 rfl rfl rfl HI5.out.1 (HI5.out.2.mono hwr) HO5.out HB5.out (Nat.le_trans hWs HB5.out.size) (by rw [rowsK_len]; omega) ?_)
      intro v6 w6 hown6 hbel6 hB6
      rw [HR1.out, rowsK_succ] at hown6
      have HO6 := Lib.hid hown6; have HB6 := Lib.hid hbel6
      clear hown6 hbel6 hB6
      go_wp2
      go_roundw
      case rel => exact ⟨k + 1, by omega, by go_num, HO6, HB6⟩
      case measure => simp [intOf]; omega
    · obtain rfl : k = row := by omega
      have HX := Lib.hid (show BasOut p R C f0 w (.returned (.slice a3 k c3)) wr from ⟨f, Ln, k, col, _, rfl, by rw [← HLE.out]; exact HO.out.mono (by omega), HB1.out.trans ((HWB.out.trans (HB.out.mono (by omega))).mono HB1.out.size), HR.out.1, HR.out.2.1, HR.out.2.2⟩)
      go_wp2
      go_ret
      exact HX.out
end Go.Proofs.Ytjcgommdeplbbaa
