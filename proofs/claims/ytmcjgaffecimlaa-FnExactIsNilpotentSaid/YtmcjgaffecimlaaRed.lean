/- l4Reduce of the reference: its walk (how many leading ones, 0 or not). -/
import Derived.Test.YtmcjgaffecimlaaRedI
import Derived.StillTailTactics
namespace Go.Proofs.Ytmcjgaffecimlaa
open Go.RowKit
set_option linter.unusedVariables false
set_option linter.unusedSimpArgs false
/-- with no leading one yet: the cells are as given, and the first k columns are 0 -/
def ZCol (R C : Nat) (l M : List Int) (row k : Nat) : Prop := (row = 0 → M = l ∧ ∀ i j, i < R → j < k → l.getD (i * C + j) 0 = 0) ∧ (0 < row → zeroB l = false)
theorem zcol_end {R C : Nat} {l M : List Int} {row k : Nat} (hl : l.length = R * C) (h : ZCol R C l M row k) (hkr : k = C ∨ row = R) (hz : row = 0) : zeroB l = true := by
  have h2 := (h.1 hz).2
  unfold zeroB
  have : (l.any fun x => x != 0) = false := by
    rw [List.any_eq_false]
    intro x hx
    obtain ⟨t, ht, rfl⟩ := List.getElem_of_mem hx
    rcases hkr with hk | hr
    · have hC : 0 < C := by
        rcases Nat.eq_zero_or_pos C with h0 | h0
        · rw [h0, Nat.mul_zero] at hl; omega
        · exact h0
      have h3 := h2 (t / C) (t % C) (by rw [Nat.div_lt_iff_lt_mul hC]; omega) (by rw [hk]; exact Nat.mod_lt _ hC)
      rw [show t / C * C + t % C = t by rw [Nat.mul_comm]; exact Nat.div_add_mod t C] at h3
      have e : l[t] = l.getD t 0 := by simp [List.getD, ht]
      rw [e, h3]; simp
    · rw [hz] at hr
      rw [← hr, Nat.zero_mul] at hl; omega
  rw [this]; rfl
theorem RInv.fin {w0 w : World} {b6 t4 BL : Nat} {R C : Int} {cv lv : Value} {M lead : List Int} (h : RInv w0 b6 t4 BL R C cv lv M lead w) (ht : w0.heap.size ≤ t4) :
    Below w0.heap.size w0 (((w.setCell ⟨t4, 0, none⟩ (.int .i64 R)).setCell ⟨t4, 1, none⟩ (.int .i64 C)).setCell ⟨t4, 2, none⟩ cv) ∧
    (((w.setCell ⟨t4, 0, none⟩ (.int .i64 R)).setCell ⟨t4, 1, none⟩ (.int .i64 C)).setCell ⟨t4, 2, none⟩ cv).cell? ⟨t4, 0, none⟩ = some (.int .i64 R) ∧
    (((w.setCell ⟨t4, 0, none⟩ (.int .i64 R)).setCell ⟨t4, 1, none⟩ (.int .i64 C)).setCell ⟨t4, 2, none⟩ cv).cell? ⟨t4, 1, none⟩ = some (.int .i64 C) ∧
    (((w.setCell ⟨t4, 0, none⟩ (.int .i64 R)).setCell ⟨t4, 1, none⟩ (.int .i64 C)).setCell ⟨t4, 2, none⟩ cv).cell? ⟨t4, 2, none⟩ = some cv := by
  obtain ⟨_, ⟨y0, y1, y2, h2⟩, _, _, hb, _⟩ := h
  have hB := set3_blk h2 (.int .i64 R) (.int .i64 C) cv
  exact ⟨set3_below hb ht _ _ _, hB.cell 0, hB.cell 1, hB.cell 2⟩
theorem zcol_iff {R C : Nat} {l M : List Int} {row k : Nat} (hl : l.length = R * C) (h : ZCol R C l M row k) (hkr : k = C ∨ row = R) : row = 0 ↔ zeroB l = true :=
  ⟨fun hz => zcol_end hl h hkr hz, fun hz => by
    rcases Nat.eq_zero_or_pos row with h0 | h0
    · exact h0
    · rw [h.2 h0] at hz; exact absurd hz (by simp)⟩
set_option maxRecDepth 100000 in
set_option maxHeartbeats 1000000 in
theorem s_l4Reduce : RedCon := by
  intro p r c v l w hv hM
  obtain ⟨r0, r8, c0, c8, -, hV⟩ := isM_true hM
  have hlN := isM_lenN hM
  obtain ⟨R, rfl⟩ := Int.eq_ofNat_of_zero_le r0
  obtain ⟨C, rfl⟩ := Int.eq_ofNat_of_zero_le c0
  rw [Int.toNat_natCast, Int.toNat_natCast] at hlN
  have hF := Lib.hid (isV_F hV)
  have h64 : l.length ≤ 64 := isM_len hM
  obtain ⟨a, cap, rfl, hlc, hcm⟩ := hv.shape
  have M := Lib.hid ((((MB.start w).addI hv).alloc #[.int .i64 R, .int .i64 C, .slice a l.length cap] 26).alloc #[.int .i64 0, .int .i64 0, .slice none 0 0] 26)
  have HN := Lib.hid hlN
  have hR8 : R ≤ 8 := by omega
  have hC8 : C ≤ 8 := by omega
  clear hv hM hV r0 c0 r8 c8 hlN
  go_enter Try.func81, Try.ntmps81
  go_wp2_with fail
  refine (s_l3Copy _ _ _ l _ M.out.i0 h64).mono ?_; rintro e w1 ⟨v6, rfl, ho6, b1⟩
  have M1 := Lib.hid (M.out.call b1)
  have hs1 : w.heap.size + 2 ≤ w1.heap.size := by have := b1.size; simp at this; omega
  simp only [World.size_alloc] at ho6
  obtain ⟨a6, c6, rfl, _, _⟩ := (Ints.of_own ho6).1.shape
  obtain ⟨b6, hb6⟩ : ∃ b6, b6 = w1.heap.size := ⟨_, rfl⟩
  have hbl : Below w1.heap.size w1 ((w1.alloc (.cells #[.int .i64 R, .int .i64 C, .slice a6 l.length c6] 26)).alloc (.cells #[] 3)) := ((Below.refl _ w1).alloc (Nat.le_refl _) _).alloc (by simp) _
  have H0 : Hid (RInv w b6 (w.heap.size + 1) (b6 + 1) R C (.slice a6 l.length c6) (.slice (some ⟨b6 + 1, 0, none⟩) 0 0) l [] ((w1.alloc (.cells #[.int .i64 R, .int .i64 C, .slice a6 l.length c6] 26)).alloc (.cells #[] 3))) := by
    have hm := Own.made (w1.alloc (.cells #[.int .i64 R, .int .i64 C, .slice a6 l.length c6] 26)) (B := b6 + 1) 3 .i64 (by simp; omega)
    rw [World.size_alloc, ← hb6] at hm
    refine ⟨?_, ?_, ho6.below hbl, hm, M1.out.bel.trans (hbl.mono (by omega)), by simp; omega⟩
    · rw [hb6]; exact (Blk.new w1 _ _).below ((Below.refl _ _).alloc (Nat.le_refl _) _)
    · have h := (M1.out.call hbl).b0
      simp only [World.size_alloc] at h
      exact ⟨_, _, _, h⟩
  have HG : Hid (∀ g, (Value.slice a6 l.length c6).ownBlock = some g → w.heap.size + 2 ≤ g ∧ g < b6) := fun g hg => by
    have := World.ownsRow.lt ho6 g hg
    omega
  have Hb := Lib.hid hb6
  have hb62 : w.heap.size + 2 ≤ b6 := by omega
  clear ho6 b1 hbl hb6 hs1 h64
  go_wp2
  rw [← Hb.out]
  go_loopw [7, 8, 9] (fun lv rv kv wr => ∃ (row k : Nat) (M lead : List Int), rv = .int .i64 row ∧ kv = .int .i64 k ∧ k ≤ C ∧ row ≤ R ∧ lead.length = row ∧ M.length = l.length ∧ Hid (RInv w b6 (w.heap.size + 1) (b6 + 1) R C (.slice a6 l.length c6) lv M lead wr) ∧ Hid (ZCol R C l M row k)) (fun _ _ kv _ => C - (intOf kv).toNat)
  case atStart => exact ⟨0, 0, l, [], rfl, rfl, by omega, by omega, rfl, rfl, H0, ⟨fun _ => ⟨rfl, fun i j _ hj => absurd hj (by omega)⟩, fun h => absurd h (by omega)⟩⟩
  case round =>
    obtain ⟨row, k, M, lead, rfl, rfl, hk, hrow, hlead, hMl, HI, HZ⟩ := hrel
    have HLE := Lib.hid hlead; have HML := Lib.hid hMl
    clear hlead hMl H0
    obtain ⟨p0, p1, p2⟩ := blk3 HI.out.1
    obtain ⟨aL, cL, rfl, hlL, hmL⟩ := (Ints.of_own HI.out.2.2.2.1).1.shape
    by_cases hlt : k < C
    · by_cases hrt : row < R
      · have hNpos : 0 < l.length := by rw [HN.out]; exact Nat.mul_pos (by omega) (by omega)
        obtain ⟨g, hag, -, -, -, -⟩ := (Own.at HI.out.2.2.1).2.2 (by have := HML.out; omega)
        subst hag
        have hR1 : IntKind.i64.wrap ((R : Int) - 1) = (R : Int) - 1 := IntWalk.i64_in _ (by omega)
        go_wp2
        clear hR1
        go_loop [10, 11] (fun av iv => ∃ (t i : Int), av = .int .i64 t ∧ iv = .int .i64 i ∧ (row : Int) - 1 ≤ i ∧ i ≤ (R : Int) - 1 ∧ -1 ≤ t ∧ Hid ((t = -1 ∧ ∀ i' : Nat, i < i' → i' < R → M.getD (i' * C + k) 0 = 0) ∨ ((row : Int) ≤ t ∧ t < R ∧ M.getD (t.toNat * C + k) 0 ≠ 0))) (fun _ iv => (intOf iv + 1).toNat)
        case atStart => exact ⟨-1, (R : Int) - 1, rfl, rfl, by omega, by omega, by omega, .inl ⟨rfl, fun i' h1 h2 => absurd h2 (by omega)⟩⟩
        case round =>
          obtain ⟨t, i, rfl, rfl, hi1, hi2, ht1, HT⟩ := hrel
          by_cases hge : (row : Int) ≤ i
          · obtain ⟨I, rfl⟩ := Int.eq_ofNat_of_zero_le (show 0 ≤ i by omega)
            have hIR : I < R := by omega
            obtain ⟨q, hq⟩ : ∃ q, q = I * C := ⟨_, rfl⟩
            have hm : (I : Int) * (C : Int) = (q : Int) := by rw [hq]; simp
            have hqk : q + k < l.length := by rw [HN.out, hq]; exact mat_at hIR hlt
            have hq64 : q ≤ 64 := by have : I * C ≤ 8 * 8 := Nat.mul_le_mul (by omega) (by omega); omega
            obtain ⟨hcx, -⟩ := HI.out.cells (show q + k < M.length by have := HML.out; omega)
            obtain ⟨x, hx⟩ := elem_name M (q + k)
            rw [hx] at hcx
            rw [hq] at hx
            have HX := Lib.hid hx
            have hj0 : (0 : Int) ≤ (q : Int) + (k : Int) := by omega
            have hj1 : (q : Int) + (k : Int) < (l.length : Int) := by omega
            clear hx hq
            by_cases hx0 : x = 0
            · have hxb : (x != 0) = false := by simpa using hx0
              have HT2 : Hid ((t = -1 ∧ ∀ i' : Nat, (I : Int) - 1 < i' → i' < R → M.getD (i' * C + k) 0 = 0) ∨ ((row : Int) ≤ t ∧ t < R ∧ M.getD (t.toNat * C + k) 0 ≠ 0)) := by
                rcases HT.out with ⟨h1, h2⟩ | h
                · refine .inl ⟨h1, fun i' h3 h4 => ?_⟩
                  by_cases e : i' = I
                  · rw [e, HX.out, hx0]
                  · exact h2 i' (by omega) h4
                · exact .inr h
              clear hx0
              go_wp2
              go_round
              case rel => exact ⟨t, (I : Int) - 1, rfl, by go_num, by omega, by omega, ht1, HT2⟩
              case measure => simp only [intOf]; omega
            · have hxb : (x != 0) = true := by simpa using hx0
              have HT2 : Hid (((I : Int) = -1 ∧ ∀ i' : Nat, (I : Int) - 1 < i' → i' < R → M.getD (i' * C + k) 0 = 0) ∨ ((row : Int) ≤ (I : Int) ∧ (I : Int) < R ∧ M.getD ((I : Int).toNat * C + k) 0 ≠ 0)) :=
                .inr ⟨hge, by omega, by rw [Int.toNat_natCast, HX.out]; exact hx0⟩
              clear hx0
              go_wp2
              go_round
              case rel => exact ⟨(I : Int), (I : Int) - 1, rfl, by go_num, by omega, by omega, by omega, HT2⟩
              case measure => simp only [intOf]; omega
          · have hie : i = (row : Int) - 1 := by omega
            by_cases htn : t < 0
            · have HZ2 : Hid (ZCol R C l M row (k + 1)) := by
                refine ⟨fun hz => ?_, HZ.out.2⟩
                obtain ⟨h1, h2⟩ := HZ.out.1 hz
                refine ⟨h1, fun i' j hi' hj => ?_⟩
                rcases HT.out with ⟨_, h3⟩ | ⟨h3, _⟩
                · by_cases hjk : j = k
                  · rw [hjk, ← h1]; exact h3 i' (by omega) hi'
                  · exact h2 i' j hi' (by omega)
                · omega
              go_wp2
              go_roundw
              case rel => exact ⟨row, k + 1, M, lead, rfl, by go_num, by omega, hrow, HLE.out, HML.out, HI, HZ2⟩
              case measure => simp [intOf]; omega
            · skip
              obtain ⟨T, rfl⟩ := Int.eq_ofNat_of_zero_le (show 0 ≤ t by omega)
              have HT2 : row ≤ T ∧ T < R ∧ M.getD (T * C + k) 0 ≠ 0 := by
                rcases HT.out with ⟨h1, _⟩ | ⟨h1, h2, h3⟩
                · omega
                · rw [Int.toNat_natCast] at h3
                  exact ⟨by omega, by omega, h3⟩
              obtain ⟨hT1, hTR, hTx⟩ := HT2
              have HZE : Hid (zeroB l = false) := by
                unfold Hid
                rcases Nat.eq_zero_or_pos row with h0 | h0
                · have hMl := (HZ.out.1 h0).1
                  rw [hMl] at hTx
                  have hlt2 : T * C + k < l.length := by rw [HN.out]; exact mat_at hTR hlt
                  unfold zeroB
                  have : (l.any fun x => x != 0) = true := by
                    rw [List.any_eq_true]
                    refine ⟨l[T * C + k], List.getElem_mem hlt2, ?_⟩
                    have e : l[T * C + k] = l.getD (T * C + k) 0 := by simp [List.getD, hlt2]
                    rw [e]; simpa using hTx
                  rw [this]; rfl
                · exact HZ.out.2 h0
              have htn2 : decide ((T : Int) < 0) = false := by simp
              have hge2 : decide ((row : Int) ≤ i) = false := by simp; omega
              obtain ⟨q1, hq1⟩ : ∃ q, q = row * C := ⟨_, rfl⟩
              obtain ⟨q2, hq2⟩ : ∃ q, q = T * C := ⟨_, rfl⟩
              have hm1 : (row : Int) * (C : Int) = (q1 : Int) := by rw [hq1]; simp
              have hm2 : (T : Int) * (C : Int) = (q2 : Int) := by rw [hq2]; simp
              have hb1 : q1 + C ≤ l.length := by rw [HN.out, hq1, ← Nat.succ_mul]; exact Nat.mul_le_mul_right _ hrt
              have hb2 : q2 + C ≤ l.length := by rw [HN.out, hq2, ← Nat.succ_mul]; exact Nat.mul_le_mul_right _ hTR
              have hl64 : l.length ≤ 64 := by rw [HN.out]; have : R * C ≤ 8 * 8 := Nat.mul_le_mul hR8 hC8; omega
              obtain ⟨hgl, hgb⟩ := HG.out g rfl
              clear hTx hq1 hq2 HT HZ htn hge hie
              go_wp2
              clear htn2 hge2 p0 p1 p2
              go_loopw [12] (fun jv wr => ∃ (j : Nat) (M : List Int), jv = .int .i64 j ∧ j ≤ C ∧ M.length = l.length ∧ Hid (RInv w b6 (w.heap.size + 1) (b6 + 1) R C (.slice (some ⟨g, 0, none⟩) l.length c6) (.slice aL lead.length cL) M lead wr)) (fun jv _ => C - (intOf jv).toNat)
              case atStart => exact ⟨0, _, rfl, by omega, HML.out, HI⟩
              case round =>
                obtain ⟨j, M', rfl, hj, hM', HJ⟩ := hrel
                have HMJ := Lib.hid hM'
                obtain ⟨u0, u1, u2⟩ := blk3 HJ.out.1
                by_cases hjc : j < C
                · skip
                  obtain ⟨x, hx⟩ := elem_name M' (q1 + j)
                  obtain ⟨hcx, hfx⟩ := HJ.out.cells (show q1 + j < M'.length by omega)
                  rw [hx] at hcx
                  have hix : (0 : Int) ≤ (q1 : Int) + (j : Int) := by omega
                  have hux : (q1 : Int) + (j : Int) < (l.length : Int) := by omega
                  clear hx
                  obtain ⟨y, hy⟩ := elem_name M' (q2 + j)
                  obtain ⟨hcy, hfy⟩ := HJ.out.cells (show q2 + j < M'.length by omega)
                  rw [hy] at hcy
                  have hiy : (0 : Int) ≤ (q2 : Int) + (j : Int) := by omega
                  have huy : (q2 : Int) + (j : Int) < (l.length : Int) := by omega
                  clear hy
                  have hwq1 : IntKind.i64.wrap ((q1 : Int) + (j : Int)) = (q1 : Int) + (j : Int) := IntWalk.i64_in _ (by omega)
                  have hvq1 : IntKind.i64.wrap (q1 : Int) = (q1 : Int) := IntWalk.i64_in _ (by omega)
                  have htq1 : ((q1 : Int) + (j : Int)).toNat = q1 + j := by omega
                  have hwq2 : IntKind.i64.wrap ((q2 : Int) + (j : Int)) = (q2 : Int) + (j : Int) := IntWalk.i64_in _ (by omega)
                  have hvq2 : IntKind.i64.wrap (q2 : Int) = (q2 : Int) := IntWalk.i64_in _ (by omega)
                  have htq2 : ((q2 : Int) + (j : Int)).toNat = q2 + j := by omega
                  obtain ⟨W1, hW1⟩ : ∃ W1, W1 = wr.drew := ⟨_, rfl⟩
                  have K1 := Lib.hid (hW1 ▸ HJ.out.drewN 1 : RInv w b6 (w.heap.size + 1) (b6 + 1) R C (.slice (some ⟨g, 0, none⟩) l.length c6) (.slice aL lead.length cL) M' lead W1)
                  have K2 := Lib.hid (K1.out.store (by omega) (by omega) (by omega) (q1 + j) y)
                  have K3 := Lib.hid (K2.out.store (by omega) (by omega) (by omega) (q2 + j) x)
                  have HW1 := Lib.hid hW1
                  obtain ⟨he1, hf1⟩ := K1.out.cells (show q1 + j < M'.length by omega)
                  obtain ⟨he2, hf2⟩ := K2.out.cells (show q2 + j < (M'.set (q1 + j) y).length by rw [List.length_set]; omega)
                  clear hW1 hfx hfy hM'
                  go_wp2
                  go_still_tail 19, (by kernel_rfl)
                  change wpList _ _ _ _ _ wr.drew
                  rw [← HW1.out]
                  clear u0 u1 u2
                  obtain ⟨u0, u1, u2⟩ := blk3 K1.out.1
                  obtain ⟨v0, v1, v2⟩ := blk3 K2.out.1
                  clear hwq1 hvq1 htq1 hwq2 hvq2 htq2
                  go_wp2
                  go_roundw
                  case rel => exact ⟨j + 1, (M'.set (q1 + j) y).set (q2 + j) x, by go_num, by omega, by rw [List.length_set, List.length_set]; exact HMJ.out, K3⟩
                  case measure => simp [intOf]; omega
                · have hd : decide (j < C) = false := by simpa using hjc
                  clear hjc
                  obtain ⟨x, hx⟩ := elem_name M' (q1 + k)
                  obtain ⟨hcx, hfx⟩ := HJ.out.cells (show q1 + k < M'.length by omega)
                  rw [hx] at hcx
                  have hix : (0 : Int) ≤ (q1 : Int) + (k : Int) := by omega
                  have hux : (q1 : Int) + (k : Int) < (l.length : Int) := by omega
                  clear hx
                  clear hfx hM'
                  go_wp2_with fail
                  refine (s_InverseMod p x wr).mono ?_; rintro e w' ⟨rfl, rfl⟩
                  obtain ⟨iv, hiv⟩ : ∃ iv, iv = invV p x := ⟨_, rfl⟩
                  rw [← hiv]
                  clear hcx hix hux hiv
                  go_wp2
                  clear hd
                  go_loopw [15] (fun jv wr => ∃ (j : Nat) (M : List Int), jv = .int .i64 j ∧ j ≤ C ∧ M.length = l.length ∧ Hid (RInv w b6 (w.heap.size + 1) (b6 + 1) R C (.slice (some ⟨g, 0, none⟩) l.length c6) (.slice aL lead.length cL) M lead wr)) (fun jv _ => C - (intOf jv).toNat)
                  case atStart => exact ⟨0, _, rfl, by omega, HMJ.out, HJ⟩
                  case round =>
                    obtain ⟨j, M', rfl, hj, hM', HJ⟩ := hrel
                    have HMJ := Lib.hid hM'
                    obtain ⟨u0, u1, u2⟩ := blk3 HJ.out.1
                    by_cases hjc : j < C
                    · skip
                      obtain ⟨x, hx⟩ := elem_name M' (q1 + j)
                      obtain ⟨hcx, hfx⟩ := HJ.out.cells (show q1 + j < M'.length by omega)
                      rw [hx] at hcx
                      have hix : (0 : Int) ≤ (q1 : Int) + (j : Int) := by omega
                      have hux : (q1 : Int) + (j : Int) < (l.length : Int) := by omega
                      clear hx
                      have hwq1 : IntKind.i64.wrap ((q1 : Int) + (j : Int)) = (q1 : Int) + (j : Int) := IntWalk.i64_in _ (by omega)
                      have hvq1 : IntKind.i64.wrap (q1 : Int) = (q1 : Int) := IntWalk.i64_in _ (by omega)
                      have htq1 : ((q1 : Int) + (j : Int)).toNat = q1 + j := by omega
                      obtain ⟨W1, hW1⟩ : ∃ W1, W1 = wr.drew := ⟨_, rfl⟩
                      have K1 := Lib.hid (hW1 ▸ HJ.out.drewN 1 : RInv w b6 (w.heap.size + 1) (b6 + 1) R C (.slice (some ⟨g, 0, none⟩) l.length c6) (.slice aL lead.length cL) M' lead W1)
                      have K2 := fun z => Lib.hid (K1.out.store (by omega) (by omega) (by omega) (q1 + j) z)
                      have HW1 := Lib.hid hW1
                      obtain ⟨he1, hf1⟩ := K1.out.cells (show q1 + j < M'.length by omega)
                      clear hW1 hfx hM'
                      go_wp2
                      go_still_tail 23, (by kernel_rfl)
                      still_call ((s_l2Mod _ _ hF.out _).mono fun _ _ h => ⟨h.1, h.2.symm⟩)
                      repeat still_step
                      refine wpStill_nil ?_
                      change wpList _ _ _ _ _ wr.drew
                      rw [← HW1.out]
                      clear u0 u1 u2
                      obtain ⟨u0, u1, u2⟩ := blk3 K1.out.1
                      clear hwq1 hvq1 htq1
                      go_wp2
                      go_roundw
                      case rel => exact ⟨j + 1, _, by go_num, by omega, by rw [List.length_set]; exact HMJ.out, K2 _⟩
                      case measure => simp [intOf]; omega
                    · have hd : decide (j < C) = false := by simpa using hjc
                      clear hjc
                      clear hM'
                      go_wp2
                      clear hd
                      go_loopw [16] (fun jv wr => ∃ (j : Nat) (M : List Int), jv = .int .i64 j ∧ j ≤ R ∧ M.length = l.length ∧ Hid (RInv w b6 (w.heap.size + 1) (b6 + 1) R C (.slice (some ⟨g, 0, none⟩) l.length c6) (.slice aL lead.length cL) M lead wr)) (fun jv _ => R - (intOf jv).toNat)
                      case atStart => exact ⟨0, _, rfl, by omega, HMJ.out, HJ⟩
                      case round =>
                        obtain ⟨n, M', rfl, hj, hM', HJ⟩ := hrel
                        have HMJ := Lib.hid hM'
                        obtain ⟨u0, u1, u2⟩ := blk3 HJ.out.1
                        by_cases hjc : n < R
                        · skip
                          obtain ⟨q3, hq3⟩ : ∃ q, q = n * C := ⟨_, rfl⟩
                          have hm3 : (n : Int) * (C : Int) = (q3 : Int) := by rw [hq3]; simp
                          have hb3 : q3 + C ≤ l.length := by rw [HN.out, hq3, ← Nat.succ_mul]; exact Nat.mul_le_mul_right _ hjc
                          clear hq3
                          obtain ⟨f, hf⟩ := elem_name M' (q3 + k)
                          obtain ⟨hcf, hff⟩ := HJ.out.cells (show q3 + k < M'.length by omega)
                          rw [hf] at hcf
                          have hif : (0 : Int) ≤ (q3 : Int) + (k : Int) := by omega
                          have huf : (q3 : Int) + (k : Int) < (l.length : Int) := by omega
                          clear hf
                          clear hff hM'
                          go_wp2
                          clear hcf hif huf u0 u1 u2
                          go_loopw [18] (fun jv wr => ∃ (j : Nat) (M : List Int), jv = .int .i64 j ∧ j ≤ C ∧ M.length = l.length ∧ Hid (RInv w b6 (w.heap.size + 1) (b6 + 1) R C (.slice (some ⟨g, 0, none⟩) l.length c6) (.slice aL lead.length cL) M lead wr)) (fun jv _ => C - (intOf jv).toNat)
                          case atStart => exact ⟨0, _, rfl, by omega, HMJ.out, HJ⟩
                          case round =>
                            obtain ⟨j, M', rfl, hj, hM', HJ⟩ := hrel
                            have HMJ := Lib.hid hM'
                            obtain ⟨u0, u1, u2⟩ := blk3 HJ.out.1
                            by_cases hjc : j < C
                            · skip
                              by_cases hnr : n = row
                              · have hnr2 : ((n : Int) != (row : Int)) = false := by simp; omega
                                clear hnr hM'
                                go_wp2
                                go_roundw
                                case rel => exact ⟨n + 1, M', by go_num, by omega, HMJ.out, HJ⟩
                                case measure => simp [intOf]; omega
                              · have hnr2 : ((n : Int) != (row : Int)) = true := by simp; omega
                                obtain ⟨x, hx⟩ := elem_name M' (q3 + j)
                                obtain ⟨hcx, hfx⟩ := HJ.out.cells (show q3 + j < M'.length by omega)
                                rw [hx] at hcx
                                have hix : (0 : Int) ≤ (q3 : Int) + (j : Int) := by omega
                                have hux : (q3 : Int) + (j : Int) < (l.length : Int) := by omega
                                clear hx
                                obtain ⟨y, hy⟩ := elem_name M' (q1 + j)
                                obtain ⟨hcy, hfy⟩ := HJ.out.cells (show q1 + j < M'.length by omega)
                                rw [hy] at hcy
                                have hiy : (0 : Int) ≤ (q1 : Int) + (j : Int) := by omega
                                have huy : (q1 : Int) + (j : Int) < (l.length : Int) := by omega
                                clear hy
                                have hwq3 : IntKind.i64.wrap ((q3 : Int) + (j : Int)) = (q3 : Int) + (j : Int) := IntWalk.i64_in _ (by omega)
                                have hvq3 : IntKind.i64.wrap (q3 : Int) = (q3 : Int) := IntWalk.i64_in _ (by omega)
                                have htq3 : ((q3 : Int) + (j : Int)).toNat = q3 + j := by omega
                                have hwq1 : IntKind.i64.wrap ((q1 : Int) + (j : Int)) = (q1 : Int) + (j : Int) := IntWalk.i64_in _ (by omega)
                                have hvq1 : IntKind.i64.wrap (q1 : Int) = (q1 : Int) := IntWalk.i64_in _ (by omega)
                                have htq1 : ((q1 : Int) + (j : Int)).toNat = q1 + j := by omega
                                obtain ⟨W1, hW1⟩ : ∃ W1, W1 = wr.drew := ⟨_, rfl⟩
                                have K1 := Lib.hid (hW1 ▸ HJ.out.drewN 1 : RInv w b6 (w.heap.size + 1) (b6 + 1) R C (.slice (some ⟨g, 0, none⟩) l.length c6) (.slice aL lead.length cL) M' lead W1)
                                have K2 := fun z => Lib.hid (K1.out.store (by omega) (by omega) (by omega) (q3 + j) z)
                                have HW1 := Lib.hid hW1
                                obtain ⟨he1, hf1⟩ := K1.out.cells (show q3 + j < M'.length by omega)
                                clear hW1 hfx hfy hM' hnr
                                go_wp2
                                go_still_tail 34, (by kernel_rfl)
                                still_call ((s_l2Mod _ _ hF.out _).mono fun _ _ h => ⟨h.1, h.2.symm⟩)
                                repeat still_step
                                refine wpStill_nil ?_
                                change wpList _ _ _ _ _ wr.drew
                                rw [← HW1.out]
                                clear u0 u1 u2
                                obtain ⟨u0, u1, u2⟩ := blk3 K1.out.1
                                clear hwq3 hvq3 htq3 hwq1 hvq1 htq1
                                go_wp2
                                go_roundw
                                case rel => exact ⟨j + 1, _, by go_num, by omega, by rw [List.length_set]; exact HMJ.out, K2 _⟩
                                case measure => simp [intOf]; omega
                            · have hd : decide (j < C) = false := by simpa using hjc
                              clear hjc
                              clear hM'
                              go_wp2
                              go_roundw
                              case rel => exact ⟨n + 1, M', by go_num, by omega, HMJ.out, HJ⟩
                              case measure => simp [intOf]; omega
                        · have hd : decide (n < R) = false := by simpa using hjc
                          clear hjc
                          clear hM'
                          go_wp2_with (at_builtin; refine app_int wr wr rfl (.tmp 203) (.tmp 205) rfl (b6 + 1) _ lead rfl rfl HJ.out.2.2.2.1 (Below.refl _ _) HJ.out.2.2.2.2.2 (by have := HLE.out; omega) ?_)
                          intro v' w' hown' hbel' hB'
                          have KF := Lib.hid (HJ.out.app (by omega) (by omega) (fun g' hg' => by have := HG.out g' hg'; omega) (by omega) hown' hbel')
                          clear hown' hbel' hB'
                          go_wp2
                          go_roundw
                          case rel => exact ⟨row + 1, k + 1, M', lead ++ [(k : Int)], by go_num, by go_num, by omega, by omega, by rw [List.length_append, HLE.out]; rfl, HMJ.out, KF, ⟨fun h => absurd h (by omega), fun _ => HZE.out⟩⟩
                          case measure => simp [intOf]; omega
      · have hre : row = R := by omega
        have hd2 : decide (row < R) = false := by simpa using hrt
        have HE := Lib.hid (show lead.length = 0 ↔ zeroB l = true by rw [HLE.out]; exact zcol_iff HN.out HZ.out (.inr hre))
        have HF9 := Lib.hid (HI.out.fin (by omega))
        have hl64 : lead.length ≤ 64 := by rw [HLE.out]; omega
        obtain ⟨y0, y1, y2, q0, q1, q2, f0, f1, f2⟩ := HI.out.2.1.open_
        go_wp2
        exact bodyPost_ret (v := .tuple #[.agg #[.int .i64 R, .int .i64 C, .slice a6 l.length c6], .slice aL lead.length cL]) (by simp [results, Try.results81, go_sem, HF9.out.2.1, HF9.out.2.2.1, HF9.out.2.2.2]) rfl ⟨a6, l.length, c6, aL, lead.length, cL, rfl, hl64, HE.out, HF9.out.1⟩
    · have hd : decide (k < C) = false := by simpa using hlt
      · skip
        have HE := Lib.hid (show lead.length = 0 ↔ zeroB l = true by rw [HLE.out]; exact zcol_iff HN.out HZ.out (.inl (by omega)))
        have HF9 := Lib.hid (HI.out.fin (by omega))
        have hl64 : lead.length ≤ 64 := by rw [HLE.out]; omega
        obtain ⟨y0, y1, y2, q0, q1, q2, f0, f1, f2⟩ := HI.out.2.1.open_
        go_wp2
        exact bodyPost_ret (v := .tuple #[.agg #[.int .i64 R, .int .i64 C, .slice a6 l.length c6], .slice aL lead.length cL]) (by simp [results, Try.results81, go_sem, HF9.out.2.1, HF9.out.2.2.1, HF9.out.2.2.2]) rfl ⟨a6, l.length, c6, aL, lead.length, cL, rfl, hl64, HE.out, HF9.out.1⟩
end Go.Proofs.Ytmcjgaffecimlaa
