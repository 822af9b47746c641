/- l4Reduce of the reference, exactly: its walk. -/
import Derived.Test.YtjcgommdeplbbaaRedI
import Derived.Test.YtjcgommdeplbbaaRfL
import Derived.StillTailTactics
namespace Go.Proofs.Ytjcgommdeplbbaa
open Go.RowKit
set_option linter.unusedVariables false
set_option linter.unusedSimpArgs false
/-- what stands between two columns -/
def RedS (p : Int) (R C : Nat) (f0 : Nat → Nat → Int) (M lead : List Int) (row k : Nat) : Prop :=
  ∃ (f : Nat → Nat → Int) (Ln : List Nat), M = matL R C f ∧ lead = Ln.map (fun (x : Nat) => (x : Int)) ∧ RF p R C f row k Ln ∧ Stab R C f0 f row k Ln
/-- a matrix brought into reduced form, and the columns of the leading ones -/
def RedX (p : Int) (R C : Nat) (f0 : Nat → Nat → Int) (w : World) (e : Ending) (w' : World) : Prop :=
  ∃ (f : Nat → Nat → Int) (Ln : List Nat) (row col : Nat) (v vL : Value), e = .returned (.tuple #[.agg #[.int .i64 R, .int .i64 C, v], vL]) ∧ Ints w' v (matL R C f) ∧ Ints w' vL (Ln.map (fun (x : Nat) => (x : Int))) ∧ Below w.heap.size w w' ∧ RF p R C f row col Ln ∧ (col = C ∨ row = R) ∧
    ∀ L0, RS R C f0 L0 → Ln = L0 ∧ ∀ r c, r < R → c < C → f r c = f0 r c
theorem prod4 {x y : Int} (h : 0 ≤ x ∧ x ≤ 4) (k : 0 ≤ y ∧ y ≤ 4) : 0 ≤ x * y ∧ x * y ≤ 16 :=
  ⟨Int.mul_nonneg h.1 k.1, by have := Int.mul_le_mul h.2 k.2 k.1 (by omega : (0 : Int) ≤ 4); omega⟩
theorem invV_bd {p x : Int} (hp : isF p = true) : 0 ≤ invV p x ∧ invV p x ≤ 4 := by
  have hi : invV p x = invN p (x % p) := if_pos hp
  rw [hi]
  have := inv_range (x := x) hp
  have h3 := isF_cases hp
  generalize x % p = r at this
  unfold invN
  split
  · omega
  · split <;> omega
theorem sc_bd {p iv : Int} {R C row t k r c : Nat} {f : Nat → Nat → Int} {L : List Nat} (hp : isF p = true) (h : RF p R C f row k L) (ht : t < R) (hrow : row < R) (hr : r < R) (hc : c < C) : 0 ≤ scF p iv row (swF f row t) r c ∧ scF p iv row (swF f row t) r c ≤ 4 := by
  have h3 := isF_cases hp
  unfold scF
  split
  · have := Int.emod_nonneg (iv * swF f row t row c) (show p ≠ 0 by omega)
    have := Int.emod_lt_of_pos (iv * swF f row t row c) (show 0 < p by omega)
    omega
  · unfold swF
    split
    · have := h.rng t c ht hc; omega
    · split
      · have := h.rng row c hrow hc; omega
      · have := h.rng r c hr hc; omega
theorem RInv.fin {w0 w : World} {b6 t4 BL : Nat} {R C : Int} {cv lv : Value} {M lead : List Int} (h : RInv w0 b6 t4 BL R C cv lv M lead w) (ht : w0.heap.size ≤ t4) :
    Below w0.heap.size w0 (((w.setCell ⟨t4, 0, none⟩ (.int .i64 R)).setCell ⟨t4, 1, none⟩ (.int .i64 C)).setCell ⟨t4, 2, none⟩ cv) ∧
    (((w.setCell ⟨t4, 0, none⟩ (.int .i64 R)).setCell ⟨t4, 1, none⟩ (.int .i64 C)).setCell ⟨t4, 2, none⟩ cv).cell? ⟨t4, 0, none⟩ = some (.int .i64 R) ∧
    (((w.setCell ⟨t4, 0, none⟩ (.int .i64 R)).setCell ⟨t4, 1, none⟩ (.int .i64 C)).setCell ⟨t4, 2, none⟩ cv).cell? ⟨t4, 1, none⟩ = some (.int .i64 C) ∧
    (((w.setCell ⟨t4, 0, none⟩ (.int .i64 R)).setCell ⟨t4, 1, none⟩ (.int .i64 C)).setCell ⟨t4, 2, none⟩ cv).cell? ⟨t4, 2, none⟩ = some cv := by
  obtain ⟨_, ⟨y0, y1, y2, h2⟩, _, _, hb, _⟩ := h
  have hB := set3_blk h2 (.int .i64 R) (.int .i64 C) cv
  exact ⟨set3_below hb ht _ _ _, hB.cell 0, hB.cell 1, hB.cell 2⟩
theorem RedS.post {p : Int} {R C : Nat} {f0 : Nat → Nat → Int} {M lead : List Int} {row k : Nat} (h : RedS p R C f0 M lead row k) {w0 w : World} {b6 t4 BL : Nat} {cv lv : Value} (hi : RInv w0 b6 t4 BL R C cv lv M lead w) (ht : w0.heap.size ≤ t4) (hg : ∀ q, cv.ownBlock = some q → q ≠ t4) (hl : t4 < BL) (he : k = C ∨ row = R) :
    RedX p R C f0 w0 (.returned (.tuple #[.agg #[.int .i64 R, .int .i64 C, cv], lv])) (((w.setCell ⟨t4, 0, none⟩ (.int .i64 R)).setCell ⟨t4, 1, none⟩ (.int .i64 C)).setCell ⟨t4, 2, none⟩ cv) := by
  obtain ⟨f, Ln, h1, h2, h3, h4⟩ := h
  have hb := (hi.fin ht).1
  obtain ⟨_, _, ho, hlo, _, _⟩ := hi
  have a1 := (Ints.of_own ho)
  have a2 := (Ints.of_own hlo)
  subst h1
  subst h2
  have hne : ∀ (v : Value) (l : List Int) (B : Nat), Own w B 3 .i64 v l → (∀ q, v.ownBlock = some q → q ≠ t4) → Ints (((w.setCell ⟨t4, 0, none⟩ (.int .i64 R)).setCell ⟨t4, 1, none⟩ (.int .i64 C)).setCell ⟨t4, 2, none⟩ cv) v l := fun v l B hv hq => by
    have hck : Chg (fun q => q = t4) w (((w.setCell ⟨t4, 0, none⟩ (.int .i64 R)).setCell ⟨t4, 1, none⟩ (.int .i64 C)).setCell ⟨t4, 2, none⟩ cv) :=
      (((Chg.refl (fun q => q = t4) w).setCell (p := ⟨t4, 0, none⟩) rfl _).setCell (p := ⟨t4, 1, none⟩) rfl _).setCell (p := ⟨t4, 2, none⟩) rfl _
    exact (Ints.of_own (own_chg1 hv hck hq)).1
  exact ⟨f, Ln, row, k, cv, lv, rfl, hne _ _ _ ho hg, hne _ _ _ hlo (fun q hq => by have := (World.ownsRow.lt hlo q hq).1; omega), hb, h3, he, h4.fin (p := p) h3.hrow he⟩
set_option maxRecDepth 100000 in
set_option maxHeartbeats 4000000 in
theorem s_l4ReduceX (p : Int) (R C : Nat) (f0 : Nat → Nat → Int) (v : Value) (w : World) (hp : isF p = true) (hR8 : R ≤ 8) (hC8 : C ≤ 8) (hv : Ints w v (matL R C f0)) (hrng : ∀ r c, r < R → c < C → 0 ≤ f0 r c ∧ f0 r c < p) :
    Calls Try.prog 51 #[.int .i64 p, .agg #[.int .i64 R, .int .i64 C, v]] w (RedX p R C f0 w) := by
  obtain ⟨l, hl⟩ : ∃ l, l = matL R C f0 := ⟨_, rfl⟩
  rw [← hl] at hv
  have hlN : l.length = R * C := by rw [hl, matL_len]
  have HL0 := Lib.hid hl
  have hF := Lib.hid hp
  have h64 : l.length ≤ 64 := by rw [hlN]; have : R * C ≤ 8 * 8 := Nat.mul_le_mul hR8 hC8; omega
  have H0S := Lib.hid (show RedS p R C f0 l [] 0 0 from ⟨f0, [], hl, rfl, RF.start hrng, Stab.start R C f0⟩)
  have hp5 : 2 ≤ p ∧ p ≤ 5 := by have := isF_cases hp; omega
  obtain ⟨a, cap, rfl, hlc, hcm⟩ := hv.shape
  have M := Lib.hid ((((MB.start w).addI hv).alloc #[.int .i64 R, .int .i64 C, .slice a l.length cap] 49).alloc #[.int .i64 0, .int .i64 0, .slice none 0 0] 49)
  have HN := Lib.hid hlN
  clear hv hl hlN hrng hp
  go_enter Try.func51, Try.ntmps51
  go_wp2_with fail
  refine (s_l3Copy _ _ _ l _ M.out.i0 h64).mono ?_; rintro e w1 ⟨v6, rfl, ho6, b1⟩
  have M1 := Lib.hid (M.out.call b1)
  have hs1 : w.heap.size + 2 ≤ w1.heap.size := by have := b1.size; simp at this; omega
  simp only [World.size_alloc] at ho6
  obtain ⟨a6, c6, rfl, _, _⟩ := (Ints.of_own ho6).1.shape
  obtain ⟨b6, hb6⟩ : ∃ b6, b6 = w1.heap.size := ⟨_, rfl⟩
  have hbl : Below w1.heap.size w1 ((w1.alloc (.cells #[.int .i64 R, .int .i64 C, .slice a6 l.length c6] 49)).alloc (.cells #[] 3)) := ((Below.refl _ w1).alloc (Nat.le_refl _) _).alloc (by simp) _
  have H0 : Hid (RInv w b6 (w.heap.size + 1) (b6 + 1) R C (.slice a6 l.length c6) (.slice (some ⟨b6 + 1, 0, none⟩) 0 0) l [] ((w1.alloc (.cells #[.int .i64 R, .int .i64 C, .slice a6 l.length c6] 49)).alloc (.cells #[] 3))) := by
    have hm := Own.made (w1.alloc (.cells #[.int .i64 R, .int .i64 C, .slice a6 l.length c6] 49)) (B := b6 + 1) 3 .i64 (by simp; omega)
    rw [World.size_alloc, ← hb6] at hm
    refine ⟨?_, ?_, ho6.below hbl, hm, M1.out.bel.trans (hbl.mono (by omega)), by simp; omega⟩
    · rw [hb6]; exact (Blk.new w1 _ _).below ((Below.refl _ _).alloc (Nat.le_refl _) _)
    · have h := (M1.out.call hbl).b0
      simp only [World.size_alloc] at h
      exact ⟨_, _, _, h⟩
  have HG : Hid (∀ g, (Value.slice a6 l.length c6).ownBlock = some g → w.heap.size + 2 ≤ g ∧ g < b6) := fun g hg => by
    have := World.ownsRow.lt ho6 g hg
    omega
  have Hb := Lib.hid hb6
  have hb62 : w.heap.size + 2 ≤ b6 := by omega
  clear ho6 b1 hbl hb6 hs1 h64
  go_wp2
  rw [← Hb.out]
  go_loopw [7, 8, 9] (fun lv rv kv wr => ∃ (row k : Nat) (M lead : List Int), rv = .int .i64 row ∧ kv = .int .i64 k ∧ k ≤ C ∧ row ≤ R ∧ lead.length = row ∧ M.length = l.length ∧ Hid (RInv w b6 (w.heap.size + 1) (b6 + 1) R C (.slice a6 l.length c6) lv M lead wr) ∧ Hid (RedS p R C f0 M lead row k)) (fun _ _ kv _ => C - (intOf kv).toNat)
  case atStart => exact ⟨0, 0, l, [], rfl, rfl, by omega, by omega, rfl, rfl, H0, H0S⟩
  case round =>
    obtain ⟨row, k, M, lead, rfl, rfl, hk, hrow, hlead, hMl, HI, HZ⟩ := hrel
    have HLE := Lib.hid hlead; have HML := Lib.hid hMl
    obtain ⟨f, Ln, hMf, hLn, hRF, hSt⟩ := HZ.out
    have HMF := Lib.hid hMf; have HLN := Lib.hid hLn; have HRF := Lib.hid hRF; have HST := Lib.hid hSt
    clear hlead hMl H0 hMf hLn hRF hSt
    obtain ⟨p0, p1, p2⟩ := blk3 HI.out.1
    obtain ⟨aL, cL, rfl, hlL, hmL⟩ := (Ints.of_own HI.out.2.2.2.1).1.shape
    by_cases hlt : k < C
    · by_cases hrt : row < R
      · have hNpos : 0 < l.length := by rw [HN.out]; exact Nat.mul_pos (by omega) (by omega)
        obtain ⟨g, hag, -, -, -, -⟩ := (Own.at HI.out.2.2.1).2.2 (by have := HML.out; omega)
        subst hag
        have hR1 : IntKind.i64.wrap ((R : Int) - 1) = (R : Int) - 1 := IntWalk.i64_in _ (by omega)
        go_wp2
        clear hR1
        go_loop [10, 11] (fun av iv => ∃ (t i : Int), av = .int .i64 t ∧ iv = .int .i64 i ∧ (row : Int) - 1 ≤ i ∧ i ≤ (R : Int) - 1 ∧ -1 ≤ t ∧ Hid ((t = -1 ∧ ∀ i' : Nat, i < i' → i' < R → f i' k = 0) ∨ ((row : Int) ≤ t ∧ t < R ∧ f t.toNat k ≠ 0 ∧ ∀ i' : Nat, i < i' → (i' : Int) < t → f i' k = 0))) (fun _ iv => (intOf iv + 1).toNat)
        case atStart => exact ⟨-1, (R : Int) - 1, rfl, rfl, by omega, by omega, by omega, .inl ⟨rfl, fun i' h1 h2 => absurd h2 (by omega)⟩⟩
        case round =>
          obtain ⟨t, i, rfl, rfl, hi1, hi2, ht1, HT⟩ := hrel
          by_cases hge : (row : Int) ≤ i
          · obtain ⟨I, rfl⟩ := Int.eq_ofNat_of_zero_le (show 0 ≤ i by omega)
            have hIR : I < R := by omega
            obtain ⟨q, hq⟩ : ∃ q, q = I * C := ⟨_, rfl⟩
            have hm : (I : Int) * (C : Int) = (q : Int) := by rw [hq]; simp
            have hqk : q + k < l.length := by rw [HN.out, hq]; exact mat_at hIR hlt
            have hq64 : q ≤ 64 := by have : I * C ≤ 8 * 8 := Nat.mul_le_mul (by omega) (by omega); omega
            obtain ⟨hcx, -⟩ := HI.out.cells (show q + k < M.length by have := HML.out; omega)
            obtain ⟨x, hx⟩ := elem_name M (q + k)
            rw [hx] at hcx
            rw [hq] at hx
            have HX := Lib.hid (show f I k = x by rw [← hx, HMF.out, matL_get f hIR hlt])
            have hj0 : (0 : Int) ≤ (q : Int) + (k : Int) := by omega
            have hj1 : (q : Int) + (k : Int) < (l.length : Int) := by omega
            clear hx hq
            by_cases hx0 : x = 0
            · have hxb : (x != 0) = false := by simpa using hx0
              have HT2 : Hid ((t = -1 ∧ ∀ i' : Nat, (I : Int) - 1 < i' → i' < R → f i' k = 0) ∨ ((row : Int) ≤ t ∧ t < R ∧ f t.toNat k ≠ 0 ∧ ∀ i' : Nat, (I : Int) - 1 < i' → (i' : Int) < t → f i' k = 0)) := by
                rcases HT.out with ⟨h1, h2⟩ | ⟨h1, h2, h3, h4⟩
                · refine .inl ⟨h1, fun i' h3 h4 => ?_⟩
                  by_cases e : i' = I
                  · rw [e, HX.out, hx0]
                  · exact h2 i' (by omega) h4
                · refine .inr ⟨h1, h2, h3, fun i' h5 h6 => ?_⟩
                  by_cases e : i' = I
                  · rw [e, HX.out, hx0]
                  · exact h4 i' (by omega) h6
              clear hx0
              go_wp2
              go_round
              case rel => exact ⟨t, (I : Int) - 1, rfl, by go_num, by omega, by omega, ht1, HT2⟩
              case measure => simp only [intOf]; omega
            · have hxb : (x != 0) = true := by simpa using hx0
              have HT2 : Hid (((I : Int) = -1 ∧ ∀ i' : Nat, (I : Int) - 1 < i' → i' < R → f i' k = 0) ∨ ((row : Int) ≤ (I : Int) ∧ (I : Int) < R ∧ f (I : Int).toNat k ≠ 0 ∧ ∀ i' : Nat, (I : Int) - 1 < i' → (i' : Int) < (I : Int) → f i' k = 0)) :=
                .inr ⟨hge, by omega, by rw [Int.toNat_natCast, HX.out]; exact hx0, fun i' h5 h6 => by omega⟩
              clear hx0
              go_wp2
              go_round
              case rel => exact ⟨(I : Int), (I : Int) - 1, rfl, by go_num, by omega, by omega, by omega, HT2⟩
              case measure => simp only [intOf]; omega
          · have hie : i = (row : Int) - 1 := by omega
            by_cases htn : t < 0
            · have HZ2 : Hid (RedS p R C f0 M lead row (k + 1)) := by
                have hz : ∀ r, row ≤ r → r < R → f r k = 0 := fun r h1 h2 => by
                  rcases HT.out with ⟨_, h3⟩ | ⟨h3, _⟩
                  · exact h3 r (by omega) h2
                  · omega
                exact ⟨f, Ln, HMF.out, HLN.out, HRF.out.skip hlt hz, HST.out.skip hlt hrt hz⟩
              go_wp2
              go_roundw
              case rel => exact ⟨row, k + 1, M, lead, rfl, by go_num, by omega, hrow, HLE.out, HML.out, HI, HZ2⟩
              case measure => simp [intOf]; omega
            · skip
              obtain ⟨T, rfl⟩ := Int.eq_ofNat_of_zero_le (show 0 ≤ t by omega)
              have HT2 : row ≤ T ∧ T < R ∧ f T k ≠ 0 ∧ ∀ r, row ≤ r → r < T → f r k = 0 := by
                rcases HT.out with ⟨h1, _⟩ | ⟨h1, h2, h3, h4⟩
                · omega
                · rw [Int.toNat_natCast] at h3
                  exact ⟨by omega, by omega, h3, fun r h5 h6 => h4 r (by omega) (by omega)⟩
              obtain ⟨hT1, hTR, hTx, hTl⟩ := HT2
              have HTX := Lib.hid hTx; have HTL := Lib.hid hTl
              clear hTl
              have htn2 : decide ((T : Int) < 0) = false := by simp
              have hge2 : decide ((row : Int) ≤ i) = false := by simp; omega
              obtain ⟨q1, hq1⟩ : ∃ q, q = row * C := ⟨_, rfl⟩
              obtain ⟨q2, hq2⟩ : ∃ q, q = T * C := ⟨_, rfl⟩
              have hm1 : (row : Int) * (C : Int) = (q1 : Int) := by rw [hq1]; simp
              have hm2 : (T : Int) * (C : Int) = (q2 : Int) := by rw [hq2]; simp
              have hb1 : q1 + C ≤ l.length := by rw [HN.out, hq1, ← Nat.succ_mul]; exact Nat.mul_le_mul_right _ hrt
              have hb2 : q2 + C ≤ l.length := by rw [HN.out, hq2, ← Nat.succ_mul]; exact Nat.mul_le_mul_right _ hTR
              have hl64 : l.length ≤ 64 := by rw [HN.out]; have : R * C ≤ 8 * 8 := Nat.mul_le_mul hR8 hC8; omega
              obtain ⟨hgl, hgb⟩ := HG.out g rfl
              have HQ1 := Lib.hid hq1; have HQ2 := Lib.hid hq2
              have HS0 := Lib.hid (show M = matL R C (swJ f row T 0) by rw [swJ_zero]; exact HMF.out)
              clear hTx hq1 hq2 HT HZ htn hge hie
              go_wp2
              clear htn2 hge2 p0 p1 p2
              go_loopw [12] (fun jv wr => ∃ (j : Nat) (M : List Int), jv = .int .i64 j ∧ j ≤ C ∧ M.length = l.length ∧ Hid (RInv w b6 (w.heap.size + 1) (b6 + 1) R C (.slice (some ⟨g, 0, none⟩) l.length c6) (.slice aL lead.length cL) M lead wr) ∧ Hid (M = matL R C (swJ f row T j))) (fun jv _ => C - (intOf jv).toNat)
              case atStart => exact ⟨0, _, rfl, by omega, HML.out, HI, HS0⟩
              case round =>
                obtain ⟨j, M', rfl, hj, hM', HJ, HSJ⟩ := hrel
                have HMJ := Lib.hid hM'
                obtain ⟨u0, u1, u2⟩ := blk3 HJ.out.1
                by_cases hjc : j < C
                · skip
                  obtain ⟨x, hx⟩ := elem_name M' (q1 + j)
                  have HXV := Lib.hid (show x = f row j by rw [← hx, HSJ.out, HQ1.out]; exact swJ_get f hrt hjc)
                  obtain ⟨hcx, hfx⟩ := HJ.out.cells (show q1 + j < M'.length by omega)
                  rw [hx] at hcx
                  have hix : (0 : Int) ≤ (q1 : Int) + (j : Int) := by omega
                  have hux : (q1 : Int) + (j : Int) < (l.length : Int) := by omega
                  clear hx
                  obtain ⟨y, hy⟩ := elem_name M' (q2 + j)
                  have HYV := Lib.hid (show y = f T j by rw [← hy, HSJ.out, HQ2.out]; exact swJ_get f hTR hjc)
                  have HSN := Lib.hid (show (M'.set (q1 + j) y).set (q2 + j) x = matL R C (swJ f row T (j + 1)) by rw [HSJ.out, HQ1.out, HQ2.out, HXV.out, HYV.out]; exact swJ_step f hrt hTR hjc)
                  obtain ⟨hcy, hfy⟩ := HJ.out.cells (show q2 + j < M'.length by omega)
                  rw [hy] at hcy
                  have hiy : (0 : Int) ≤ (q2 : Int) + (j : Int) := by omega
                  have huy : (q2 : Int) + (j : Int) < (l.length : Int) := by omega
                  clear hy
                  have hwq1 : IntKind.i64.wrap ((q1 : Int) + (j : Int)) = (q1 : Int) + (j : Int) := IntWalk.i64_in _ (by omega)
                  have hvq1 : IntKind.i64.wrap (q1 : Int) = (q1 : Int) := IntWalk.i64_in _ (by omega)
                  have htq1 : ((q1 : Int) + (j : Int)).toNat = q1 + j := by omega
                  have hwq2 : IntKind.i64.wrap ((q2 : Int) + (j : Int)) = (q2 : Int) + (j : Int) := IntWalk.i64_in _ (by omega)
                  have hvq2 : IntKind.i64.wrap (q2 : Int) = (q2 : Int) := IntWalk.i64_in _ (by omega)
                  have htq2 : ((q2 : Int) + (j : Int)).toNat = q2 + j := by omega
                  obtain ⟨W1, hW1⟩ : ∃ W1, W1 = wr.drew := ⟨_, rfl⟩
                  have K1 := Lib.hid (hW1 ▸ HJ.out.drewN 1 : RInv w b6 (w.heap.size + 1) (b6 + 1) R C (.slice (some ⟨g, 0, none⟩) l.length c6) (.slice aL lead.length cL) M' lead W1)
                  have K2 := Lib.hid (K1.out.store (by omega) (by omega) (by omega) (q1 + j) y)
                  have K3 := Lib.hid (K2.out.store (by omega) (by omega) (by omega) (q2 + j) x)
                  have HW1 := Lib.hid hW1
                  obtain ⟨he1, hf1⟩ := K1.out.cells (show q1 + j < M'.length by omega)
                  obtain ⟨he2, hf2⟩ := K2.out.cells (show q2 + j < (M'.set (q1 + j) y).length by rw [List.length_set]; omega)
                  clear hW1 hfx hfy hM'
                  go_wp2
                  go_still_tail 19, (by kernel_rfl)
                  change wpList _ _ _ _ _ wr.drew
                  rw [← HW1.out]
                  clear u0 u1 u2
                  obtain ⟨u0, u1, u2⟩ := blk3 K1.out.1
                  obtain ⟨v0, v1, v2⟩ := blk3 K2.out.1
                  clear hwq1 hvq1 htq1 hwq2 hvq2 htq2
                  go_wp2
                  go_roundw
                  case rel => exact ⟨j + 1, (M'.set (q1 + j) y).set (q2 + j) x, by go_num, by omega, by rw [List.length_set, List.length_set]; exact HMJ.out, K3, HSN⟩
                  case measure => simp [intOf]; omega
                · have hd : decide (j < C) = false := by simpa using hjc
                  have hjC : j = C := by omega
                  have HSW := Lib.hid (show M' = matL R C (swF f row T) by rw [HSJ.out, hjC, swJ_all])
                  clear hjc hjC
                  obtain ⟨x, hx⟩ := elem_name M' (q1 + k)
                  have HXT := Lib.hid (show x = f T k by rw [← hx, HSW.out, HQ1.out, matL_get _ hrt hlt]; unfold swF; rw [if_pos rfl])
                  obtain ⟨hcx, hfx⟩ := HJ.out.cells (show q1 + k < M'.length by omega)
                  rw [hx] at hcx
                  have hix : (0 : Int) ≤ (q1 : Int) + (k : Int) := by omega
                  have hux : (q1 : Int) + (k : Int) < (l.length : Int) := by omega
                  clear hx
                  clear hfx hM'
                  go_wp2_with fail
                  refine (s_InverseMod p x wr).mono ?_; rintro e w' ⟨rfl, rfl⟩
                  obtain ⟨iv, hiv⟩ : ∃ iv, iv = invV p x := ⟨_, rfl⟩
                  have HIV := Lib.hid (show iv = invV p (f T k) by rw [hiv, HXT.out])
                  have hivb : 0 ≤ iv ∧ iv ≤ 4 := by
                    rw [hiv]
                    exact invV_bd hF.out
                  have HSC0 := Lib.hid (show M' = matL R C (scJ p iv row (swF f row T) 0) by rw [scJ_zero]; exact HSW.out)
                  rw [← hiv]
                  clear hcx hix hux hiv
                  go_wp2
                  clear hd
                  go_loopw [15] (fun jv wr => ∃ (j : Nat) (M : List Int), jv = .int .i64 j ∧ j ≤ C ∧ M.length = l.length ∧ Hid (RInv w b6 (w.heap.size + 1) (b6 + 1) R C (.slice (some ⟨g, 0, none⟩) l.length c6) (.slice aL lead.length cL) M lead wr) ∧ Hid (M = matL R C (scJ p iv row (swF f row T) j))) (fun jv _ => C - (intOf jv).toNat)
                  case atStart => exact ⟨0, _, rfl, by omega, HMJ.out, HJ, HSC0⟩
                  case round =>
                    obtain ⟨j, M', rfl, hj, hM', HJ, HSJ⟩ := hrel
                    have HMJ := Lib.hid hM'
                    obtain ⟨u0, u1, u2⟩ := blk3 HJ.out.1
                    by_cases hjc : j < C
                    · skip
                      obtain ⟨x, hx⟩ := elem_name M' (q1 + j)
                      have HXV := Lib.hid (show x = swF f row T row j by rw [← hx, HSJ.out, HQ1.out]; exact scJ_get p iv (swF f row T) hrt hjc)
                      have hxb : 0 ≤ x ∧ x ≤ 4 := by
                        rw [HXV.out]; unfold swF; rw [if_pos rfl]
                        have := HRF.out.rng T j hTR hjc; omega
                      have HSN := Lib.hid (show M'.set (q1 + j) ((iv * x) % p) = matL R C (scJ p iv row (swF f row T) (j + 1)) by rw [HSJ.out, HQ1.out, HXV.out]; exact scJ_step p iv (swF f row T) hrt hjc)
                      have hprod : 0 ≤ iv * x ∧ iv * x ≤ 16 := prod4 hivb hxb
                      have hwix : IntKind.i64.wrap (iv * x) = iv * x := IntWalk.i64_in _ (by omega)
                      obtain ⟨hcx, hfx⟩ := HJ.out.cells (show q1 + j < M'.length by omega)
                      rw [hx] at hcx
                      have hix : (0 : Int) ≤ (q1 : Int) + (j : Int) := by omega
                      have hux : (q1 : Int) + (j : Int) < (l.length : Int) := by omega
                      clear hx
                      have hwq1 : IntKind.i64.wrap ((q1 : Int) + (j : Int)) = (q1 : Int) + (j : Int) := IntWalk.i64_in _ (by omega)
                      have hvq1 : IntKind.i64.wrap (q1 : Int) = (q1 : Int) := IntWalk.i64_in _ (by omega)
                      have htq1 : ((q1 : Int) + (j : Int)).toNat = q1 + j := by omega
                      obtain ⟨W1, hW1⟩ : ∃ W1, W1 = wr.drew := ⟨_, rfl⟩
                      have K1 := Lib.hid (hW1 ▸ HJ.out.drewN 1 : RInv w b6 (w.heap.size + 1) (b6 + 1) R C (.slice (some ⟨g, 0, none⟩) l.length c6) (.slice aL lead.length cL) M' lead W1)
                      have K2 := fun z => Lib.hid (K1.out.store (by omega) (by omega) (by omega) (q1 + j) z)
                      have HW1 := Lib.hid hW1
                      obtain ⟨he1, hf1⟩ := K1.out.cells (show q1 + j < M'.length by omega)
                      clear hW1 hfx hM'
                      go_wp2
                      go_still_tail 23, (by kernel_rfl)
                      still_call ((s_l2Mod _ _ hF.out _).mono fun _ _ h => ⟨h.1, h.2.symm⟩)
                      repeat still_step
                      refine wpStill_nil ?_
                      change wpList _ _ _ _ _ wr.drew
                      rw [← HW1.out]
                      clear u0 u1 u2
                      obtain ⟨u0, u1, u2⟩ := blk3 K1.out.1
                      clear hwq1 hvq1 htq1
                      go_wp2
                      go_roundw
                      case rel => exact ⟨j + 1, _, by go_num, by omega, by rw [List.length_set]; exact HMJ.out, K2 _, HSN⟩
                      case measure => simp [intOf]; omega
                    · have hd : decide (j < C) = false := by simpa using hjc
                      have hjC : j = C := by omega
                      have HEL0 := Lib.hid (show M' = matL R C (elJ p row k (scF p iv row (swF f row T)) 0 0) by rw [elJ_zero, HSJ.out, hjC, scJ_all])
                      clear hjc hjC
                      clear hM'
                      go_wp2
                      clear hd
                      go_loopw [16] (fun jv wr => ∃ (j : Nat) (M : List Int), jv = .int .i64 j ∧ j ≤ R ∧ M.length = l.length ∧ Hid (RInv w b6 (w.heap.size + 1) (b6 + 1) R C (.slice (some ⟨g, 0, none⟩) l.length c6) (.slice aL lead.length cL) M lead wr) ∧ Hid (M = matL R C (elJ p row k (scF p iv row (swF f row T)) j 0))) (fun jv _ => R - (intOf jv).toNat)
                      case atStart => exact ⟨0, _, rfl, by omega, HMJ.out, HJ, HEL0⟩
                      case round =>
                        obtain ⟨n, M', rfl, hj, hM', HJ, HSJ⟩ := hrel
                        have HMJ := Lib.hid hM'
                        obtain ⟨u0, u1, u2⟩ := blk3 HJ.out.1
                        by_cases hjc : n < R
                        · have hnR := hjc
                          obtain ⟨q3, hq3⟩ : ∃ q, q = n * C := ⟨_, rfl⟩
                          have hm3 : (n : Int) * (C : Int) = (q3 : Int) := by rw [hq3]; simp
                          have hb3 : q3 + C ≤ l.length := by rw [HN.out, hq3, ← Nat.succ_mul]; exact Nat.mul_le_mul_right _ hjc
                          have HQ3 := Lib.hid hq3
                          clear hq3
                          obtain ⟨fv, hf⟩ := elem_name M' (q3 + k)
                          have HFV := Lib.hid (show fv = scF p iv row (swF f row T) n k by rw [← hf, HSJ.out, HQ3.out]; exact elJ_get0 p k _ hjc hlt)
                          have hfvb : 0 ≤ fv ∧ fv ≤ 4 := by rw [HFV.out]; exact sc_bd hF.out HRF.out hTR hrt hjc hlt
                          have HEI0 := Lib.hid HSJ.out
                          obtain ⟨hcf, hff⟩ := HJ.out.cells (show q3 + k < M'.length by omega)
                          rw [hf] at hcf
                          have hif : (0 : Int) ≤ (q3 : Int) + (k : Int) := by omega
                          have huf : (q3 : Int) + (k : Int) < (l.length : Int) := by omega
                          clear hf
                          clear hff hM'
                          go_wp2
                          clear hcf hif huf u0 u1 u2
                          go_loopw [18] (fun jv wr => ∃ (j : Nat) (M : List Int), jv = .int .i64 j ∧ j ≤ C ∧ M.length = l.length ∧ Hid (RInv w b6 (w.heap.size + 1) (b6 + 1) R C (.slice (some ⟨g, 0, none⟩) l.length c6) (.slice aL lead.length cL) M lead wr) ∧ Hid (M = matL R C (elJ p row k (scF p iv row (swF f row T)) n j) ∧ (n = row → j = 0))) (fun jv _ => C - (intOf jv).toNat)
                          case atStart => exact ⟨0, _, rfl, by omega, HMJ.out, HJ, Lib.hid ⟨HEI0.out, fun _ => rfl⟩⟩
                          case round =>
                            obtain ⟨j, M', rfl, hj, hM', HJ, HSJ⟩ := hrel
                            have HMJ := Lib.hid hM'
                            obtain ⟨u0, u1, u2⟩ := blk3 HJ.out.1
                            by_cases hjc : j < C
                            · skip
                              by_cases hnr : n = row
                              · have hnr2 : ((n : Int) != (row : Int)) = false := by simp; omega
                                have HSN := Lib.hid (show M' = matL R C (elJ p row k (scF p iv row (swF f row T)) (n + 1) 0) by rw [HSJ.out.1, HSJ.out.2 hnr, hnr, elJ_same])
                                clear hnr hM'
                                go_wp2
                                go_roundw
                                case rel => exact ⟨n + 1, M', by go_num, by omega, HMJ.out, HJ, HSN⟩
                                case measure => simp [intOf]; omega
                              · have hnr2 : ((n : Int) != (row : Int)) = true := by simp; omega
                                obtain ⟨x, hx⟩ := elem_name M' (q3 + j)
                                have HXV := Lib.hid (show x = scF p iv row (swF f row T) n j by rw [← hx, HSJ.out.1, HQ3.out]; exact elJ_get p k _ hnR hjc)
                                have hxb : 0 ≤ x ∧ x ≤ 4 := by rw [HXV.out]; exact sc_bd hF.out HRF.out hTR hrt hnR hjc
                                obtain ⟨hcx, hfx⟩ := HJ.out.cells (show q3 + j < M'.length by omega)
                                rw [hx] at hcx
                                have hix : (0 : Int) ≤ (q3 : Int) + (j : Int) := by omega
                                have hux : (q3 : Int) + (j : Int) < (l.length : Int) := by omega
                                clear hx
                                obtain ⟨y, hy⟩ := elem_name M' (q1 + j)
                                have HYV := Lib.hid (show y = scF p iv row (swF f row T) row j by rw [← hy, HSJ.out.1, HQ1.out]; exact elJ_row p k _ hrt hjc)
                                have hyb : 0 ≤ y ∧ y ≤ 4 := by rw [HYV.out]; exact sc_bd hF.out HRF.out hTR hrt hrt hjc
                                have hprod : 0 ≤ fv * y ∧ fv * y ≤ 16 := prod4 hfvb hyb
                                have hwfy : IntKind.i64.wrap (fv * y) = fv * y := IntWalk.i64_in _ (by omega)
                                have hwxf : IntKind.i64.wrap (x - fv * y) = x - fv * y := IntWalk.i64_in _ (by omega)
                                have HSN := Lib.hid (show M'.set (q3 + j) ((x - fv * y) % p) = matL R C (elJ p row k (scF p iv row (swF f row T)) n (j + 1)) ∧ (n = row → j + 1 = 0) from ⟨by rw [HSJ.out.1, HQ3.out, HXV.out, HYV.out, HFV.out]; exact elJ_step p k _ hnR hjc hnr, fun h => absurd h hnr⟩)
                                obtain ⟨hcy, hfy⟩ := HJ.out.cells (show q1 + j < M'.length by omega)
                                rw [hy] at hcy
                                have hiy : (0 : Int) ≤ (q1 : Int) + (j : Int) := by omega
                                have huy : (q1 : Int) + (j : Int) < (l.length : Int) := by omega
                                clear hy
                                have hwq3 : IntKind.i64.wrap ((q3 : Int) + (j : Int)) = (q3 : Int) + (j : Int) := IntWalk.i64_in _ (by omega)
                                have hvq3 : IntKind.i64.wrap (q3 : Int) = (q3 : Int) := IntWalk.i64_in _ (by omega)
                                have htq3 : ((q3 : Int) + (j : Int)).toNat = q3 + j := by omega
                                have hwq1 : IntKind.i64.wrap ((q1 : Int) + (j : Int)) = (q1 : Int) + (j : Int) := IntWalk.i64_in _ (by omega)
                                have hvq1 : IntKind.i64.wrap (q1 : Int) = (q1 : Int) := IntWalk.i64_in _ (by omega)
                                have htq1 : ((q1 : Int) + (j : Int)).toNat = q1 + j := by omega
                                obtain ⟨W1, hW1⟩ : ∃ W1, W1 = wr.drew := ⟨_, rfl⟩
                                have K1 := Lib.hid (hW1 ▸ HJ.out.drewN 1 : RInv w b6 (w.heap.size + 1) (b6 + 1) R C (.slice (some ⟨g, 0, none⟩) l.length c6) (.slice aL lead.length cL) M' lead W1)
                                have K2 := fun z => Lib.hid (K1.out.store (by omega) (by omega) (by omega) (q3 + j) z)
                                have HW1 := Lib.hid hW1
                                obtain ⟨he1, hf1⟩ := K1.out.cells (show q3 + j < M'.length by omega)
                                clear hW1 hfx hfy hM' hnr
                                go_wp2
                                go_still_tail 34, (by kernel_rfl)
                                still_call ((s_l2Mod _ _ hF.out _).mono fun _ _ h => ⟨h.1, h.2.symm⟩)
                                repeat still_step
                                refine wpStill_nil ?_
                                change wpList _ _ _ _ _ wr.drew
                                rw [← HW1.out]
                                clear u0 u1 u2
                                obtain ⟨u0, u1, u2⟩ := blk3 K1.out.1
                                clear hwq3 hvq3 htq3 hwq1 hvq1 htq1
                                go_wp2
                                go_roundw
                                case rel => exact ⟨j + 1, _, by go_num, by omega, by rw [List.length_set]; exact HMJ.out, K2 _, HSN⟩
                                case measure => simp [intOf]; omega
                            · have hd : decide (j < C) = false := by simpa using hjc
                              have hjC : j = C := by omega
                              have HSN := Lib.hid (show M' = matL R C (elJ p row k (scF p iv row (swF f row T)) (n + 1) 0) by rw [HSJ.out.1, hjC, elJ_next])
                              clear hjc hjC
                              clear hM'
                              go_wp2
                              go_roundw
                              case rel => exact ⟨n + 1, M', by go_num, by omega, HMJ.out, HJ, HSN⟩
                              case measure => simp [intOf]; omega
                        · have hd : decide (n < R) = false := by simpa using hjc
                          have hjC : n = R := by omega
                          have HFIN := Lib.hid (show RedS p R C f0 M' (lead ++ [(k : Int)]) (row + 1) (k + 1) from ⟨stF p iv f row T k, Ln ++ [k], by rw [HSJ.out, hjC, elJ_all]; rfl, by rw [HLN.out]; simp, HRF.out.found hp5.1 hlt hT1 hTR (by rw [HIV.out]; exact invV_mul hF.out (HRF.out.rng T k hTR hlt).1 (HRF.out.rng T k hTR hlt).2 HTX.out), by rw [HIV.out]; exact HST.out.found hF.out HRF.out.rng hlt hT1 hTR HTX.out HTL.out⟩)
                          clear hjc hjC
                          clear hM'
                          go_wp2_with (at_builtin; refine app_int wr wr rfl (.tmp 203) (.tmp 205) rfl (b6 + 1) _ lead rfl rfl HJ.out.2.2.2.1 (Below.refl _ _) HJ.out.2.2.2.2.2 (by have := HLE.out; omega) ?_)
                          intro v' w' hown' hbel' hB'
                          have KF := Lib.hid (HJ.out.app (by omega) (by omega) (fun g' hg' => by have := HG.out g' hg'; omega) (by omega) hown' hbel')
                          clear hown' hbel' hB'
                          go_wp2
                          go_roundw
                          case rel => exact ⟨row + 1, k + 1, M', lead ++ [(k : Int)], by go_num, by go_num, by omega, by omega, by rw [List.length_append, HLE.out]; rfl, HMJ.out, KF, HFIN⟩
                          case measure => simp [intOf]; omega
      · have hre : row = R := by omega
        have hd2 : decide (row < R) = false := by simpa using hrt
        have HE := Lib.hid (HZ.out)
        have HF9 := Lib.hid (HI.out.fin (by omega))
        have hgb6 : ∀ q, (Value.slice a6 l.length c6).ownBlock = some q → q ≠ w.heap.size + 1 := fun q hq => by have := HG.out q hq; omega
        have hl64 : lead.length ≤ 64 := by rw [HLE.out]; omega
        obtain ⟨y0, y1, y2, q0, q1, q2, f0, f1, f2⟩ := HI.out.2.1.open_
        go_wp2
        exact bodyPost_ret (v := .tuple #[.agg #[.int .i64 R, .int .i64 C, .slice a6 l.length c6], .slice aL lead.length cL]) (by simp [results, Try.results51, go_sem, HF9.out.2.1, HF9.out.2.2.1, HF9.out.2.2.2]) rfl (HE.out.post HI.out (by omega) hgb6 (by omega) (.inr hre))
    · have hd : decide (k < C) = false := by simpa using hlt
      · skip
        have HE := Lib.hid (HZ.out)
        have hkC : k = C := by omega
        have HF9 := Lib.hid (HI.out.fin (by omega))
        have hgb6 : ∀ q, (Value.slice a6 l.length c6).ownBlock = some q → q ≠ w.heap.size + 1 := fun q hq => by have := HG.out q hq; omega
        have hl64 : lead.length ≤ 64 := by rw [HLE.out]; omega
        obtain ⟨y0, y1, y2, q0, q1, q2, f0, f1, f2⟩ := HI.out.2.1.open_
        go_wp2
        exact bodyPost_ret (v := .tuple #[.agg #[.int .i64 R, .int .i64 C, .slice a6 l.length c6], .slice aL lead.length cL]) (by simp [results, Try.results51, go_sem, HF9.out.2.1, HF9.out.2.2.1, HF9.out.2.2.2]) rfl (HE.out.post HI.out (by omega) hgb6 (by omega) (.inl hkC))
end Go.Proofs.Ytjcgommdeplbbaa
