/- blocks of the program: the plain law (two matrices on the diagonal), and the walk. -/
import Derived.Test.YtmcjgaffecimlaaBeside
import Derived.Test.YtmcjgaffecimlaaMat9
namespace Go.Proofs.Ytmcjgaffecimlaa
open Go.RowKit
set_option linter.unusedVariables false
set_option linter.unusedSimpArgs false

/-- two matrices with equally many rows beside each other -/
def besL (R A B : Nat) (la lb : List Int) : List Int := matL R (A + B) fun i k => if k < A then la.getD (i * A + k) 0 else lb.getD (i * B + (k - A)) 0
theorem besL_len (R A B : Nat) (la lb : List Int) : (besL R A B la lb).length = R * (A + B) := matL_len _ _ _
theorem bes_of {R A B : Nat} {la lb : List Int} : fcL R (colsK R A la A ++ colsK R B lb B) = besL R A B la lb := by
  unfold fcL besL
  have hl : (colsK R A la A ++ colsK R B lb B).length = A + B := by rw [List.length_append, colsK_len, colsK_len]
  rw [hl]
  apply matL_congr
  intro i k hi hk
  have hg : ∀ (C n : Nat) (l : List Int) (j : Nat), j < n → (colsK R C l n)[j]? = some (colL R C j l) := fun C n l j hj => by simp [colsK, hj]
  by_cases h : k < A
  · rw [if_pos h, List.getD_eq_getElem?_getD (l := colsK R A la A ++ colsK R B lb B), List.getElem?_append_left (by rw [colsK_len]; exact h), hg _ _ _ _ h]
    exact colL_get hi
  · rw [if_neg h, List.getD_eq_getElem?_getD (l := colsK R A la A ++ colsK R B lb B), List.getElem?_append_right (by rw [colsK_len]; omega), colsK_len, hg _ _ _ _ (by omega)]
    exact colL_get hi
theorem matL_app (r s c : Nat) (f : Nat → Nat → Int) : matL (r + s) c f = matL r c f ++ matL s c (fun i k => f (r + i) k) := by
  unfold matL
  rw [Nat.add_mul, List.range_add, List.map_append, List.map_map]
  congr 1
  apply List.map_congr_left
  intro t ht
  simp only [Function.comp]
  have hlt : t < s * c := by simpa using ht
  have hc : 0 < c := by
    rcases Nat.eq_zero_or_pos c with h | h
    · subst h; simp at hlt
    · exact h
  rw [Nat.add_comm (r * c) t, Nat.add_mul_div_right _ _ hc, Nat.add_mul_mod_self_right, Nat.add_comm (t / c) r]
theorem zeros_getD (n j : Nat) : (List.replicate n (0 : Int)).getD j 0 = 0 := by
  rw [List.getD_eq_getElem?_getD, List.getElem?_replicate]
  split <;> rfl
/-- the four parts put together -/
theorem blk_of (ra ca rb cb : Nat) (la lb : List Int) (nz mz : Nat) :
    besL ra ca cb la (List.replicate nz 0) ++ besL rb ca cb (List.replicate mz 0) lb = blkL ra ca rb cb la lb := by
  unfold blkL besL
  rw [matL_app ra rb (ca + cb)]
  congr 1
  · apply matL_congr
    intro i k hi hk
    unfold blkF
    rw [if_pos hi]
    by_cases h : k < ca
    · rw [if_pos h, if_pos h]
    · rw [if_neg h, if_neg h, zeros_getD]
  · apply matL_congr
    intro i k hi hk
    unfold blkF
    rw [if_neg (show ¬ ra + i < ra by omega)]
    by_cases h : k < ca
    · rw [if_pos h, if_pos h, zeros_getD]
    · rw [if_neg h, if_neg h, Nat.add_sub_cancel_left]

theorem i_besideL (R A B : Nat) (va vb : Value) (la lb : List Int) (w : World) (ha : Ints w va la) (hb : Ints w vb lb) (hla : la.length = R * A) (hlb : lb.length = R * B) (hR : R ≤ 8) (hA : A ≤ 8) (hB : B ≤ 8) :
    Calls Try.prog 65 #[.agg #[.int .i64 R, .int .i64 A, va], .agg #[.int .i64 R, .int .i64 B, vb]] w (MatNew R ((A : Int) + (B : Int)) (besL R A B la lb) w) := by
  have h := i_beside R A B va vb la lb w ha hb hla hlb hR hA hB
  rw [bes_of, List.length_append, colsK_len, colsK_len, Int.natCast_add] at h
  exact h
theorem i_belowL (C A B : Nat) (Ci : Int) (hCi : Ci = C) (va vb : Value) (la lb : List Int) (w : World) (ha : Ints w va la) (hb : Ints w vb lb) (hla : la.length = A * C) (hlb : lb.length = B * C) (hC : C ≤ 8) (hA : A ≤ 8) (hB : B ≤ 8) :
    Calls Try.prog 64 #[.agg #[.int .i64 A, .int .i64 Ci, va], .agg #[.int .i64 B, .int .i64 Ci, vb]] w (MatNew ((A : Int) + (B : Int)) Ci (la ++ lb) w) := by
  subst hCi
  have h := i_below C A B va vb la lb w ha hb hla hlb hC hA hB
  rw [List.flatten_append, rowsK_flat hla, rowsK_flat hlb, List.length_append, rowsK_len, rowsK_len, Int.natCast_add] at h
  exact h

set_option maxRecDepth 100000 in
set_option maxHeartbeats 4000000 in
theorem i_blocks (ra ca rb cb : Nat) (va vc vb : Value) (la lc lb : List Int) (w : World) (ha : Ints w va la) (hc : Ints w vc lc) (hb : Ints w vb lb) (hla : la.length = ra * ca) (hlc : lc = List.replicate (ra * cb) 0) (hlb : lb.length = rb * cb) (h1 : ra ≤ 8) (h2 : rb ≤ 8) (h3 : ca + cb ≤ 8) :
    Calls Try.prog 31 #[.agg #[.int .i64 ra, .int .i64 ca, va], .agg #[.int .i64 ra, .int .i64 cb, vc], .agg #[.int .i64 rb, .int .i64 cb, vb]] w (MatNew ((ra : Int) + (rb : Int)) ((ca : Int) + (cb : Int)) (blkL ra ca rb cb la lb) w) := by
  obtain ⟨aa, capa, rfl, _, _⟩ := ha.shape
  obtain ⟨ac, capc, rfl, _, _⟩ := hc.shape
  obtain ⟨ab, capb, rfl, _, _⟩ := hb.shape
  have hlc2 : lc.length = ra * cb := by rw [hlc]; simp
  have M := Lib.hid (((((((((MB.start w).addI ha).addI hc).addI hb).alloc #[.int .i64 ra, .int .i64 ca, .slice aa la.length capa] 26).alloc #[.int .i64 ra, .int .i64 cb, .slice ac lc.length capc] 26).alloc #[.int .i64 rb, .int .i64 cb, .slice ab lb.length capb] 26).alloc #[.int .i64 0, .int .i64 0, .slice none 0 0] 26))
  have HLA := Lib.hid hla; have HLB := Lib.hid hlb; have HLC := Lib.hid hlc2
  obtain ⟨Z, hZ⟩ : ∃ Z, Z = List.replicate (rb * ca) (0 : Int) := ⟨_, rfl⟩
  have HZL := Lib.hid (show Z.length = rb * ca by rw [hZ]; simp)
  have HBK := Lib.hid (show besL ra ca cb la lc ++ besL rb ca cb Z lb = blkL ra ca rb cb la lb from by rw [hlc, hZ]; exact blk_of ra ca rb cb la lb _ _)
  clear ha hb hc hla hlb hlc hlc2
  obtain ⟨W, hW⟩ : ∃ W, W = (((w.alloc (.cells #[.int .i64 ra, .int .i64 ca, .slice aa la.length capa] 26)).alloc (.cells #[.int .i64 ra, .int .i64 cb, .slice ac lc.length capc] 26)).alloc (.cells #[.int .i64 rb, .int .i64 cb, .slice ab lb.length capb] 26)).alloc (.cells #[.int .i64 0, .int .i64 0, .slice none 0 0] 26) := ⟨_, rfl⟩
  have hWs : W.heap.size = w.heap.size + 4 := by rw [hW]; simp
  rw [← hW] at M
  simp only [World.size_alloc] at M
  have HW := Lib.hid hW; have HWs := Lib.hid hWs
  clear hW hWs
  have HZC := Lib.hid (fun w' => (show Calls Try.prog 32 #[.int .i64 rb, .int .i64 ca] w' (MatNew rb ca Z w') from by rw [hZ]; exact i_zero rb ca (by omega) (by omega) w'))
  clear hZ
  have HS := Lib.hid (fun (w' : World) (hb : Below W.heap.size W w') => (show (w'.cell? ⟨w.heap.size, 0, none⟩ = some (.int .i64 ra) ∧ w'.cell? ⟨w.heap.size, 1, none⟩ = some (.int .i64 ca) ∧ w'.cell? ⟨w.heap.size, 2, none⟩ = some (.slice aa la.length capa)) ∧ (w'.cell? ⟨w.heap.size + 1, 0, none⟩ = some (.int .i64 ra) ∧ w'.cell? ⟨w.heap.size + 1, 1, none⟩ = some (.int .i64 cb) ∧ w'.cell? ⟨w.heap.size + 1, 2, none⟩ = some (.slice ac lc.length capc)) ∧ (w'.cell? ⟨w.heap.size + 1 + 1, 0, none⟩ = some (.int .i64 rb) ∧ w'.cell? ⟨w.heap.size + 1 + 1, 1, none⟩ = some (.int .i64 cb) ∧ w'.cell? ⟨w.heap.size + 1 + 1, 2, none⟩ = some (.slice ab lb.length capb)) from ⟨blk3 (M.out.call hb).b3, blk3 (M.out.call hb).b2, blk3 (M.out.call hb).b1⟩))
  have HX := Lib.hid (fun (w' : World) (hb : Below W.heap.size W w') (y0 y1 y2 : Value) => (show ((((w'.setCell ⟨w.heap.size + 1 + 1 + 1, 0, none⟩ y0).setCell ⟨w.heap.size + 1 + 1 + 1, 1, none⟩ y1).setCell ⟨w.heap.size + 1 + 1 + 1, 2, none⟩ y2).cell? ⟨w.heap.size, 0, none⟩ = some (.int .i64 ra) ∧ (((w'.setCell ⟨w.heap.size + 1 + 1 + 1, 0, none⟩ y0).setCell ⟨w.heap.size + 1 + 1 + 1, 1, none⟩ y1).setCell ⟨w.heap.size + 1 + 1 + 1, 2, none⟩ y2).cell? ⟨w.heap.size, 1, none⟩ = some (.int .i64 ca) ∧ (((w'.setCell ⟨w.heap.size + 1 + 1 + 1, 0, none⟩ y0).setCell ⟨w.heap.size + 1 + 1 + 1, 1, none⟩ y1).setCell ⟨w.heap.size + 1 + 1 + 1, 2, none⟩ y2).cell? ⟨w.heap.size, 2, none⟩ = some (.slice aa la.length capa)) ∧
    ((((w'.setCell ⟨w.heap.size + 1 + 1 + 1, 0, none⟩ y0).setCell ⟨w.heap.size + 1 + 1 + 1, 1, none⟩ y1).setCell ⟨w.heap.size + 1 + 1 + 1, 2, none⟩ y2).cell? ⟨w.heap.size + 1, 0, none⟩ = some (.int .i64 ra) ∧ (((w'.setCell ⟨w.heap.size + 1 + 1 + 1, 0, none⟩ y0).setCell ⟨w.heap.size + 1 + 1 + 1, 1, none⟩ y1).setCell ⟨w.heap.size + 1 + 1 + 1, 2, none⟩ y2).cell? ⟨w.heap.size + 1, 1, none⟩ = some (.int .i64 cb) ∧ (((w'.setCell ⟨w.heap.size + 1 + 1 + 1, 0, none⟩ y0).setCell ⟨w.heap.size + 1 + 1 + 1, 1, none⟩ y1).setCell ⟨w.heap.size + 1 + 1 + 1, 2, none⟩ y2).cell? ⟨w.heap.size + 1, 2, none⟩ = some (.slice ac lc.length capc)) ∧
    ((((w'.setCell ⟨w.heap.size + 1 + 1 + 1, 0, none⟩ y0).setCell ⟨w.heap.size + 1 + 1 + 1, 1, none⟩ y1).setCell ⟨w.heap.size + 1 + 1 + 1, 2, none⟩ y2).cell? ⟨w.heap.size + 1 + 1, 0, none⟩ = some (.int .i64 rb) ∧ (((w'.setCell ⟨w.heap.size + 1 + 1 + 1, 0, none⟩ y0).setCell ⟨w.heap.size + 1 + 1 + 1, 1, none⟩ y1).setCell ⟨w.heap.size + 1 + 1 + 1, 2, none⟩ y2).cell? ⟨w.heap.size + 1 + 1, 1, none⟩ = some (.int .i64 cb) ∧ (((w'.setCell ⟨w.heap.size + 1 + 1 + 1, 0, none⟩ y0).setCell ⟨w.heap.size + 1 + 1 + 1, 1, none⟩ y1).setCell ⟨w.heap.size + 1 + 1 + 1, 2, none⟩ y2).cell? ⟨w.heap.size + 1 + 1, 2, none⟩ = some (.slice ab lb.length capb)) from by
    have k := ((((Chg.refl (fun k => k = w.heap.size + 1 + 1 + 1) w').setCell (p := ⟨w.heap.size + 1 + 1 + 1, 0, none⟩) rfl y0).setCell (p := ⟨w.heap.size + 1 + 1 + 1, 1, none⟩) rfl y1).setCell (p := ⟨w.heap.size + 1 + 1 + 1, 2, none⟩) rfl y2)
    exact ⟨blk3 (Blk.chg (M.out.call hb).b3 k (by omega)), blk3 (Blk.chg (M.out.call hb).b2 k (by omega)), blk3 (Blk.chg (M.out.call hb).b1 k (by omega))⟩))
  go_enter Try.func31, Try.ntmps31
  go_upto_region 1 with fail
  rw [← HW.out]
  go_region_held3 (fun w' => (w'.cell? ⟨w.heap.size, 0, none⟩ = some (.int .i64 ra) ∧ w'.cell? ⟨w.heap.size, 1, none⟩ = some (.int .i64 ca) ∧ w'.cell? ⟨w.heap.size, 2, none⟩ = some (.slice aa la.length capa)) ∧ (w'.cell? ⟨w.heap.size + 1, 0, none⟩ = some (.int .i64 ra) ∧ w'.cell? ⟨w.heap.size + 1, 1, none⟩ = some (.int .i64 cb) ∧ w'.cell? ⟨w.heap.size + 1, 2, none⟩ = some (.slice ac lc.length capc)) ∧ (w'.cell? ⟨w.heap.size + 1 + 1, 0, none⟩ = some (.int .i64 rb) ∧ w'.cell? ⟨w.heap.size + 1 + 1, 1, none⟩ = some (.int .i64 cb) ∧ w'.cell? ⟨w.heap.size + 1 + 1, 2, none⟩ = some (.slice ab lb.length capb)))
    (first
      | with_reducible exact HS.out _ ((Below.refl _ _).drew)
      | with_reducible exact HS.out _ hb1
      | with_reducible exact HS.out _ hb2
      | with_reducible exact HS.out _ hb3
      | with_reducible exact HS.out _ hb4
      | with_reducible exact HX.out _ hb4 _ _ _)
    (first
      | (go_at_call 64; (with_reducible refine (i_belowL (ca + cb) ra rb ((ca : Int) + (cb : Int)) (by omega) _ _ (besL ra ca cb la lc) (besL rb ca cb Z lb) _ (h9.below (Below.refl _ w3)) h16 (besL_len _ _ _ _ _) (besL_len _ _ _ _ _) (by omega) (by omega) (by omega)).mono ?_); rintro e w4 ⟨v4, rfl, hv4, hf4, b4⟩; rw [HBK.out] at hv4; have hb4 := hb3.trans (b4.mono hb3.size); obtain ⟨a4, c4, rfl, _, _⟩ := hv4.shape; obtain ⟨q0, q1, q2⟩ := blk3 (M.out.call hb4).b0; obtain ⟨z0, z1, z2⟩ := frz3 (M.out.call hb4).b0)
      | (go_at_call 65; (with_reducible refine (i_besideL ra ca cb _ _ la lc _ (M.out.i2.below hb2) (M.out.i1.below hb2) HLA.out HLC.out (by omega) (by omega) (by omega)).mono ?_); rintro e w3 ⟨v9, rfl, h9, _, b3⟩; have hb3 := hb2.trans (b3.mono hb2.size); obtain ⟨a9, c9, rfl, _, _⟩ := h9.shape; have h16 := h16.below b3)
      | (go_at_call 65; (with_reducible refine (i_besideL rb ca cb _ _ Z lb _ hz2 (M.out.i0.below hb2) HZL.out HLB.out (by omega) (by omega) (by omega)).mono ?_); rintro e w3 ⟨v16, rfl, h16, _, b3⟩; have hb3 := hb2.trans (b3.mono hb2.size); obtain ⟨a16, c16, rfl, _, _⟩ := h16.shape; have h9 := h9.below b3)
      | (go_at_call 65; (with_reducible refine (i_besideL ra ca cb _ _ la lc _ (M.out.i2.below hb1) (M.out.i1.below hb1) HLA.out HLC.out (by omega) (by omega) (by omega)).mono ?_); rintro e w2 ⟨v9, rfl, h9, _, b2⟩; have hb2 := hb1.trans (b2.mono hb1.size); obtain ⟨a9, c9, rfl, _, _⟩ := h9.shape; have hz2 := hz1.below b2)
      | (go_at_call 65; (with_reducible refine (i_besideL rb ca cb _ _ Z lb _ hz1 (M.out.i0.below hb1) HZL.out HLB.out (by omega) (by omega) (by omega)).mono ?_); rintro e w2 ⟨v16, rfl, h16, _, b2⟩; have hb2 := hb1.trans (b2.mono hb1.size); obtain ⟨a16, c16, rfl, _, _⟩ := h16.shape)
      | (go_at_call 65; (with_reducible refine (i_besideL ra ca cb _ _ la lc _ (M.out.i2.below ((Below.refl _ _).drew)) (M.out.i1.below ((Below.refl _ _).drew)) HLA.out HLC.out (by omega) (by omega) (by omega)).mono ?_); rintro e w1 ⟨v9, rfl, h9, _, b1⟩; have hb1 := (Below.refl W.heap.size W).drew.trans b1; obtain ⟨a9, c9, rfl, _, _⟩ := h9.shape)
      | (go_at_call 32; (with_reducible refine (HZC.out w1).mono ?_); rintro e w2 ⟨vz, rfl, hz2, _, b2⟩; have hb2 := hb1.trans (b2.mono hb1.size); obtain ⟨az, cz, rfl, _, _⟩ := hz2.shape; have h9 := h9.below b2)
      | (go_at_call 32; (with_reducible refine (HZC.out _).mono ?_); rintro e w1 ⟨vz, rfl, hz1, _, b1⟩; have hb1 := (Below.refl W.heap.size W).drew.trans b1; obtain ⟨az, cz, rfl, _, _⟩ := hz1.shape))
  all_goals
    have HT := Lib.hid (mat_end (M.out.call hb4) (by omega) hv4 (fun q hq => by have := hf4 q hq; have := hb3.size; have := HWs.out; omega) (.int .i64 ((ra : Int) + (rb : Int))) (.int .i64 ((ca : Int) + (cb : Int))))
    clear hv4 hf4 b4 hb4 q0 q1 q2 z0 z1 z2
    go_wp2
    exact bodyPost_ret (v := .agg #[.int .i64 ((ra : Int) + (rb : Int)), .int .i64 ((ca : Int) + (cb : Int)), .slice a4 (blkL ra ca rb cb la lb).length c4]) (by simp [results, Try.results31, go_sem, HT.out.2.1, HT.out.2.2.1, HT.out.2.2.2]) rfl ⟨_, rfl, HT.out.1⟩

end Go.Proofs.Ytmcjgaffecimlaa
