/- beside, below and blocks of the program: matrices put together. -/
import Derived.Test.YtmcjgaffecimlaaCols
import Derived.Test.YtmcjgaffecimlaaFromC
import Derived.Test.YtmcjgaffecimlaaFromR
import Derived.Test.YtmcjgaffecimlaaAppRows
import Derived.Test.YtmcjgaffecimlaaBlk
namespace Go.Proofs.Ytmcjgaffecimlaa
open Go.RowKit
set_option linter.unusedVariables false
set_option linter.unusedSimpArgs false

theorem fc_len2 {LL : List (List Int)} {k : Nat} (hk : k < LL.length) : LL.getD k [] ∈ LL := by rw [List.getD_eq_getElem?_getD, List.getElem?_eq_getElem hk]; exact List.getElem_mem hk
set_option maxRecDepth 100000 in
set_option maxHeartbeats 2000000 in
theorem i_beside (R A B : Nat) (va vb : Value) (la lb : List Int) (w : World) (ha : Ints w va la) (hb : Ints w vb lb) (hla : la.length = R * A) (hlb : lb.length = R * B) (hR : R ≤ 8) (hA : A ≤ 8) (hB : B ≤ 8) :
    Calls Try.prog 65 #[.agg #[.int .i64 R, .int .i64 A, va], .agg #[.int .i64 R, .int .i64 B, vb]] w (MatNew R ((colsK R A la A ++ colsK R B lb B).length : Nat) (fcL R (colsK R A la A ++ colsK R B lb B)) w) := by
  obtain ⟨aa, capa, rfl, _, _⟩ := ha.shape
  obtain ⟨ab, capb, rfl, _, _⟩ := hb.shape
  have M := Lib.hid ((((((MB.start w).addI ha).addI hb).alloc #[.int .i64 R, .int .i64 A, .slice aa la.length capa] 26).alloc #[.int .i64 R, .int .i64 B, .slice ab lb.length capb] 26).alloc #[.int .i64 0, .int .i64 0, .slice none 0 0] 26)
  have HLA := Lib.hid hla; have HLB := Lib.hid hlb
  clear ha hb hla hlb
  obtain ⟨W, hW⟩ : ∃ W, W = ((w.alloc (.cells #[.int .i64 R, .int .i64 A, .slice aa la.length capa] 26)).alloc (.cells #[.int .i64 R, .int .i64 B, .slice ab lb.length capb] 26)).alloc (.cells #[.int .i64 0, .int .i64 0, .slice none 0 0] 26) := ⟨_, rfl⟩
  have hWs : W.heap.size = w.heap.size + 3 := by rw [hW]; simp
  rw [← hW] at M
  simp only [World.size_alloc] at M
  have HW := Lib.hid hW; have HWs := Lib.hid hWs
  clear hW hWs
  obtain ⟨LL, hLL⟩ : ∃ LL, LL = colsK R A la A ++ colsK R B lb B := ⟨_, rfl⟩
  have hlen : LL.length = A + B := by rw [hLL, List.length_append, colsK_len, colsK_len]
  have hcols : ∀ k, k < LL.length → (LL.getD k []).length = R := by
    intro k hk
    have hm := fc_len2 hk
    generalize LL.getD k [] = x at hm ⊢
    rw [hLL] at hm
    rcases List.mem_append.1 hm with h | h <;>
      (simp only [colsK, List.mem_map] at h; obtain ⟨i, _, rfl⟩ := h; exact colL_len _ _ _ _)
  have HLL := Lib.hid hLL; have HC := Lib.hid hcols; have HLEN := Lib.hid hlen
  rw [← hLL]
  clear hLL hcols hlen
  have HS := Lib.hid (fun (w' : World) (hb : Below W.heap.size W w') => (show (w'.cell? ⟨w.heap.size, 0, none⟩ = some (.int .i64 R) ∧ w'.cell? ⟨w.heap.size, 1, none⟩ = some (.int .i64 A) ∧ w'.cell? ⟨w.heap.size, 2, none⟩ = some (.slice aa la.length capa)) ∧ (w'.cell? ⟨w.heap.size + 1, 0, none⟩ = some (.int .i64 R) ∧ w'.cell? ⟨w.heap.size + 1, 1, none⟩ = some (.int .i64 B) ∧ w'.cell? ⟨w.heap.size + 1, 2, none⟩ = some (.slice ab lb.length capb)) from ⟨blk3 (M.out.call hb).b2, blk3 (M.out.call hb).b1⟩))
  have HX := Lib.hid (fun (w' : World) (hb : Below W.heap.size W w') (y0 y1 y2 : Value) => (show ((((w'.setCell ⟨w.heap.size + 2, 0, none⟩ y0).setCell ⟨w.heap.size + 2, 1, none⟩ y1).setCell ⟨w.heap.size + 2, 2, none⟩ y2).cell? ⟨w.heap.size, 0, none⟩ = some (.int .i64 R) ∧ (((w'.setCell ⟨w.heap.size + 2, 0, none⟩ y0).setCell ⟨w.heap.size + 2, 1, none⟩ y1).setCell ⟨w.heap.size + 2, 2, none⟩ y2).cell? ⟨w.heap.size, 1, none⟩ = some (.int .i64 A) ∧ (((w'.setCell ⟨w.heap.size + 2, 0, none⟩ y0).setCell ⟨w.heap.size + 2, 1, none⟩ y1).setCell ⟨w.heap.size + 2, 2, none⟩ y2).cell? ⟨w.heap.size, 2, none⟩ = some (.slice aa la.length capa)) ∧ ((((w'.setCell ⟨w.heap.size + 2, 0, none⟩ y0).setCell ⟨w.heap.size + 2, 1, none⟩ y1).setCell ⟨w.heap.size + 2, 2, none⟩ y2).cell? ⟨w.heap.size + 1, 0, none⟩ = some (.int .i64 R) ∧ (((w'.setCell ⟨w.heap.size + 2, 0, none⟩ y0).setCell ⟨w.heap.size + 2, 1, none⟩ y1).setCell ⟨w.heap.size + 2, 2, none⟩ y2).cell? ⟨w.heap.size + 1, 1, none⟩ = some (.int .i64 B) ∧ (((w'.setCell ⟨w.heap.size + 2, 0, none⟩ y0).setCell ⟨w.heap.size + 2, 1, none⟩ y1).setCell ⟨w.heap.size + 2, 2, none⟩ y2).cell? ⟨w.heap.size + 1, 2, none⟩ = some (.slice ab lb.length capb)) from by
    have h1 := Blk.chg (M.out.call hb).b2 ((((Chg.refl (fun k => k = w.heap.size + 2) w').setCell (p := ⟨w.heap.size + 2, 0, none⟩) rfl y0).setCell (p := ⟨w.heap.size + 2, 1, none⟩) rfl y1).setCell (p := ⟨w.heap.size + 2, 2, none⟩) rfl y2) (by omega)
    have h2 := Blk.chg (M.out.call hb).b1 ((((Chg.refl (fun k => k = w.heap.size + 2) w').setCell (p := ⟨w.heap.size + 2, 0, none⟩) rfl y0).setCell (p := ⟨w.heap.size + 2, 1, none⟩) rfl y1).setCell (p := ⟨w.heap.size + 2, 2, none⟩) rfl y2) (by omega)
    exact ⟨blk3 h1, blk3 h2⟩))
  go_enter Try.func65, Try.ntmps65
  go_upto_region 1 with fail
  rw [← HW.out]
  go_region_held3 (fun w' => (w'.cell? ⟨w.heap.size, 0, none⟩ = some (.int .i64 R) ∧ w'.cell? ⟨w.heap.size, 1, none⟩ = some (.int .i64 A) ∧ w'.cell? ⟨w.heap.size, 2, none⟩ = some (.slice aa la.length capa)) ∧ (w'.cell? ⟨w.heap.size + 1, 0, none⟩ = some (.int .i64 R) ∧ w'.cell? ⟨w.heap.size + 1, 1, none⟩ = some (.int .i64 B) ∧ w'.cell? ⟨w.heap.size + 1, 2, none⟩ = some (.slice ab lb.length capb)))
    (first
      | with_reducible exact HS.out _ ((Below.refl _ _).drew)
      | with_reducible exact HS.out _ hb1
      | with_reducible exact HS.out _ hb2
      | with_reducible exact HS.out _ hb3
      | with_reducible exact HS.out _ hb4
      | with_reducible exact HX.out _ hb4 _ _ _)
    (first
      | (go_at_call 78; (with_reducible refine (i_columnsO R A _ la _ (M.out.i1.below hb1) HLA.out (by omega) (by omega)).mono ?_); rintro e w2 ⟨v8, rfl, ho8, b2⟩; have hb2 := hb1.trans (b2.mono hb1.size); have ho8 := ho8.mono hb1.size; have ho10 := ho10.below b2)
      | (go_at_call 78; (with_reducible refine (i_columnsO R B _ lb _ (M.out.i0.below hb1) HLB.out (by omega) (by omega)).mono ?_); rintro e w2 ⟨v10, rfl, ho10, b2⟩; have hb2 := hb1.trans (b2.mono hb1.size); have ho10 := ho10.mono hb1.size; have ho8 := ho8.below b2)
      | (go_at_call 78; (with_reducible refine (i_columnsO R A _ la _ (M.out.i1.below ((Below.refl _ _).drew)) HLA.out (by omega) (by omega)).mono ?_); rintro e w1 ⟨v8, rfl, ho8, b1⟩; have hb1 := (Below.refl W.heap.size W).drew.trans b1)
      | (go_at_call 78; (with_reducible refine (i_columnsO R B _ lb _ (M.out.i0.below ((Below.refl _ _).drew)) HLB.out (by omega) (by omega)).mono ?_); rintro e w1 ⟨v10, rfl, ho10, b1⟩; have hb1 := (Below.refl W.heap.size W).drew.trans b1)
      | (refine step_app_rows W _ (by rfl) (.tmp 8) (.tmp 10) (by rfl) _ _ (colsK R A la A) (colsK R B lb B) (by rfl) (by rfl) ho10.rws ho8 hb2 (by rw [colsK_len, colsK_len]; omega) ?_; intro v11 w3 ho11 hb3; rw [← HLL.out] at ho11)
      | (go_at_call 77; (with_reducible refine (i_fromColumns R _ LL _ (ho11.rws.mono (Nat.zero_le _)) (by omega) (by have := HLEN.out; omega) HC.out).mono ?_); rintro e w4 ⟨v4, rfl, hv4, hf4, b4⟩; have hb4 := hb3.trans (b4.mono hb3.size); obtain ⟨a4, c4, rfl, _, _⟩ := hv4.shape; obtain ⟨q0, q1, q2⟩ := blk3 (M.out.call hb4).b0; obtain ⟨z0, z1, z2⟩ := frz3 (M.out.call hb4).b0))
  all_goals
    have HT := Lib.hid (mat_end (M.out.call hb4) (by omega) hv4 (fun q hq => by have := hf4 q hq; have := hb3.size; have := HWs.out; omega) (.int .i64 R) (.int .i64 LL.length))
    clear hv4 hf4 b4 hb4 q0 q1 q2 z0 z1 z2
    go_wp2
    exact bodyPost_ret (v := .agg #[.int .i64 R, .int .i64 LL.length, .slice a4 (fcL R LL).length c4]) (by simp [results, Try.results65, go_sem, HT.out.2.1, HT.out.2.2.1, HT.out.2.2.2]) rfl ⟨_, rfl, HT.out.1⟩

theorem rowsK_flat {r c : Nat} {l : List Int} (hl : l.length = r * c) : (rowsK c l r).flatten = l := by
  have key : ∀ k, k ≤ r → (rowsK c l k).flatten = l.take (k * c) := by
    intro k hk
    induction k with
    | zero => simp [rowsK]
    | succ k ih =>
      rw [← rowsK_succ, List.flatten_append, ih (by omega)]
      simp only [List.flatten_cons, List.flatten_nil, List.append_nil]
      unfold rowL
      rw [Nat.add_mul, Nat.one_mul, List.take_add]
  rw [key r (Nat.le_refl _), ← hl, List.take_length]

set_option maxRecDepth 100000 in
set_option maxHeartbeats 2000000 in
theorem i_below (C A B : Nat) (va vb : Value) (la lb : List Int) (w : World) (ha : Ints w va la) (hb : Ints w vb lb) (hla : la.length = A * C) (hlb : lb.length = B * C) (hC : C ≤ 8) (hA : A ≤ 8) (hB : B ≤ 8) :
    Calls Try.prog 64 #[.agg #[.int .i64 A, .int .i64 C, va], .agg #[.int .i64 B, .int .i64 C, vb]] w (MatNew ((rowsK C la A ++ rowsK C lb B).length : Nat) C (rowsK C la A ++ rowsK C lb B).flatten w) := by
  obtain ⟨aa, capa, rfl, _, _⟩ := ha.shape
  obtain ⟨ab, capb, rfl, _, _⟩ := hb.shape
  have M := Lib.hid ((((((MB.start w).addI ha).addI hb).alloc #[.int .i64 A, .int .i64 C, .slice aa la.length capa] 26).alloc #[.int .i64 B, .int .i64 C, .slice ab lb.length capb] 26).alloc #[.int .i64 0, .int .i64 0, .slice none 0 0] 26)
  have HLA := Lib.hid hla; have HLB := Lib.hid hlb
  have hla2 := hla; have hlb2 := hlb
  clear ha hb hla hlb
  obtain ⟨W, hW⟩ : ∃ W, W = ((w.alloc (.cells #[.int .i64 A, .int .i64 C, .slice aa la.length capa] 26)).alloc (.cells #[.int .i64 B, .int .i64 C, .slice ab lb.length capb] 26)).alloc (.cells #[.int .i64 0, .int .i64 0, .slice none 0 0] 26) := ⟨_, rfl⟩
  have hWs : W.heap.size = w.heap.size + 3 := by rw [hW]; simp
  rw [← hW] at M
  simp only [World.size_alloc] at M
  have HW := Lib.hid hW; have HWs := Lib.hid hWs
  clear hW hWs
  obtain ⟨LL, hLL⟩ : ∃ LL, LL = rowsK C la A ++ rowsK C lb B := ⟨_, rfl⟩
  have hlen : LL.length = A + B := by rw [hLL, List.length_append, rowsK_len, rowsK_len]
  have hcols : LL.flatten.length ≤ 1048576 := by
    rw [hLL, List.flatten_append, rowsK_flat hla2, rowsK_flat hlb2, List.length_append, hla2, hlb2]
    have := Nat.mul_le_mul hA hC; have := Nat.mul_le_mul hB hC; omega
  obtain ⟨F, hF⟩ : ∃ F, F = LL.flatten := ⟨_, rfl⟩
  have HFR := Lib.hid (fun (v : Value) (w' : World) (hr : Rws 0 w' v LL) => (show Calls Try.prog 75 #[.int .i64 C, v] w' (MatNew LL.length C F w') from by rw [hF]; exact i_fromRows C v LL w' hr hcols (by omega)))
  have HLL := Lib.hid hLL; have HC := Lib.hid hcols; have HLEN := Lib.hid hlen
  rw [← hLL, ← hF]
  clear hLL hcols hlen hla2 hlb2 hF
  have HS := Lib.hid (fun (w' : World) (hb : Below W.heap.size W w') => (show (w'.cell? ⟨w.heap.size, 0, none⟩ = some (.int .i64 A) ∧ w'.cell? ⟨w.heap.size, 1, none⟩ = some (.int .i64 C) ∧ w'.cell? ⟨w.heap.size, 2, none⟩ = some (.slice aa la.length capa)) ∧ (w'.cell? ⟨w.heap.size + 1, 0, none⟩ = some (.int .i64 B) ∧ w'.cell? ⟨w.heap.size + 1, 1, none⟩ = some (.int .i64 C) ∧ w'.cell? ⟨w.heap.size + 1, 2, none⟩ = some (.slice ab lb.length capb)) from ⟨blk3 (M.out.call hb).b2, blk3 (M.out.call hb).b1⟩))
  have HX := Lib.hid (fun (w' : World) (hb : Below W.heap.size W w') (y0 y1 y2 : Value) => (show ((((w'.setCell ⟨w.heap.size + 2, 0, none⟩ y0).setCell ⟨w.heap.size + 2, 1, none⟩ y1).setCell ⟨w.heap.size + 2, 2, none⟩ y2).cell? ⟨w.heap.size, 0, none⟩ = some (.int .i64 A) ∧ (((w'.setCell ⟨w.heap.size + 2, 0, none⟩ y0).setCell ⟨w.heap.size + 2, 1, none⟩ y1).setCell ⟨w.heap.size + 2, 2, none⟩ y2).cell? ⟨w.heap.size, 1, none⟩ = some (.int .i64 C) ∧ (((w'.setCell ⟨w.heap.size + 2, 0, none⟩ y0).setCell ⟨w.heap.size + 2, 1, none⟩ y1).setCell ⟨w.heap.size + 2, 2, none⟩ y2).cell? ⟨w.heap.size, 2, none⟩ = some (.slice aa la.length capa)) ∧ ((((w'.setCell ⟨w.heap.size + 2, 0, none⟩ y0).setCell ⟨w.heap.size + 2, 1, none⟩ y1).setCell ⟨w.heap.size + 2, 2, none⟩ y2).cell? ⟨w.heap.size + 1, 0, none⟩ = some (.int .i64 B) ∧ (((w'.setCell ⟨w.heap.size + 2, 0, none⟩ y0).setCell ⟨w.heap.size + 2, 1, none⟩ y1).setCell ⟨w.heap.size + 2, 2, none⟩ y2).cell? ⟨w.heap.size + 1, 1, none⟩ = some (.int .i64 C) ∧ (((w'.setCell ⟨w.heap.size + 2, 0, none⟩ y0).setCell ⟨w.heap.size + 2, 1, none⟩ y1).setCell ⟨w.heap.size + 2, 2, none⟩ y2).cell? ⟨w.heap.size + 1, 2, none⟩ = some (.slice ab lb.length capb)) from by
    have h1 := Blk.chg (M.out.call hb).b2 ((((Chg.refl (fun k => k = w.heap.size + 2) w').setCell (p := ⟨w.heap.size + 2, 0, none⟩) rfl y0).setCell (p := ⟨w.heap.size + 2, 1, none⟩) rfl y1).setCell (p := ⟨w.heap.size + 2, 2, none⟩) rfl y2) (by omega)
    have h2 := Blk.chg (M.out.call hb).b1 ((((Chg.refl (fun k => k = w.heap.size + 2) w').setCell (p := ⟨w.heap.size + 2, 0, none⟩) rfl y0).setCell (p := ⟨w.heap.size + 2, 1, none⟩) rfl y1).setCell (p := ⟨w.heap.size + 2, 2, none⟩) rfl y2) (by omega)
    exact ⟨blk3 h1, blk3 h2⟩))
  go_enter Try.func64, Try.ntmps64
  go_upto_region 1 with fail
  rw [← HW.out]
  go_region_held3 (fun w' => (w'.cell? ⟨w.heap.size, 0, none⟩ = some (.int .i64 A) ∧ w'.cell? ⟨w.heap.size, 1, none⟩ = some (.int .i64 C) ∧ w'.cell? ⟨w.heap.size, 2, none⟩ = some (.slice aa la.length capa)) ∧ (w'.cell? ⟨w.heap.size + 1, 0, none⟩ = some (.int .i64 B) ∧ w'.cell? ⟨w.heap.size + 1, 1, none⟩ = some (.int .i64 C) ∧ w'.cell? ⟨w.heap.size + 1, 2, none⟩ = some (.slice ab lb.length capb)))
    (first
      | with_reducible exact HS.out _ ((Below.refl _ _).drew)
      | with_reducible exact HS.out _ hb1
      | with_reducible exact HS.out _ hb2
      | with_reducible exact HS.out _ hb3
      | with_reducible exact HS.out _ hb4
      | with_reducible exact HX.out _ hb4 _ _ _)
    (first
      | (go_at_call 76; (with_reducible refine (i_rowsO A C _ la _ (M.out.i1.below hb1) HLA.out (by omega) (by omega)).mono ?_); rintro e w2 ⟨v8, rfl, ho8, b2⟩; have hb2 := hb1.trans (b2.mono hb1.size); have ho8 := ho8.mono hb1.size; have ho10 := ho10.below b2)
      | (go_at_call 76; (with_reducible refine (i_rowsO B C _ lb _ (M.out.i0.below hb1) HLB.out (by omega) (by omega)).mono ?_); rintro e w2 ⟨v10, rfl, ho10, b2⟩; have hb2 := hb1.trans (b2.mono hb1.size); have ho10 := ho10.mono hb1.size; have ho8 := ho8.below b2)
      | (go_at_call 76; (with_reducible refine (i_rowsO A C _ la _ (M.out.i1.below ((Below.refl _ _).drew)) HLA.out (by omega) (by omega)).mono ?_); rintro e w1 ⟨v8, rfl, ho8, b1⟩; have hb1 := (Below.refl W.heap.size W).drew.trans b1)
      | (go_at_call 76; (with_reducible refine (i_rowsO B C _ lb _ (M.out.i0.below ((Below.refl _ _).drew)) HLB.out (by omega) (by omega)).mono ?_); rintro e w1 ⟨v10, rfl, ho10, b1⟩; have hb1 := (Below.refl W.heap.size W).drew.trans b1)
      | (refine step_app_rows W _ (by rfl) (.tmp 8) (.tmp 10) (by rfl) _ _ (rowsK C la A) (rowsK C lb B) (by rfl) (by rfl) ho10.rws ho8 hb2 (by rw [rowsK_len, rowsK_len]; omega) ?_; intro v11 w3 ho11 hb3; rw [← HLL.out] at ho11)
      | (go_at_call 75; (with_reducible refine (HFR.out _ _ (ho11.rws.mono (Nat.zero_le _))).mono ?_); rintro e w4 ⟨v4, rfl, hv4, hf4, b4⟩; have hb4 := hb3.trans (b4.mono hb3.size); obtain ⟨a4, c4, rfl, _, _⟩ := hv4.shape; obtain ⟨q0, q1, q2⟩ := blk3 (M.out.call hb4).b0; obtain ⟨z0, z1, z2⟩ := frz3 (M.out.call hb4).b0))
  all_goals
    have HT := Lib.hid (mat_end (M.out.call hb4) (by omega) hv4 (fun q hq => by have := hf4 q hq; have := hb3.size; have := HWs.out; omega) (.int .i64 LL.length) (.int .i64 C))
    clear hv4 hf4 b4 hb4 q0 q1 q2 z0 z1 z2
    go_wp2
    exact bodyPost_ret (v := .agg #[.int .i64 LL.length, .int .i64 C, .slice a4 F.length c4]) (by simp [results, Try.results64, go_sem, HT.out.2.1, HT.out.2.2.1, HT.out.2.2.2]) rfl ⟨_, rfl, HT.out.1⟩

end Go.Proofs.Ytmcjgaffecimlaa
