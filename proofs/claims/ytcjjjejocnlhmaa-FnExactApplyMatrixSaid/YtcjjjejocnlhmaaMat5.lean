/- TransposeMatrix, of the program and of the reference. -/
import Derived.Test.YtcjjjejocnlhmaaMat4
import Derived.Test.YtcjjjejocnlhmaaFromC
import Derived.Test.YtcjjjejocnlhmaaTr
namespace Go.Proofs.Ytcjjjejocnlhmaa
open Go.RowKit
set_option linter.unusedVariables false
set_option linter.unusedSimpArgs false

theorem i_rowsI {p r c : Int} (v : Value) (l : List Int) (w : World) (hv : Ints w v l) (h : isM p r c l = true) :
    Calls Try.prog 55 #[.agg #[.int .i64 r, .int .i64 c, v]] w (RowsNew (rowsK c.toNat l r.toNat) w) := by
  have hl := isM_lenN h
  obtain ⟨r0, r8, c0, c8, _, _⟩ := isM_true h
  obtain ⟨R, rfl⟩ := Int.eq_ofNat_of_zero_le r0
  obtain ⟨C, rfl⟩ := Int.eq_ofNat_of_zero_le c0
  exact i_rows R C v l w hv hl (by omega) (by omega)
theorem i_fromColumnsI (R n : Int) (v : Value) (ll : List (List Int)) (w : World) (hv : Rws 0 w v ll) (h0 : 0 ≤ R) (h1 : R ≤ 64) (hn : (ll.length : Int) = n) (hn2 : n ≤ 64) (hlen : ∀ k, k < ll.length → (ll.getD k []).length = R.toNat) :
    Calls Try.prog 54 #[.int .i64 R, v] w (MatNew R n (fcL R.toNat ll) w) := by
  obtain ⟨r, rfl⟩ := Int.eq_ofNat_of_zero_le h0
  subst hn
  exact i_fromColumns r v ll w hv (by omega) (by omega) hlen
theorem s_l3TransposeI {p r c : Int} (v : Value) (l : List Int) (w : World) (hv : Ints w v l) (h : isM p r c l = true) :
    Calls Try.prog 53 #[.agg #[.int .i64 r, .int .i64 c, v]] w (MatNew c r (trL r.toNat c.toNat l) w) := by
  have hl := isM_lenN h
  obtain ⟨r0, r8, c0, c8, _, _⟩ := isM_true h
  obtain ⟨R, rfl⟩ := Int.eq_ofNat_of_zero_le r0
  obtain ⟨C, rfl⟩ := Int.eq_ofNat_of_zero_le c0
  exact s_l3Transpose R C v l w hv hl (by omega) (by omega)
theorem rowsK_get {c r k : Nat} {l : List Int} (hk : k < r) : (rowsK c l r).getD k [] = rowL c k l := by simp [rowsK, List.getD, hk]
theorem fc_rows {p r c : Int} {l : List Int} (h : isM p r c l = true) : fcL c.toNat (rowsK c.toNat l r.toNat) = trL r.toNat c.toNat l := by
  unfold fcL trL
  rw [rowsK_len]
  apply matL_congr
  intro i k hi hk
  rw [rowsK_get hk, rowL_get hi]

set_option maxRecDepth 100000 in
set_option maxHeartbeats 2000000 in
theorem i_TransposeMatrix_no0 (p : Int) (ra ca : Int) (va : Value) (la : List Int) (w : World) (ha : Ints w va la) (g0 : (isM p ra ca la) = false) :
    Calls Try.prog 21 #[.int .i64 p, .agg #[.int .i64 ra, .int .i64 ca, va]] w (MatOK 0 0 [] false w) := by
  have hlta := Lib.hid ha.lt
  obtain ⟨aa, capa, rfl, hlca, hcma⟩ := ha.shape
  have M := Lib.hid ((((MB.start w).addI ha).alloc #[.int .i64 ra, .int .i64 ca, .slice aa la.length capa] 26).alloc #[.int .i64 0, .int .i64 0, .slice none 0 0] 26)
  clear ha
  go_enter Try.func21, Try.ntmps21
  go_wp2_with fail
  refine (i_IsMatrix _ _ _ _ la _ M.out.i0).mono ?_; rintro e w1 ⟨rfl, b1⟩
  have M1 := Lib.hid (M.out.call b1)
  have hsz1 : w.heap.size + 2 ≤ w1.heap.size := by have := b1.size; (try simp only [World.size_alloc] at this); omega
  clear b1
  obtain ⟨pa0, pa1, pa2⟩ := blk3 M1.out.b1
  obtain ⟨q0, q1, q2⟩ := blk3 M1.out.b0
  obtain ⟨z0, z1, z2⟩ := frz3 M1.out.b0
  simp only [World.size_alloc] at pa0 pa1 pa2 q0 q1 q2 z0 z1 z2
  have HZ := mat_zero M1.out (by (try simp only [World.size_alloc]); omega) (.int .i64 0) (.int .i64 0) (.slice none 0 0)
  try simp only [World.size_alloc] at HZ
  have HE := Lib.hid HZ
  clear HZ
  go_wp2
  exact bodyPost_ret (v := .tuple #[.agg #[.int .i64 0, .int .i64 0, .slice none 0 0], .bool false]) (by simp [results, Try.results21, go_sem, HE.out.2.1, HE.out.2.2.1, HE.out.2.2.2]) rfl ⟨_, rfl, Ints.nil _, FreshV.nil _, HE.out.1⟩

set_option maxRecDepth 100000 in
set_option maxHeartbeats 2000000 in
theorem i_TransposeMatrix_yes (p : Int) (ra ca : Int) (va : Value) (la : List Int) (w : World) (ha : Ints w va la) (g0 : (isM p ra ca la) = true) :
    Calls Try.prog 21 #[.int .i64 p, .agg #[.int .i64 ra, .int .i64 ca, va]] w (MatOK ca ra (trL ra.toNat ca.toNat la) true w) := by
  obtain ⟨r0, r8, c0, c8, _, _⟩ := isM_true g0
  have HG := Lib.hid g0
  have HRL := Lib.hid (show ((rowsK ca.toNat la ra.toNat).length : Int) = ra by rw [rowsK_len]; omega)
  have HRN := Lib.hid (show (rowsK ca.toNat la ra.toNat).length = ra.toNat from rowsK_len _ _ _)
  have HRK := Lib.hid (fun k (hk : k < (rowsK ca.toNat la ra.toNat).length) => (show ((rowsK ca.toNat la ra.toNat).getD k []).length = ca.toNat from by rw [rowsK_len] at hk; rw [rowsK_get hk]; exact rowL_len (isM_lenN g0) hk))
  have hlta := Lib.hid ha.lt
  obtain ⟨aa, capa, rfl, hlca, hcma⟩ := ha.shape
  have M := Lib.hid ((((MB.start w).addI ha).alloc #[.int .i64 ra, .int .i64 ca, .slice aa la.length capa] 26).alloc #[.int .i64 0, .int .i64 0, .slice none 0 0] 26)
  clear ha
  go_enter Try.func21, Try.ntmps21
  go_wp2_with fail
  refine (i_IsMatrix _ _ _ _ la _ M.out.i0).mono ?_; rintro e w1 ⟨rfl, b1⟩
  have M1 := Lib.hid (M.out.call b1)
  have hsz1 : w.heap.size + 2 ≤ w1.heap.size := by have := b1.size; (try simp only [World.size_alloc] at this); omega
  clear b1
  obtain ⟨pa0, pa1, pa2⟩ := blk3 M1.out.b1
  obtain ⟨q0, q1, q2⟩ := blk3 M1.out.b0
  obtain ⟨z0, z1, z2⟩ := frz3 M1.out.b0
  simp only [World.size_alloc] at pa0 pa1 pa2 q0 q1 q2 z0 z1 z2
  go_wp2
  go_region_held3 (fun w' => w'.cell? ⟨w.heap.size, 0, none⟩ = some (.int .i64 ra) ∧ w'.cell? ⟨w.heap.size, 1, none⟩ = some (.int .i64 ca) ∧ w'.cell? ⟨w.heap.size, 2, none⟩ = some (.slice aa la.length capa))
    (first | exact blk3 ((M1.out.b1).below (below_of_drew b8)) | exact blk3 (((M1.out.b1).below (below_of_drew b8)).below b9) | go_keep)
    (first
      | (go_at_call 55; (with_reducible refine (i_rowsI _ la _ M1.out.i0.drew HG.out).mono ?_); rintro e w8 ⟨v8, rfl, hv8, b8⟩; obtain ⟨a8, cap8, rfl, _, _⟩ := hv8.shape)
      | (go_at_call 54; (with_reducible refine (i_fromColumnsI _ ra _ (rowsK ca.toNat la ra.toNat) _ (hv8.mono (Nat.zero_le _)) (by omega) (by omega) HRL.out (by omega) HRK.out).mono ?_); rintro e w9 ⟨v9, rfl, hv9, hf9, b9⟩; obtain ⟨a9, cap9, rfl, _, _⟩ := hv9.shape; obtain ⟨q0, q1, q2⟩ := blk3 (((M1.out.b0).below (below_of_drew b8)).below b9); obtain ⟨z0, z1, z2⟩ := frz3 (((M1.out.b0).below (below_of_drew b8)).below b9); (try simp only [World.size_alloc] at q0 q1 q2 z0 z1 z2)))
  have M9 := (M1.out.drew.call b8).call b9
  have hs8 : w1.heap.size ≤ w8.heap.size := b8.size
  have HT0 := mat_end M9 (by (try simp only [World.size_alloc]); omega) hv9 (fun q hq => by have := hf9 q hq; (try simp only [World.size_alloc] at this ⊢); omega) (.int .i64 ca) (.int .i64 ra)
  try simp only [World.size_alloc] at HT0
  have HT := Lib.hid HT0
  clear HT0 hv9 hf9 b9 b8 hv8 M9 hs8
  go_wp2
  exact bodyPost_ret (v := .tuple #[.agg #[.int .i64 ca, .int .i64 ra, .slice a9 (fcL ca.toNat (rowsK ca.toNat la ra.toNat)).length cap9], .bool true]) (by simp [results, Try.results21, go_sem, HT.out.2.1, HT.out.2.2.1, HT.out.2.2.2]) rfl (MatOK.of_eq ⟨_, rfl, HT.out.1⟩ rfl rfl (fc_rows HG.out) rfl)

set_option maxRecDepth 100000 in
set_option maxHeartbeats 2000000 in
theorem s_TransposeMatrix_no0 (p : Int) (ra ca : Int) (va : Value) (la : List Int) (w : World) (ha : Ints w va la) (g0 : (isM p ra ca la) = false) :
    Calls Try.prog 20 #[.int .i64 p, .agg #[.int .i64 ra, .int .i64 ca, va]] w (MatOK 0 0 [] false w) := by
  have hlta := Lib.hid ha.lt
  obtain ⟨aa, capa, rfl, hlca, hcma⟩ := ha.shape
  have M := Lib.hid ((((MB.start w).addI ha).alloc #[.int .i64 ra, .int .i64 ca, .slice aa la.length capa] 26).alloc #[.int .i64 0, .int .i64 0, .slice none 0 0] 26)
  clear ha
  go_enter Try.func20, Try.ntmps20
  go_wp2_with fail
  refine (s_IsMatrix _ _ _ _ la _ M.out.i0).mono ?_; rintro e w1 ⟨rfl, b1⟩
  have M1 := Lib.hid (M.out.call b1)
  have hsz1 : w.heap.size + 2 ≤ w1.heap.size := by have := b1.size; (try simp only [World.size_alloc] at this); omega
  clear b1
  obtain ⟨pa0, pa1, pa2⟩ := blk3 M1.out.b1
  obtain ⟨q0, q1, q2⟩ := blk3 M1.out.b0
  obtain ⟨z0, z1, z2⟩ := frz3 M1.out.b0
  simp only [World.size_alloc] at pa0 pa1 pa2 q0 q1 q2 z0 z1 z2
  have HZ := mat_zero M1.out (by (try simp only [World.size_alloc]); omega) (.int .i64 0) (.int .i64 0) (.slice none 0 0)
  try simp only [World.size_alloc] at HZ
  have HE := Lib.hid HZ
  clear HZ
  go_wp2
  exact bodyPost_ret (v := .tuple #[.agg #[.int .i64 0, .int .i64 0, .slice none 0 0], .bool false]) (by simp [results, Try.results20, go_sem, HE.out.2.1, HE.out.2.2.1, HE.out.2.2.2]) rfl ⟨_, rfl, Ints.nil _, FreshV.nil _, HE.out.1⟩

set_option maxRecDepth 100000 in
set_option maxHeartbeats 2000000 in
theorem s_TransposeMatrix_yes (p : Int) (ra ca : Int) (va : Value) (la : List Int) (w : World) (ha : Ints w va la) (g0 : (isM p ra ca la) = true) :
    Calls Try.prog 20 #[.int .i64 p, .agg #[.int .i64 ra, .int .i64 ca, va]] w (MatOK ca ra (trL ra.toNat ca.toNat la) true w) := by
  have HG := Lib.hid g0
  have hlta := Lib.hid ha.lt
  obtain ⟨aa, capa, rfl, hlca, hcma⟩ := ha.shape
  have M := Lib.hid ((((MB.start w).addI ha).alloc #[.int .i64 ra, .int .i64 ca, .slice aa la.length capa] 26).alloc #[.int .i64 0, .int .i64 0, .slice none 0 0] 26)
  clear ha
  go_enter Try.func20, Try.ntmps20
  go_wp2_with fail
  refine (s_IsMatrix _ _ _ _ la _ M.out.i0).mono ?_; rintro e w1 ⟨rfl, b1⟩
  have M1 := Lib.hid (M.out.call b1)
  have hsz1 : w.heap.size + 2 ≤ w1.heap.size := by have := b1.size; (try simp only [World.size_alloc] at this); omega
  clear b1
  obtain ⟨pa0, pa1, pa2⟩ := blk3 M1.out.b1
  obtain ⟨q0, q1, q2⟩ := blk3 M1.out.b0
  obtain ⟨z0, z1, z2⟩ := frz3 M1.out.b0
  simp only [World.size_alloc] at pa0 pa1 pa2 q0 q1 q2 z0 z1 z2
  go_wp2_with fail
  refine (s_l3TransposeI _ la _ M1.out.i0 HG.out).mono ?_; rintro e w9 ⟨v9, rfl, hv9, hf9, b9⟩
  clear pa0 pa1 pa2 q0 q1 q2 z0 z1 z2
  have M9 := Lib.hid (M1.out.call b9)
  obtain ⟨a9, cap9, rfl, _, _⟩ := hv9.shape
  obtain ⟨pa0, pa1, pa2⟩ := blk3 M9.out.b1
  obtain ⟨q0, q1, q2⟩ := blk3 M9.out.b0
  obtain ⟨z0, z1, z2⟩ := frz3 M9.out.b0
  simp only [World.size_alloc] at pa0 pa1 pa2 q0 q1 q2 z0 z1 z2
  have HT0 := mat_end M9.out (by (try simp only [World.size_alloc]); omega) hv9 (fun q hq => by have := hf9 q hq; (try simp only [World.size_alloc] at this ⊢); omega) (.int .i64 ca) (.int .i64 ra)
  try simp only [World.size_alloc] at HT0
  have HT := Lib.hid HT0
  clear HT0 hv9 hf9 b9
  go_wp2
  exact bodyPost_ret (v := .tuple #[.agg #[.int .i64 ca, .int .i64 ra, .slice a9 (trL ra.toNat ca.toNat la).length cap9], .bool true]) (by simp [results, Try.results20, go_sem, HT.out.2.1, HT.out.2.2.1, HT.out.2.2.2]) rfl ⟨_, rfl, HT.out.1⟩

theorem i_TransposeMatrix (p : Int) (ra ca : Int) (va : Value) (la : List Int) (w : World) (ha : Ints w va la) :
    Calls Try.prog 21 #[.int .i64 p, .agg #[.int .i64 ra, .int .i64 ca, va]] w (MatOK (mR (isM p ra ca la) ca) (mR (isM p ra ca la) ra) (mL (isM p ra ca la) (trL ra.toNat ca.toNat la)) (isM p ra ca la) w) := by
  cases g0 : isM p ra ca la
  · exact (i_TransposeMatrix_no0 p ra ca va la w ha g0).mono fun _ _ h => h.of_eq (by simp [mR, mL, g0]) (by simp [mR, mL, g0]) (by simp [mR, mL, g0]) (by simp [mR, mL, g0])
  exact (i_TransposeMatrix_yes p ra ca va la w ha g0).mono fun _ _ h => h.of_eq (by simp [mR, mL, g0]) (by simp [mR, mL, g0]) (by simp [mR, mL, g0]) (by simp [mR, mL, g0])

theorem s_TransposeMatrix (p : Int) (ra ca : Int) (va : Value) (la : List Int) (w : World) (ha : Ints w va la) :
    Calls Try.prog 20 #[.int .i64 p, .agg #[.int .i64 ra, .int .i64 ca, va]] w (MatOK (mR (isM p ra ca la) ca) (mR (isM p ra ca la) ra) (mL (isM p ra ca la) (trL ra.toNat ca.toNat la)) (isM p ra ca la) w) := by
  cases g0 : isM p ra ca la
  · exact (s_TransposeMatrix_no0 p ra ca va la w ha g0).mono fun _ _ h => h.of_eq (by simp [mR, mL, g0]) (by simp [mR, mL, g0]) (by simp [mR, mL, g0]) (by simp [mR, mL, g0])
  exact (s_TransposeMatrix_yes p ra ca va la w ha g0).mono fun _ _ h => h.of_eq (by simp [mR, mL, g0]) (by simp [mR, mL, g0]) (by simp [mR, mL, g0]) (by simp [mR, mL, g0])

end Go.Proofs.Ytcjjjejocnlhmaa
