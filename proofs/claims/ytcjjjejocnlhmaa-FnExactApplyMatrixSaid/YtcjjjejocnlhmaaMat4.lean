/- ScaleMatrix, of the program and of the reference. -/
import Derived.Test.YtcjjjejocnlhmaaMat3
namespace Go.Proofs.Ytcjjjejocnlhmaa
open Go.RowKit
set_option linter.unusedVariables false
set_option linter.unusedSimpArgs false

theorem rep0_getD (n j : Nat) : (List.replicate n (0 : Int)).getD j 0 = 0 := by
  rw [List.getD, List.getElem?_replicate]
  split <;> rfl
theorem isM_lenN {p r c : Int} {l : List Int} (h : isM p r c l = true) : l.length = r.toNat * c.toNat := by
  obtain ⟨a, _, b, _, e, _⟩ := isM_true h
  obtain ⟨R, rfl⟩ := Int.eq_ofNat_of_zero_le a
  obtain ⟨C, rfl⟩ := Int.eq_ofNat_of_zero_le b
  rw [← Int.natCast_mul] at e
  simp only [Int.toNat_natCast]
  omega
theorem i_zeroI (r c : Int) (r0 : 0 ≤ r) (r8 : r ≤ 64) (c0 : 0 ≤ c) (c8 : c ≤ 64) (w : World) :
    Calls Try.prog 62 #[.int .i64 r, .int .i64 c] w (MatNew r c (List.replicate (r.toNat * c.toNat) 0) w) := by
  obtain ⟨R, rfl⟩ := Int.eq_ofNat_of_zero_le r0
  obtain ⟨C, rfl⟩ := Int.eq_ofNat_of_zero_le c0
  exact i_zero R C (by omega) (by omega) w

set_option maxRecDepth 100000 in
set_option maxHeartbeats 2000000 in
theorem i_ScaleMatrix_no0 (p : Int) (k : Int) (ra ca : Int) (va : Value) (la : List Int) (w : World) (ha : Ints w va la) (g0 : (isM p ra ca la) = false) :
    Calls Try.prog 31 #[.int .i64 p, .int .i64 k, .agg #[.int .i64 ra, .int .i64 ca, va]] w (MatOK 0 0 [] false w) := by
  have hlta := Lib.hid ha.lt
  obtain ⟨aa, capa, rfl, hlca, hcma⟩ := ha.shape
  have M := Lib.hid ((((MB.start w).addI ha).alloc #[.int .i64 ra, .int .i64 ca, .slice aa la.length capa] 26).alloc #[.int .i64 0, .int .i64 0, .slice none 0 0] 26)
  clear ha
  go_enter Try.func31, Try.ntmps31
  go_wp2_with fail
  refine (i_IsMatrix _ _ _ _ la _ M.out.i0).mono ?_; rintro e w1 ⟨rfl, b1⟩
  have M1 := Lib.hid (M.out.call b1)
  have hsz1 : w.heap.size + 2 ≤ w1.heap.size := by have := b1.size; (try simp only [World.size_alloc] at this); omega
  clear b1
  obtain ⟨pa0, pa1, pa2⟩ := blk3 M1.out.b1
  obtain ⟨q0, q1, q2⟩ := blk3 M1.out.b0
  obtain ⟨z0, z1, z2⟩ := frz3 M1.out.b0
  simp only [World.size_alloc] at pa0 pa1 pa2 q0 q1 q2 z0 z1 z2
  have HZ := mat_zero M1.out (by (try simp only [World.size_alloc]); omega) (.int .i64 0) (.int .i64 0) (.slice none 0 0)
  try simp only [World.size_alloc] at HZ
  have HE := Lib.hid HZ
  clear HZ
  go_wp2
  exact bodyPost_ret (v := .tuple #[.agg #[.int .i64 0, .int .i64 0, .slice none 0 0], .bool false]) (by simp [results, Try.results31, go_sem, HE.out.2.1, HE.out.2.2.1, HE.out.2.2.2]) rfl ⟨_, rfl, Ints.nil _, FreshV.nil _, HE.out.1⟩

set_option maxRecDepth 100000 in
set_option maxHeartbeats 2000000 in
theorem i_ScaleMatrix_yes (p : Int) (k : Int) (ra ca : Int) (va : Value) (la : List Int) (w : World) (ha : Ints w va la) (g0 : (isM p ra ca la) = true) :
    Calls Try.prog 31 #[.int .i64 p, .int .i64 k, .agg #[.int .i64 ra, .int .i64 ca, va]] w (MatOK ra ca (scaV p k la) true w) := by
  have hla := isM_len g0
  obtain ⟨hp2, hp5⟩ := isM_p g0
  have hF := isV_F (isM_V g0)
  obtain ⟨r0, r8, c0, c8, hrc, _⟩ := isM_true g0
  have hlen := isM_lenN g0
  have HL := Lib.hid hlen
  have HZL := Lib.hid (show (List.replicate (ra.toNat * ca.toNat) (0 : Int)).length = la.length by simp [hlen])
  have HBD := Lib.hid (fun j (hj : j < la.length) => (show 0 ≤ (List.replicate (ra.toNat * ca.toNat) (0 : Int)).getD j 0 ∧ (List.replicate (ra.toNat * ca.toNat) (0 : Int)).getD j 0 ≤ 1000000 ∧ 0 ≤ k % p * la.getD j 0 ∧ k % p * la.getD j 0 ≤ 1000000 from by have := isV_elem (isM_V g0) hj; have := mod_mul_bd (k := k) hF this.1 this.2; rw [rep0_getD]; omega))
  clear hrc hlen
  have hlta := Lib.hid ha.lt
  obtain ⟨aa, capa, rfl, hlca, hcma⟩ := ha.shape
  have M := Lib.hid ((((MB.start w).addI ha).alloc #[.int .i64 ra, .int .i64 ca, .slice aa la.length capa] 26).alloc #[.int .i64 0, .int .i64 0, .slice none 0 0] 26)
  clear ha
  go_enter Try.func31, Try.ntmps31
  go_wp2_with fail
  refine (i_IsMatrix _ _ _ _ la _ M.out.i0).mono ?_; rintro e w1 ⟨rfl, b1⟩
  have M1 := Lib.hid (M.out.call b1)
  have hsz1 : w.heap.size + 2 ≤ w1.heap.size := by have := b1.size; (try simp only [World.size_alloc] at this); omega
  clear b1
  obtain ⟨pa0, pa1, pa2⟩ := blk3 M1.out.b1
  obtain ⟨q0, q1, q2⟩ := blk3 M1.out.b0
  obtain ⟨z0, z1, z2⟩ := frz3 M1.out.b0
  simp only [World.size_alloc] at pa0 pa1 pa2 q0 q1 q2 z0 z1 z2
  go_wp2
  go_region_held3 (fun w' => w'.cell? ⟨w.heap.size, 0, none⟩ = some (.int .i64 ra) ∧ w'.cell? ⟨w.heap.size, 1, none⟩ = some (.int .i64 ca) ∧ w'.cell? ⟨w.heap.size, 2, none⟩ = some (.slice aa la.length capa))
    (first | go_keep | exact blk3 ((M1.out.b1).below (below_of_drew b8)) | exact blk3 (((M1.out.b1).below (below_of_drew b8)).below b9))
    (first
      | (go_at_call 62; (with_reducible refine (i_zeroI ra ca (by omega) (by omega) (by omega) (by omega) _).mono ?_); rintro e w8 ⟨v8, rfl, hv8, hf8, b8⟩)
      | (go_at_call 63; (with_reducible refine (i_ReduceMod_yes _ _ hF _).mono ?_); rintro e wz ⟨rfl, rfl⟩)
      | (go_at_call 52; (with_reducible refine (i_plus _ _ _ _ _ _ _ _ (List.replicate (ra.toNat * ca.toNat) 0) la _ (by omega) (by omega) hv8 ((M1.out.i0.drew).below b8) (by rw [HZL.out]; omega) (by rw [HZL.out]; omega) HBD.out).mono ?_); rintro e w9 ⟨v9, rfl, hv9, hf9, b9⟩; obtain ⟨a9, cap9, rfl, _, _⟩ := hv9.shape; obtain ⟨q0, q1, q2⟩ := blk3 (((M1.out.b0).below (below_of_drew b8)).below b9); obtain ⟨z0, z1, z2⟩ := frz3 (((M1.out.b0).below (below_of_drew b8)).below b9); (try simp only [World.size_alloc] at q0 q1 q2 z0 z1 z2)))
  have M9 := (M1.out.drew.call b8).call b9
  have hv9b : Ints w9 (.slice a9 (addAt p (List.replicate (ra.toNat * ca.toNat) 0) 0 (k % p) la la.length).length cap9) (scaV p k la) := by rw [← HL.out] at hv9 ⊢; rw [addAt_sca] at hv9 ⊢; exact hv9
  have hs8 : w1.heap.size ≤ w8.heap.size := b8.size
  have HT0 := mat_end M9 (by (try simp only [World.size_alloc]); omega) hv9b (fun q hq => by have := hf9 q hq; (try simp only [World.size_alloc] at this ⊢); (try simp only [World.heap_drew] at hs8); omega) (.int .i64 ra) (.int .i64 ca)
  try simp only [World.size_alloc] at HT0
  have HT := Lib.hid HT0
  clear HT0 hv9 hv9b hf9 b9 b8 hv8 hf8 M9 hs8
  go_wp2
  exact bodyPost_ret (v := .tuple #[.agg #[.int .i64 ra, .int .i64 ca, .slice a9 (addAt p (List.replicate (ra.toNat * ca.toNat) 0) 0 (k % p) la la.length).length cap9], .bool true]) (by simp [results, Try.results31, go_sem, HT.out.2.1, HT.out.2.2.1, HT.out.2.2.2]) rfl ⟨_, rfl, HT.out.1⟩

set_option maxRecDepth 100000 in
set_option maxHeartbeats 2000000 in
theorem s_ScaleMatrix_no0 (p : Int) (k : Int) (ra ca : Int) (va : Value) (la : List Int) (w : World) (ha : Ints w va la) (g0 : (isM p ra ca la) = false) :
    Calls Try.prog 30 #[.int .i64 p, .int .i64 k, .agg #[.int .i64 ra, .int .i64 ca, va]] w (MatOK 0 0 [] false w) := by
  have hlta := Lib.hid ha.lt
  obtain ⟨aa, capa, rfl, hlca, hcma⟩ := ha.shape
  have M := Lib.hid ((((MB.start w).addI ha).alloc #[.int .i64 ra, .int .i64 ca, .slice aa la.length capa] 26).alloc #[.int .i64 0, .int .i64 0, .slice none 0 0] 26)
  clear ha
  go_enter Try.func30, Try.ntmps30
  go_wp2_with fail
  refine (s_IsMatrix _ _ _ _ la _ M.out.i0).mono ?_; rintro e w1 ⟨rfl, b1⟩
  have M1 := Lib.hid (M.out.call b1)
  have hsz1 : w.heap.size + 2 ≤ w1.heap.size := by have := b1.size; (try simp only [World.size_alloc] at this); omega
  clear b1
  obtain ⟨pa0, pa1, pa2⟩ := blk3 M1.out.b1
  obtain ⟨q0, q1, q2⟩ := blk3 M1.out.b0
  obtain ⟨z0, z1, z2⟩ := frz3 M1.out.b0
  simp only [World.size_alloc] at pa0 pa1 pa2 q0 q1 q2 z0 z1 z2
  have HZ := mat_zero M1.out (by (try simp only [World.size_alloc]); omega) (.int .i64 0) (.int .i64 0) (.slice none 0 0)
  try simp only [World.size_alloc] at HZ
  have HE := Lib.hid HZ
  clear HZ
  go_wp2
  exact bodyPost_ret (v := .tuple #[.agg #[.int .i64 0, .int .i64 0, .slice none 0 0], .bool false]) (by simp [results, Try.results30, go_sem, HE.out.2.1, HE.out.2.2.1, HE.out.2.2.2]) rfl ⟨_, rfl, Ints.nil _, FreshV.nil _, HE.out.1⟩

set_option maxRecDepth 100000 in
set_option maxHeartbeats 2000000 in
theorem s_ScaleMatrix_yes (p : Int) (k : Int) (ra ca : Int) (va : Value) (la : List Int) (w : World) (ha : Ints w va la) (g0 : (isM p ra ca la) = true) :
    Calls Try.prog 30 #[.int .i64 p, .int .i64 k, .agg #[.int .i64 ra, .int .i64 ca, va]] w (MatOK ra ca (scaV p k la) true w) := by
  have HV := Lib.hid (isM_V g0)
  have hlta := Lib.hid ha.lt
  obtain ⟨aa, capa, rfl, hlca, hcma⟩ := ha.shape
  have M := Lib.hid ((((MB.start w).addI ha).alloc #[.int .i64 ra, .int .i64 ca, .slice aa la.length capa] 26).alloc #[.int .i64 0, .int .i64 0, .slice none 0 0] 26)
  clear ha
  go_enter Try.func30, Try.ntmps30
  go_wp2_with fail
  refine (s_IsMatrix _ _ _ _ la _ M.out.i0).mono ?_; rintro e w1 ⟨rfl, b1⟩
  have M1 := Lib.hid (M.out.call b1)
  have hsz1 : w.heap.size + 2 ≤ w1.heap.size := by have := b1.size; (try simp only [World.size_alloc] at this); omega
  clear b1
  obtain ⟨pa0, pa1, pa2⟩ := blk3 M1.out.b1
  obtain ⟨q0, q1, q2⟩ := blk3 M1.out.b0
  obtain ⟨z0, z1, z2⟩ := frz3 M1.out.b0
  simp only [World.size_alloc] at pa0 pa1 pa2 q0 q1 q2 z0 z1 z2
  go_wp2_with fail
  refine (s_ScaleVector_yes _ _ _ la _ M1.out.i0 HV.out).mono ?_; rintro e w9 ⟨v9, rfl, hv9, hf9, b9⟩
  clear pa0 pa1 pa2 q0 q1 q2 z0 z1 z2
  have M9 := Lib.hid (M1.out.call b9)
  obtain ⟨a9, cap9, rfl, _, _⟩ := hv9.shape
  obtain ⟨pa0, pa1, pa2⟩ := blk3 M9.out.b1
  obtain ⟨q0, q1, q2⟩ := blk3 M9.out.b0
  obtain ⟨z0, z1, z2⟩ := frz3 M9.out.b0
  simp only [World.size_alloc] at pa0 pa1 pa2 q0 q1 q2 z0 z1 z2
  have HT0 := mat_end M9.out (by (try simp only [World.size_alloc]); omega) hv9 (fun q hq => by have := hf9 q hq; (try simp only [World.size_alloc] at this ⊢); omega) (.int .i64 ra) (.int .i64 ca)
  try simp only [World.size_alloc] at HT0
  have HT := Lib.hid HT0
  clear HT0 hv9 hf9 b9
  go_wp2
  exact bodyPost_ret (v := .tuple #[.agg #[.int .i64 ra, .int .i64 ca, .slice a9 (scaV p k la).length cap9], .bool true]) (by simp [results, Try.results30, go_sem, HT.out.2.1, HT.out.2.2.1, HT.out.2.2.2]) rfl ⟨_, rfl, HT.out.1⟩

theorem i_ScaleMatrix (p : Int) (k : Int) (ra ca : Int) (va : Value) (la : List Int) (w : World) (ha : Ints w va la) :
    Calls Try.prog 31 #[.int .i64 p, .int .i64 k, .agg #[.int .i64 ra, .int .i64 ca, va]] w (MatOK (mR (isM p ra ca la) ra) (mR (isM p ra ca la) ca) (mL (isM p ra ca la) (scaV p k la)) (isM p ra ca la) w) := by
  cases g0 : isM p ra ca la
  · exact (i_ScaleMatrix_no0 p k ra ca va la w ha g0).mono fun _ _ h => h.of_eq (by simp [mR, mL, g0]) (by simp [mR, mL, g0]) (by simp [mR, mL, g0]) (by simp [mR, mL, g0])
  exact (i_ScaleMatrix_yes p k ra ca va la w ha g0).mono fun _ _ h => h.of_eq (by simp [mR, mL, g0]) (by simp [mR, mL, g0]) (by simp [mR, mL, g0]) (by simp [mR, mL, g0])

theorem s_ScaleMatrix (p : Int) (k : Int) (ra ca : Int) (va : Value) (la : List Int) (w : World) (ha : Ints w va la) :
    Calls Try.prog 30 #[.int .i64 p, .int .i64 k, .agg #[.int .i64 ra, .int .i64 ca, va]] w (MatOK (mR (isM p ra ca la) ra) (mR (isM p ra ca la) ca) (mL (isM p ra ca la) (scaV p k la)) (isM p ra ca la) w) := by
  cases g0 : isM p ra ca la
  · exact (s_ScaleMatrix_no0 p k ra ca va la w ha g0).mono fun _ _ h => h.of_eq (by simp [mR, mL, g0]) (by simp [mR, mL, g0]) (by simp [mR, mL, g0]) (by simp [mR, mL, g0])
  exact (s_ScaleMatrix_yes p k ra ca va la w ha g0).mono fun _ _ h => h.of_eq (by simp [mR, mL, g0]) (by simp [mR, mL, g0]) (by simp [mR, mL, g0]) (by simp [mR, mL, g0])

end Go.Proofs.Ytcjjjejocnlhmaa
