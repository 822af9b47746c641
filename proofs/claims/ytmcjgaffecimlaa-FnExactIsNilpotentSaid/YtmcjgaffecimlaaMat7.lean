/- PowerOf, of the program and of the reference. -/
import Derived.Test.YtmcjgaffecimlaaPowM
namespace Go.Proofs.Ytmcjgaffecimlaa
open Go.RowKit
set_option linter.unusedVariables false
set_option linter.unusedSimpArgs false

theorem i_powerOfI {p ra ca K : Int} (v : Value) (l : List Int) (w : World) (hv : Ints w v l) (h : isM p ra ca l = true) (hr : ra = ca) (h0 : 0 ≤ K) (h1 : K ≤ 100) :
    Calls Try.prog 38 #[.int .i64 p, .agg #[.int .i64 ra, .int .i64 ca, v], .int .i64 K] w (MatNew ra ra (powM p ra.toNat l K.toNat) w) := by
  subst hr
  have hl := isM_lenN h
  obtain ⟨r0, r8, _, _, _, _⟩ := isM_true h
  obtain ⟨R, rfl⟩ := Int.eq_ofNat_of_zero_le r0
  obtain ⟨k, rfl⟩ := Int.eq_ofNat_of_zero_le h0
  exact i_powerOf p R v l k w (isM_p h) (isV_F (isM_V h)) hv hl (isV_all (isM_V h)) (by omega) (by omega)
theorem s_l4PowerI {p ra ca K : Int} (v : Value) (l : List Int) (w : World) (hv : Ints w v l) (h : isM p ra ca l = true) (hr : ra = ca) (h0 : 0 ≤ K) (h1 : K ≤ 100) :
    Calls Try.prog 66 #[.int .i64 p, .agg #[.int .i64 ra, .int .i64 ca, v], .int .i64 K] w (MatNew ra ra (powM p ra.toNat l K.toNat) w) := by
  subst hr
  have hl := isM_lenN h
  obtain ⟨r0, r8, _, _, _, _⟩ := isM_true h
  obtain ⟨R, rfl⟩ := Int.eq_ofNat_of_zero_le r0
  obtain ⟨k, rfl⟩ := Int.eq_ofNat_of_zero_le h0
  exact s_l4Power p R v l k w (isM_p h) (isV_F (isM_V h)) hv hl (isV_all (isM_V h)) (by omega) (by omega)
def powMOK (p ra ca n : Int) (la : List Int) : Bool := isM p ra ca la && decide (ra = ca) && inR n 0 100



set_option maxRecDepth 100000 in
set_option maxHeartbeats 2000000 in
theorem s_PowerOf_no0 (p : Int) (ra ca : Int) (va : Value) (la : List Int) (n : Int) (w : World) (ha : Ints w va la) (g0 : (isM p ra ca la) = false) :
    Calls Try.prog 36 #[.int .i64 p, .agg #[.int .i64 ra, .int .i64 ca, va], .int .i64 n] w (MatOK 0 0 [] false w) := by
  have hlta := Lib.hid ha.lt
  obtain ⟨aa, capa, rfl, hlca, hcma⟩ := ha.shape
  have M := Lib.hid ((((MB.start w).addI ha).alloc #[.int .i64 ra, .int .i64 ca, .slice aa la.length capa] 26).alloc #[.int .i64 0, .int .i64 0, .slice none 0 0] 26)
  clear ha
  go_enter Try.func36, Try.ntmps36
  go_wp2_with fail
  refine (s_IsMatrix _ _ _ _ la _ M.out.i0).mono ?_; rintro e w1 ⟨rfl, b1⟩
  have M1 := Lib.hid (M.out.call b1)
  have hsz1 : w.heap.size + 2 ≤ w1.heap.size := by have := b1.size; (try simp only [World.size_alloc] at this); omega
  clear b1
  obtain ⟨pa0, pa1, pa2⟩ := blk3 M1.out.b1
  obtain ⟨q0, q1, q2⟩ := blk3 M1.out.b0
  obtain ⟨z0, z1, z2⟩ := frz3 M1.out.b0
  simp only [World.size_alloc] at pa0 pa1 pa2 q0 q1 q2 z0 z1 z2
  have HZ := mat_zero M1.out (by (try simp only [World.size_alloc]); omega) (.int .i64 0) (.int .i64 0) (.slice none 0 0)
  try simp only [World.size_alloc] at HZ
  have HE := Lib.hid HZ
  clear HZ
  go_wp2
  exact bodyPost_ret (v := .tuple #[.agg #[.int .i64 0, .int .i64 0, .slice none 0 0], .bool false]) (by simp [results, Try.results36, go_sem, HE.out.2.1, HE.out.2.2.1, HE.out.2.2.2]) rfl ⟨_, rfl, Ints.nil _, FreshV.nil _, HE.out.1⟩

set_option maxRecDepth 100000 in
set_option maxHeartbeats 2000000 in
theorem s_PowerOf_no1 (p : Int) (ra ca : Int) (va : Value) (la : List Int) (n : Int) (w : World) (ha : Ints w va la) (g0 : (isM p ra ca la) = true) (g1 : (decide (ra = ca)) = false) :
    Calls Try.prog 36 #[.int .i64 p, .agg #[.int .i64 ra, .int .i64 ca, va], .int .i64 n] w (MatOK 0 0 [] false w) := by
  have hlta := Lib.hid ha.lt
  obtain ⟨aa, capa, rfl, hlca, hcma⟩ := ha.shape
  have M := Lib.hid ((((MB.start w).addI ha).alloc #[.int .i64 ra, .int .i64 ca, .slice aa la.length capa] 26).alloc #[.int .i64 0, .int .i64 0, .slice none 0 0] 26)
  clear ha
  have hb1 : (ra != ca) = true := by have := g1; simp at this ⊢; omega
  clear g1
  go_enter Try.func36, Try.ntmps36
  go_wp2_with fail
  refine (s_IsMatrix _ _ _ _ la _ M.out.i0).mono ?_; rintro e w1 ⟨rfl, b1⟩
  have M1 := Lib.hid (M.out.call b1)
  have hsz1 : w.heap.size + 2 ≤ w1.heap.size := by have := b1.size; (try simp only [World.size_alloc] at this); omega
  clear b1
  obtain ⟨pa0, pa1, pa2⟩ := blk3 M1.out.b1
  obtain ⟨q0, q1, q2⟩ := blk3 M1.out.b0
  obtain ⟨z0, z1, z2⟩ := frz3 M1.out.b0
  simp only [World.size_alloc] at pa0 pa1 pa2 q0 q1 q2 z0 z1 z2
  have HZ := mat_zero M1.out (by (try simp only [World.size_alloc]); omega) (.int .i64 0) (.int .i64 0) (.slice none 0 0)
  try simp only [World.size_alloc] at HZ
  have HE := Lib.hid HZ
  clear HZ
  go_wp2
  exact bodyPost_ret (v := .tuple #[.agg #[.int .i64 0, .int .i64 0, .slice none 0 0], .bool false]) (by simp [results, Try.results36, go_sem, HE.out.2.1, HE.out.2.2.1, HE.out.2.2.2]) rfl ⟨_, rfl, Ints.nil _, FreshV.nil _, HE.out.1⟩

set_option maxRecDepth 100000 in
set_option maxHeartbeats 2000000 in
theorem s_PowerOf_no2 (p : Int) (ra ca : Int) (va : Value) (la : List Int) (n : Int) (w : World) (ha : Ints w va la) (g0 : (isM p ra ca la) = true) (g1 : (decide (ra = ca)) = true) (g2 : (inR n 0 100) = false) :
    Calls Try.prog 36 #[.int .i64 p, .agg #[.int .i64 ra, .int .i64 ca, va], .int .i64 n] w (MatOK 0 0 [] false w) := by
  have hlta := Lib.hid ha.lt
  obtain ⟨aa, capa, rfl, hlca, hcma⟩ := ha.shape
  have M := Lib.hid ((((MB.start w).addI ha).alloc #[.int .i64 ra, .int .i64 ca, .slice aa la.length capa] 26).alloc #[.int .i64 0, .int .i64 0, .slice none 0 0] 26)
  clear ha
  have hb1 : (ra != ca) = false := by have := g1; simp at this ⊢; omega
  clear g1
  go_enter Try.func36, Try.ntmps36
  go_wp2_with fail
  refine (s_IsMatrix _ _ _ _ la _ M.out.i0).mono ?_; rintro e w1 ⟨rfl, b1⟩
  have M1 := Lib.hid (M.out.call b1)
  have hsz1 : w.heap.size + 2 ≤ w1.heap.size := by have := b1.size; (try simp only [World.size_alloc] at this); omega
  clear b1
  obtain ⟨pa0, pa1, pa2⟩ := blk3 M1.out.b1
  obtain ⟨q0, q1, q2⟩ := blk3 M1.out.b0
  obtain ⟨z0, z1, z2⟩ := frz3 M1.out.b0
  simp only [World.size_alloc] at pa0 pa1 pa2 q0 q1 q2 z0 z1 z2
  go_wp2_with fail
  refine (s_l1In _ _ _ _).mono ?_; rintro e wz ⟨rfl, rfl⟩
  have HZ := mat_zero M1.out (by (try simp only [World.size_alloc]); omega) (.int .i64 0) (.int .i64 0) (.slice none 0 0)
  try simp only [World.size_alloc] at HZ
  have HE := Lib.hid HZ
  clear HZ
  go_wp2
  exact bodyPost_ret (v := .tuple #[.agg #[.int .i64 0, .int .i64 0, .slice none 0 0], .bool false]) (by simp [results, Try.results36, go_sem, HE.out.2.1, HE.out.2.2.1, HE.out.2.2.2]) rfl ⟨_, rfl, Ints.nil _, FreshV.nil _, HE.out.1⟩

set_option maxRecDepth 100000 in
set_option maxHeartbeats 2000000 in
theorem s_PowerOf_yes (p : Int) (ra ca : Int) (va : Value) (la : List Int) (n : Int) (w : World) (ha : Ints w va la) (g0 : (isM p ra ca la) = true) (g1 : (decide (ra = ca)) = true) (g2 : (inR n 0 100) = true) :
    Calls Try.prog 36 #[.int .i64 p, .agg #[.int .i64 ra, .int .i64 ca, va], .int .i64 n] w (MatOK ra ra (powM p ra.toNat la n.toNat) true w) := by
  have HG := Lib.hid (And.intro g0 (And.intro (show ra = ca by simpa using g1) (inR_true g2)))
  have hlta := Lib.hid ha.lt
  obtain ⟨aa, capa, rfl, hlca, hcma⟩ := ha.shape
  have M := Lib.hid ((((MB.start w).addI ha).alloc #[.int .i64 ra, .int .i64 ca, .slice aa la.length capa] 26).alloc #[.int .i64 0, .int .i64 0, .slice none 0 0] 26)
  clear ha
  have hb1 : (ra != ca) = false := by have := g1; simp at this ⊢; omega
  clear g1
  go_enter Try.func36, Try.ntmps36
  go_wp2_with fail
  refine (s_IsMatrix _ _ _ _ la _ M.out.i0).mono ?_; rintro e w1 ⟨rfl, b1⟩
  have M1 := Lib.hid (M.out.call b1)
  have hsz1 : w.heap.size + 2 ≤ w1.heap.size := by have := b1.size; (try simp only [World.size_alloc] at this); omega
  clear b1
  obtain ⟨pa0, pa1, pa2⟩ := blk3 M1.out.b1
  obtain ⟨q0, q1, q2⟩ := blk3 M1.out.b0
  obtain ⟨z0, z1, z2⟩ := frz3 M1.out.b0
  simp only [World.size_alloc] at pa0 pa1 pa2 q0 q1 q2 z0 z1 z2
  go_wp2_with fail
  refine (s_l1In _ _ _ _).mono ?_; rintro e wz ⟨rfl, rfl⟩
  go_wp2_with fail
  refine (s_l4PowerI _ la _ M1.out.i0 HG.out.1 HG.out.2.1 HG.out.2.2.1 HG.out.2.2.2).mono ?_; rintro e w9 ⟨v9, rfl, hv9, hf9, b9⟩
  clear pa0 pa1 pa2 q0 q1 q2 z0 z1 z2
  have M9 := Lib.hid (M1.out.call b9)
  obtain ⟨a9, cap9, rfl, _, _⟩ := hv9.shape
  obtain ⟨pa0, pa1, pa2⟩ := blk3 M9.out.b1
  obtain ⟨q0, q1, q2⟩ := blk3 M9.out.b0
  obtain ⟨z0, z1, z2⟩ := frz3 M9.out.b0
  simp only [World.size_alloc] at pa0 pa1 pa2 q0 q1 q2 z0 z1 z2
  have HT0 := mat_end M9.out (by (try simp only [World.size_alloc]); omega) hv9 (fun q hq => by have := hf9 q hq; (try simp only [World.size_alloc] at this ⊢); omega) (.int .i64 ra) (.int .i64 ra)
  try simp only [World.size_alloc] at HT0
  have HT := Lib.hid HT0
  clear HT0 hv9 hf9 b9
  go_wp2
  exact bodyPost_ret (v := .tuple #[.agg #[.int .i64 ra, .int .i64 ra, .slice a9 (powM p ra.toNat la n.toNat).length cap9], .bool true]) (by simp [results, Try.results36, go_sem, HT.out.2.1, HT.out.2.2.1, HT.out.2.2.2]) rfl ⟨_, rfl, HT.out.1⟩


theorem s_PowerOf (p : Int) (ra ca : Int) (va : Value) (la : List Int) (n : Int) (w : World) (ha : Ints w va la) :
    Calls Try.prog 36 #[.int .i64 p, .agg #[.int .i64 ra, .int .i64 ca, va], .int .i64 n] w (MatOK (mR (powMOK p ra ca n la) ra) (mR (powMOK p ra ca n la) ra) (mL (powMOK p ra ca n la) (powM p ra.toNat la n.toNat)) (powMOK p ra ca n la) w) := by
  cases g0 : isM p ra ca la
  · exact (s_PowerOf_no0 p ra ca va la n w ha g0).mono fun _ _ h => h.of_eq (by simp [mR, mL, powMOK, g0]) (by simp [mR, mL, powMOK, g0]) (by simp [mR, mL, powMOK, g0]) (by simp [mR, mL, powMOK, g0])
  cases g1 : decide (ra = ca)
  · exact (s_PowerOf_no1 p ra ca va la n w ha g0 g1).mono fun _ _ h => h.of_eq (by simp [mR, mL, powMOK, g0, g1]) (by simp [mR, mL, powMOK, g0, g1]) (by simp [mR, mL, powMOK, g0, g1]) (by simp [mR, mL, powMOK, g0, g1])
  cases g2 : inR n 0 100
  · exact (s_PowerOf_no2 p ra ca va la n w ha g0 g1 g2).mono fun _ _ h => h.of_eq (by simp [mR, mL, powMOK, g0, g1, g2]) (by simp [mR, mL, powMOK, g0, g1, g2]) (by simp [mR, mL, powMOK, g0, g1, g2]) (by simp [mR, mL, powMOK, g0, g1, g2])
  exact (s_PowerOf_yes p ra ca va la n w ha g0 g1 g2).mono fun _ _ h => h.of_eq (by simp [mR, mL, powMOK, g0, g1, g2]) (by simp [mR, mL, powMOK, g0, g1, g2]) (by simp [mR, mL, powMOK, g0, g1, g2]) (by simp [mR, mL, powMOK, g0, g1, g2])

end Go.Proofs.Ytmcjgaffecimlaa
