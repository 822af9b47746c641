/- BlockSum, of the reference. -/
import Derived.Test.YtmcjgaffecimlaaBlkS
import Derived.Test.YtmcjgaffecimlaaMat6
namespace Go.Proofs.Ytmcjgaffecimlaa
open Go.RowKit
set_option linter.unusedVariables false
set_option linter.unusedSimpArgs false

def blkR (ra ca rb cb : Int) (la lb : List Int) : List Int := blkL ra.toNat ca.toNat rb.toNat cb.toNat la lb
def blkMOK (p ra ca rb cb : Int) (la lb : List Int) : Bool := isM p ra ca la && isM p rb cb lb && decide (ra + rb ≤ 8) && decide (ca + cb ≤ 8)
theorem isM_sums {p ra ca rb cb : Int} {la lb : List Int} (h1 : isM p ra ca la = true) (h2 : isM p rb cb lb = true) : (0 ≤ ra + rb ∧ ra + rb ≤ 16) ∧ (0 ≤ ca + cb ∧ ca + cb ≤ 16) := by
  obtain ⟨r0, r8, c0, c8, _, _⟩ := isM_true h1
  obtain ⟨s0, s8, d0, d8, _, _⟩ := isM_true h2
  omega
theorem s_l3BlockI {p ra ca rb cb : Int} (va vb : Value) (la lb : List Int) (w : World) (ha : Ints w va la) (hb : Ints w vb lb) (h1 : isM p ra ca la = true) (h2 : isM p rb cb lb = true) (h3 : ra + rb ≤ 8) (h4 : ca + cb ≤ 8) :
    Calls Try.prog 28 #[.agg #[.int .i64 ra, .int .i64 ca, va], .agg #[.int .i64 rb, .int .i64 cb, vb]] w (MatNew (ra + rb) (ca + cb) (blkR ra ca rb cb la lb) w) := by
  have hl1 := isM_lenN h1
  have hl2 := isM_lenN h2
  obtain ⟨r0, _, c0, _, _, _⟩ := isM_true h1
  obtain ⟨s0, _, d0, _, _, _⟩ := isM_true h2
  unfold blkR
  obtain ⟨R, rfl⟩ := Int.eq_ofNat_of_zero_le r0
  obtain ⟨C, rfl⟩ := Int.eq_ofNat_of_zero_le c0
  obtain ⟨S, rfl⟩ := Int.eq_ofNat_of_zero_le s0
  obtain ⟨D, rfl⟩ := Int.eq_ofNat_of_zero_le d0
  exact s_l3Block R C S D va vb la lb w ha hb hl1 hl2 (by omega) (by omega)


set_option maxRecDepth 100000 in
set_option maxHeartbeats 2000000 in
theorem s_BlockSum_no0 (p : Int) (ra ca : Int) (va : Value) (la : List Int) (rb cb : Int) (vb : Value) (lb : List Int) (w : World) (ha : Ints w va la) (hb : Ints w vb lb) (g0 : (isM p ra ca la) = false) :
    Calls Try.prog 8 #[.int .i64 p, .agg #[.int .i64 ra, .int .i64 ca, va], .agg #[.int .i64 rb, .int .i64 cb, vb]] w (MatOK 0 0 [] false w) := by
  have hlta := Lib.hid ha.lt
  have hltb := Lib.hid hb.lt
  obtain ⟨aa, capa, rfl, hlca, hcma⟩ := ha.shape
  obtain ⟨ab, capb, rfl, hlcb, hcmb⟩ := hb.shape
  have M := Lib.hid ((((((MB.start w).addI ha).addI hb).alloc #[.int .i64 ra, .int .i64 ca, .slice aa la.length capa] 26).alloc #[.int .i64 rb, .int .i64 cb, .slice ab lb.length capb] 26).alloc #[.int .i64 0, .int .i64 0, .slice none 0 0] 26)
  clear ha hb
  go_enter Try.func8, Try.ntmps8
  go_wp2_with fail
  refine (s_IsMatrix _ _ _ _ la _ M.out.i1).mono ?_; rintro e w1 ⟨rfl, b1⟩
  have M1 := Lib.hid (M.out.call b1)
  have hsz1 : w.heap.size + 3 ≤ w1.heap.size := by have := b1.size; (try simp only [World.size_alloc] at this); omega
  clear b1
  obtain ⟨pa0, pa1, pa2⟩ := blk3 M1.out.b2
  obtain ⟨pb0, pb1, pb2⟩ := blk3 M1.out.b1
  obtain ⟨q0, q1, q2⟩ := blk3 M1.out.b0
  obtain ⟨z0, z1, z2⟩ := frz3 M1.out.b0
  simp only [World.size_alloc] at pa0 pa1 pa2 pb0 pb1 pb2 q0 q1 q2 z0 z1 z2
  have HZ := mat_zero M1.out (by (try simp only [World.size_alloc]); omega) (.int .i64 0) (.int .i64 0) (.slice none 0 0)
  try simp only [World.size_alloc] at HZ
  have HE := Lib.hid HZ
  clear HZ
  go_wp2
  exact bodyPost_ret (v := .tuple #[.agg #[.int .i64 0, .int .i64 0, .slice none 0 0], .bool false]) (by simp [results, Try.results8, go_sem, HE.out.2.1, HE.out.2.2.1, HE.out.2.2.2]) rfl ⟨_, rfl, Ints.nil _, FreshV.nil _, HE.out.1⟩

set_option maxRecDepth 100000 in
set_option maxHeartbeats 2000000 in
theorem s_BlockSum_no1 (p : Int) (ra ca : Int) (va : Value) (la : List Int) (rb cb : Int) (vb : Value) (lb : List Int) (w : World) (ha : Ints w va la) (hb : Ints w vb lb) (g0 : (isM p ra ca la) = true) (g1 : (isM p rb cb lb) = false) :
    Calls Try.prog 8 #[.int .i64 p, .agg #[.int .i64 ra, .int .i64 ca, va], .agg #[.int .i64 rb, .int .i64 cb, vb]] w (MatOK 0 0 [] false w) := by
  have hlta := Lib.hid ha.lt
  have hltb := Lib.hid hb.lt
  obtain ⟨aa, capa, rfl, hlca, hcma⟩ := ha.shape
  obtain ⟨ab, capb, rfl, hlcb, hcmb⟩ := hb.shape
  have M := Lib.hid ((((((MB.start w).addI ha).addI hb).alloc #[.int .i64 ra, .int .i64 ca, .slice aa la.length capa] 26).alloc #[.int .i64 rb, .int .i64 cb, .slice ab lb.length capb] 26).alloc #[.int .i64 0, .int .i64 0, .slice none 0 0] 26)
  clear ha hb
  go_enter Try.func8, Try.ntmps8
  go_wp2_with fail
  refine (s_IsMatrix _ _ _ _ la _ M.out.i1).mono ?_; rintro e w1 ⟨rfl, b1⟩
  have M1 := Lib.hid (M.out.call b1)
  have hsz1 : w.heap.size + 3 ≤ w1.heap.size := by have := b1.size; (try simp only [World.size_alloc] at this); omega
  clear b1
  obtain ⟨pa0, pa1, pa2⟩ := blk3 M1.out.b2
  obtain ⟨pb0, pb1, pb2⟩ := blk3 M1.out.b1
  obtain ⟨q0, q1, q2⟩ := blk3 M1.out.b0
  obtain ⟨z0, z1, z2⟩ := frz3 M1.out.b0
  simp only [World.size_alloc] at pa0 pa1 pa2 pb0 pb1 pb2 q0 q1 q2 z0 z1 z2
  go_wp2_with fail
  refine (s_IsMatrix _ _ _ _ lb _ M1.out.i0).mono ?_; rintro e w2 ⟨rfl, b2⟩
  clear pa0 pa1 pa2 pb0 pb1 pb2 q0 q1 q2 z0 z1 z2
  have M2 := Lib.hid (M1.out.call b2)
  have hsz2 : w.heap.size + 3 ≤ w2.heap.size := by have := b2.size; (try simp only [World.size_alloc] at this); omega
  clear b2
  obtain ⟨pa0, pa1, pa2⟩ := blk3 M2.out.b2
  obtain ⟨pb0, pb1, pb2⟩ := blk3 M2.out.b1
  obtain ⟨q0, q1, q2⟩ := blk3 M2.out.b0
  obtain ⟨z0, z1, z2⟩ := frz3 M2.out.b0
  simp only [World.size_alloc] at pa0 pa1 pa2 pb0 pb1 pb2 q0 q1 q2 z0 z1 z2
  have HZ := mat_zero M2.out (by (try simp only [World.size_alloc]); omega) (.int .i64 0) (.int .i64 0) (.slice none 0 0)
  try simp only [World.size_alloc] at HZ
  have HE := Lib.hid HZ
  clear HZ
  go_wp2
  exact bodyPost_ret (v := .tuple #[.agg #[.int .i64 0, .int .i64 0, .slice none 0 0], .bool false]) (by simp [results, Try.results8, go_sem, HE.out.2.1, HE.out.2.2.1, HE.out.2.2.2]) rfl ⟨_, rfl, Ints.nil _, FreshV.nil _, HE.out.1⟩

set_option maxRecDepth 100000 in
set_option maxHeartbeats 2000000 in
theorem s_BlockSum_no2 (p : Int) (ra ca : Int) (va : Value) (la : List Int) (rb cb : Int) (vb : Value) (lb : List Int) (w : World) (ha : Ints w va la) (hb : Ints w vb lb) (g0 : (isM p ra ca la) = true) (g1 : (isM p rb cb lb) = true) (g2 : (decide (ra + rb ≤ 8)) = false) :
    Calls Try.prog 8 #[.int .i64 p, .agg #[.int .i64 ra, .int .i64 ca, va], .agg #[.int .i64 rb, .int .i64 cb, vb]] w (MatOK 0 0 [] false w) := by
  have hlta := Lib.hid ha.lt
  have hltb := Lib.hid hb.lt
  obtain ⟨aa, capa, rfl, hlca, hcma⟩ := ha.shape
  obtain ⟨ab, capb, rfl, hlcb, hcmb⟩ := hb.shape
  have M := Lib.hid ((((((MB.start w).addI ha).addI hb).alloc #[.int .i64 ra, .int .i64 ca, .slice aa la.length capa] 26).alloc #[.int .i64 rb, .int .i64 cb, .slice ab lb.length capb] 26).alloc #[.int .i64 0, .int .i64 0, .slice none 0 0] 26)
  clear ha hb
  have hw2 : IntKind.i64.wrap (ra + rb) = ra + rb := IntWalk.i64_in _ (by have := isM_sums g0 g1; omega)
  have hb2 : decide ((8 : Int) < ra + rb) = true := by have := g2; simp at this ⊢; omega
  clear g2
  go_enter Try.func8, Try.ntmps8
  go_wp2_with fail
  refine (s_IsMatrix _ _ _ _ la _ M.out.i1).mono ?_; rintro e w1 ⟨rfl, b1⟩
  have M1 := Lib.hid (M.out.call b1)
  have hsz1 : w.heap.size + 3 ≤ w1.heap.size := by have := b1.size; (try simp only [World.size_alloc] at this); omega
  clear b1
  obtain ⟨pa0, pa1, pa2⟩ := blk3 M1.out.b2
  obtain ⟨pb0, pb1, pb2⟩ := blk3 M1.out.b1
  obtain ⟨q0, q1, q2⟩ := blk3 M1.out.b0
  obtain ⟨z0, z1, z2⟩ := frz3 M1.out.b0
  simp only [World.size_alloc] at pa0 pa1 pa2 pb0 pb1 pb2 q0 q1 q2 z0 z1 z2
  go_wp2_with fail
  refine (s_IsMatrix _ _ _ _ lb _ M1.out.i0).mono ?_; rintro e w2 ⟨rfl, b2⟩
  clear pa0 pa1 pa2 pb0 pb1 pb2 q0 q1 q2 z0 z1 z2
  have M2 := Lib.hid (M1.out.call b2)
  have hsz2 : w.heap.size + 3 ≤ w2.heap.size := by have := b2.size; (try simp only [World.size_alloc] at this); omega
  clear b2
  obtain ⟨pa0, pa1, pa2⟩ := blk3 M2.out.b2
  obtain ⟨pb0, pb1, pb2⟩ := blk3 M2.out.b1
  obtain ⟨q0, q1, q2⟩ := blk3 M2.out.b0
  obtain ⟨z0, z1, z2⟩ := frz3 M2.out.b0
  simp only [World.size_alloc] at pa0 pa1 pa2 pb0 pb1 pb2 q0 q1 q2 z0 z1 z2
  have HZ := mat_zero M2.out (by (try simp only [World.size_alloc]); omega) (.int .i64 0) (.int .i64 0) (.slice none 0 0)
  try simp only [World.size_alloc] at HZ
  have HE := Lib.hid HZ
  clear HZ
  go_wp2
  exact bodyPost_ret (v := .tuple #[.agg #[.int .i64 0, .int .i64 0, .slice none 0 0], .bool false]) (by simp [results, Try.results8, go_sem, HE.out.2.1, HE.out.2.2.1, HE.out.2.2.2]) rfl ⟨_, rfl, Ints.nil _, FreshV.nil _, HE.out.1⟩

set_option maxRecDepth 100000 in
set_option maxHeartbeats 2000000 in
theorem s_BlockSum_no3 (p : Int) (ra ca : Int) (va : Value) (la : List Int) (rb cb : Int) (vb : Value) (lb : List Int) (w : World) (ha : Ints w va la) (hb : Ints w vb lb) (g0 : (isM p ra ca la) = true) (g1 : (isM p rb cb lb) = true) (g2 : (decide (ra + rb ≤ 8)) = true) (g3 : (decide (ca + cb ≤ 8)) = false) :
    Calls Try.prog 8 #[.int .i64 p, .agg #[.int .i64 ra, .int .i64 ca, va], .agg #[.int .i64 rb, .int .i64 cb, vb]] w (MatOK 0 0 [] false w) := by
  have hlta := Lib.hid ha.lt
  have hltb := Lib.hid hb.lt
  obtain ⟨aa, capa, rfl, hlca, hcma⟩ := ha.shape
  obtain ⟨ab, capb, rfl, hlcb, hcmb⟩ := hb.shape
  have M := Lib.hid ((((((MB.start w).addI ha).addI hb).alloc #[.int .i64 ra, .int .i64 ca, .slice aa la.length capa] 26).alloc #[.int .i64 rb, .int .i64 cb, .slice ab lb.length capb] 26).alloc #[.int .i64 0, .int .i64 0, .slice none 0 0] 26)
  clear ha hb
  have hw2 : IntKind.i64.wrap (ra + rb) = ra + rb := IntWalk.i64_in _ (by have := isM_sums g0 g1; omega)
  have hb2 : decide ((8 : Int) < ra + rb) = false := by have := g2; simp at this ⊢; omega
  clear g2
  have hw3 : IntKind.i64.wrap (ca + cb) = ca + cb := IntWalk.i64_in _ (by have := isM_sums g0 g1; omega)
  have hb3 : decide ((8 : Int) < ca + cb) = true := by have := g3; simp at this ⊢; omega
  clear g3
  go_enter Try.func8, Try.ntmps8
  go_wp2_with fail
  refine (s_IsMatrix _ _ _ _ la _ M.out.i1).mono ?_; rintro e w1 ⟨rfl, b1⟩
  have M1 := Lib.hid (M.out.call b1)
  have hsz1 : w.heap.size + 3 ≤ w1.heap.size := by have := b1.size; (try simp only [World.size_alloc] at this); omega
  clear b1
  obtain ⟨pa0, pa1, pa2⟩ := blk3 M1.out.b2
  obtain ⟨pb0, pb1, pb2⟩ := blk3 M1.out.b1
  obtain ⟨q0, q1, q2⟩ := blk3 M1.out.b0
  obtain ⟨z0, z1, z2⟩ := frz3 M1.out.b0
  simp only [World.size_alloc] at pa0 pa1 pa2 pb0 pb1 pb2 q0 q1 q2 z0 z1 z2
  go_wp2_with fail
  refine (s_IsMatrix _ _ _ _ lb _ M1.out.i0).mono ?_; rintro e w2 ⟨rfl, b2⟩
  clear pa0 pa1 pa2 pb0 pb1 pb2 q0 q1 q2 z0 z1 z2
  have M2 := Lib.hid (M1.out.call b2)
  have hsz2 : w.heap.size + 3 ≤ w2.heap.size := by have := b2.size; (try simp only [World.size_alloc] at this); omega
  clear b2
  obtain ⟨pa0, pa1, pa2⟩ := blk3 M2.out.b2
  obtain ⟨pb0, pb1, pb2⟩ := blk3 M2.out.b1
  obtain ⟨q0, q1, q2⟩ := blk3 M2.out.b0
  obtain ⟨z0, z1, z2⟩ := frz3 M2.out.b0
  simp only [World.size_alloc] at pa0 pa1 pa2 pb0 pb1 pb2 q0 q1 q2 z0 z1 z2
  have HZ := mat_zero M2.out (by (try simp only [World.size_alloc]); omega) (.int .i64 0) (.int .i64 0) (.slice none 0 0)
  try simp only [World.size_alloc] at HZ
  have HE := Lib.hid HZ
  clear HZ
  go_wp2
  exact bodyPost_ret (v := .tuple #[.agg #[.int .i64 0, .int .i64 0, .slice none 0 0], .bool false]) (by simp [results, Try.results8, go_sem, HE.out.2.1, HE.out.2.2.1, HE.out.2.2.2]) rfl ⟨_, rfl, Ints.nil _, FreshV.nil _, HE.out.1⟩

set_option maxRecDepth 100000 in
set_option maxHeartbeats 2000000 in
theorem s_BlockSum_yes (p : Int) (ra ca : Int) (va : Value) (la : List Int) (rb cb : Int) (vb : Value) (lb : List Int) (w : World) (ha : Ints w va la) (hb : Ints w vb lb) (g0 : (isM p ra ca la) = true) (g1 : (isM p rb cb lb) = true) (g2 : (decide (ra + rb ≤ 8)) = true) (g3 : (decide (ca + cb ≤ 8)) = true) :
    Calls Try.prog 8 #[.int .i64 p, .agg #[.int .i64 ra, .int .i64 ca, va], .agg #[.int .i64 rb, .int .i64 cb, vb]] w (MatOK (ra + rb) (ca + cb) (blkR ra ca rb cb la lb) true w) := by
  have HG := Lib.hid (And.intro g0 (And.intro g1 (And.intro (show ra + rb ≤ 8 by simpa using g2) (show ca + cb ≤ 8 by simpa using g3))))
  have hlta := Lib.hid ha.lt
  have hltb := Lib.hid hb.lt
  obtain ⟨aa, capa, rfl, hlca, hcma⟩ := ha.shape
  obtain ⟨ab, capb, rfl, hlcb, hcmb⟩ := hb.shape
  have M := Lib.hid ((((((MB.start w).addI ha).addI hb).alloc #[.int .i64 ra, .int .i64 ca, .slice aa la.length capa] 26).alloc #[.int .i64 rb, .int .i64 cb, .slice ab lb.length capb] 26).alloc #[.int .i64 0, .int .i64 0, .slice none 0 0] 26)
  clear ha hb
  have hw2 : IntKind.i64.wrap (ra + rb) = ra + rb := IntWalk.i64_in _ (by have := isM_sums g0 g1; omega)
  have hb2 : decide ((8 : Int) < ra + rb) = false := by have := g2; simp at this ⊢; omega
  clear g2
  have hw3 : IntKind.i64.wrap (ca + cb) = ca + cb := IntWalk.i64_in _ (by have := isM_sums g0 g1; omega)
  have hb3 : decide ((8 : Int) < ca + cb) = false := by have := g3; simp at this ⊢; omega
  clear g3
  go_enter Try.func8, Try.ntmps8
  go_wp2_with fail
  refine (s_IsMatrix _ _ _ _ la _ M.out.i1).mono ?_; rintro e w1 ⟨rfl, b1⟩
  have M1 := Lib.hid (M.out.call b1)
  have hsz1 : w.heap.size + 3 ≤ w1.heap.size := by have := b1.size; (try simp only [World.size_alloc] at this); omega
  clear b1
  obtain ⟨pa0, pa1, pa2⟩ := blk3 M1.out.b2
  obtain ⟨pb0, pb1, pb2⟩ := blk3 M1.out.b1
  obtain ⟨q0, q1, q2⟩ := blk3 M1.out.b0
  obtain ⟨z0, z1, z2⟩ := frz3 M1.out.b0
  simp only [World.size_alloc] at pa0 pa1 pa2 pb0 pb1 pb2 q0 q1 q2 z0 z1 z2
  go_wp2_with fail
  refine (s_IsMatrix _ _ _ _ lb _ M1.out.i0).mono ?_; rintro e w2 ⟨rfl, b2⟩
  clear pa0 pa1 pa2 pb0 pb1 pb2 q0 q1 q2 z0 z1 z2
  have M2 := Lib.hid (M1.out.call b2)
  have hsz2 : w.heap.size + 3 ≤ w2.heap.size := by have := b2.size; (try simp only [World.size_alloc] at this); omega
  clear b2
  obtain ⟨pa0, pa1, pa2⟩ := blk3 M2.out.b2
  obtain ⟨pb0, pb1, pb2⟩ := blk3 M2.out.b1
  obtain ⟨q0, q1, q2⟩ := blk3 M2.out.b0
  obtain ⟨z0, z1, z2⟩ := frz3 M2.out.b0
  simp only [World.size_alloc] at pa0 pa1 pa2 pb0 pb1 pb2 q0 q1 q2 z0 z1 z2
  go_wp2_with fail
  refine (s_l3BlockI _ _ la lb _ M2.out.i1 M2.out.i0 HG.out.1 HG.out.2.1 HG.out.2.2.1 HG.out.2.2.2).mono ?_; rintro e w9 ⟨v9, rfl, hv9, hf9, b9⟩
  clear hw2 hw3 hb2 hb3
  clear pa0 pa1 pa2 pb0 pb1 pb2 q0 q1 q2 z0 z1 z2
  have M9 := Lib.hid (M2.out.call b9)
  obtain ⟨a9, cap9, rfl, _, _⟩ := hv9.shape
  obtain ⟨pa0, pa1, pa2⟩ := blk3 M9.out.b2
  obtain ⟨pb0, pb1, pb2⟩ := blk3 M9.out.b1
  obtain ⟨q0, q1, q2⟩ := blk3 M9.out.b0
  obtain ⟨z0, z1, z2⟩ := frz3 M9.out.b0
  simp only [World.size_alloc] at pa0 pa1 pa2 pb0 pb1 pb2 q0 q1 q2 z0 z1 z2
  have HT0 := mat_end M9.out (by (try simp only [World.size_alloc]); omega) hv9 (fun q hq => by have := hf9 q hq; (try simp only [World.size_alloc] at this ⊢); omega) (.int .i64 (ra + rb)) (.int .i64 (ca + cb))
  try simp only [World.size_alloc] at HT0
  have HT := Lib.hid HT0
  clear HT0 hv9 hf9 b9
  go_wp2
  exact bodyPost_ret (v := .tuple #[.agg #[.int .i64 (ra + rb), .int .i64 (ca + cb), .slice a9 (blkR ra ca rb cb la lb).length cap9], .bool true]) (by simp [results, Try.results8, go_sem, HT.out.2.1, HT.out.2.2.1, HT.out.2.2.2]) rfl ⟨_, rfl, HT.out.1⟩

theorem s_BlockSum (p : Int) (ra ca : Int) (va : Value) (la : List Int) (rb cb : Int) (vb : Value) (lb : List Int) (w : World) (ha : Ints w va la) (hb : Ints w vb lb) :
    Calls Try.prog 8 #[.int .i64 p, .agg #[.int .i64 ra, .int .i64 ca, va], .agg #[.int .i64 rb, .int .i64 cb, vb]] w (MatOK (mR (blkMOK p ra ca rb cb la lb) (ra + rb)) (mR (blkMOK p ra ca rb cb la lb) (ca + cb)) (mL (blkMOK p ra ca rb cb la lb) (blkR ra ca rb cb la lb)) (blkMOK p ra ca rb cb la lb) w) := by
  cases g0 : isM p ra ca la
  · exact (s_BlockSum_no0 p ra ca va la rb cb vb lb w ha hb g0).mono fun _ _ h => h.of_eq (by simp [mR, mL, blkMOK, g0]) (by simp [mR, mL, blkMOK, g0]) (by simp [mR, mL, blkMOK, g0]) (by simp [mR, mL, blkMOK, g0])
  cases g1 : isM p rb cb lb
  · exact (s_BlockSum_no1 p ra ca va la rb cb vb lb w ha hb g0 g1).mono fun _ _ h => h.of_eq (by simp [mR, mL, blkMOK, g0, g1]) (by simp [mR, mL, blkMOK, g0, g1]) (by simp [mR, mL, blkMOK, g0, g1]) (by simp [mR, mL, blkMOK, g0, g1])
  cases g2 : decide (ra + rb ≤ 8)
  · exact (s_BlockSum_no2 p ra ca va la rb cb vb lb w ha hb g0 g1 g2).mono fun _ _ h => h.of_eq (by simp [mR, mL, blkMOK, g0, g1, g2]) (by simp [mR, mL, blkMOK, g0, g1, g2]) (by simp [mR, mL, blkMOK, g0, g1, g2]) (by simp [mR, mL, blkMOK, g0, g1, g2])
  cases g3 : decide (ca + cb ≤ 8)
  · exact (s_BlockSum_no3 p ra ca va la rb cb vb lb w ha hb g0 g1 g2 g3).mono fun _ _ h => h.of_eq (by simp [mR, mL, blkMOK, g0, g1, g2, g3]) (by simp [mR, mL, blkMOK, g0, g1, g2, g3]) (by simp [mR, mL, blkMOK, g0, g1, g2, g3]) (by simp [mR, mL, blkMOK, g0, g1, g2, g3])
  exact (s_BlockSum_yes p ra ca va la rb cb vb lb w ha hb g0 g1 g2 g3).mono fun _ _ h => h.of_eq (by simp [mR, mL, blkMOK, g0, g1, g2, g3]) (by simp [mR, mL, blkMOK, g0, g1, g2, g3]) (by simp [mR, mL, blkMOK, g0, g1, g2, g3]) (by simp [mR, mL, blkMOK, g0, g1, g2, g3])

end Go.Proofs.Ytmcjgaffecimlaa
