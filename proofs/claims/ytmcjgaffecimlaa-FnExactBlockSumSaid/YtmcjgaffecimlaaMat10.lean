/- BlockSum, of the program. -/
import Derived.Test.YtmcjgaffecimlaaBlocks
import Derived.Test.YtmcjgaffecimlaaMat4
namespace Go.Proofs.Ytmcjgaffecimlaa
open Go.RowKit
set_option linter.unusedVariables false
set_option linter.unusedSimpArgs false

def zR (r c : Int) : List Int := List.replicate (r.toNat * c.toNat) 0
theorem i_zeroR {p ra ca rb cb : Int} {la lb : List Int} (h1 : isM p ra ca la = true) (h2 : isM p rb cb lb = true) (w : World) :
    Calls Try.prog 32 #[.int .i64 ra, .int .i64 cb] w (MatNew ra cb (zR ra cb) w) := by
  obtain ⟨r0, r8, c0, c8, _, _⟩ := isM_true h1
  obtain ⟨s0, s8, d0, d8, _, _⟩ := isM_true h2
  exact i_zeroI ra cb r0 (by omega) d0 (by omega) w
theorem i_blocksI {p ra ca rb cb : Int} (va vz vb : Value) (la lb : List Int) (w : World) (ha : Ints w va la) (hz : Ints w vz (zR ra cb)) (hb : Ints w vb lb) (h1 : isM p ra ca la = true) (h2 : isM p rb cb lb = true) (h3 : ra + rb ≤ 8) (h4 : ca + cb ≤ 8) :
    Calls Try.prog 31 #[.agg #[.int .i64 ra, .int .i64 ca, va], .agg #[.int .i64 ra, .int .i64 cb, vz], .agg #[.int .i64 rb, .int .i64 cb, vb]] w (MatNew (ra + rb) (ca + cb) (blkR ra ca rb cb la lb) w) := by
  have hl1 := isM_lenN h1
  have hl2 := isM_lenN h2
  obtain ⟨r0, _, c0, _, _, _⟩ := isM_true h1
  obtain ⟨s0, _, d0, _, _, _⟩ := isM_true h2
  unfold blkR
  obtain ⟨R, rfl⟩ := Int.eq_ofNat_of_zero_le r0
  obtain ⟨C, rfl⟩ := Int.eq_ofNat_of_zero_le c0
  obtain ⟨S, rfl⟩ := Int.eq_ofNat_of_zero_le s0
  obtain ⟨D, rfl⟩ := Int.eq_ofNat_of_zero_le d0
  exact i_blocks R C S D va vz vb la _ lb w ha hz hb hl1 rfl hl2 (by omega) (by omega) (by omega)


set_option maxRecDepth 100000 in
set_option maxHeartbeats 2000000 in
theorem i_BlockSum_no0 (p : Int) (ra ca : Int) (va : Value) (la : List Int) (rb cb : Int) (vb : Value) (lb : List Int) (w : World) (ha : Ints w va la) (hb : Ints w vb lb) (g0 : (isM p ra ca la) = false) :
    Calls Try.prog 10 #[.int .i64 p, .agg #[.int .i64 ra, .int .i64 ca, va], .agg #[.int .i64 rb, .int .i64 cb, vb]] w (MatOK 0 0 [] false w) := by
  have hlta := Lib.hid ha.lt
  have hltb := Lib.hid hb.lt
  obtain ⟨aa, capa, rfl, hlca, hcma⟩ := ha.shape
  obtain ⟨ab, capb, rfl, hlcb, hcmb⟩ := hb.shape
  have M := Lib.hid ((((((MB.start w).addI ha).addI hb).alloc #[.int .i64 ra, .int .i64 ca, .slice aa la.length capa] 26).alloc #[.int .i64 rb, .int .i64 cb, .slice ab lb.length capb] 26).alloc #[.int .i64 0, .int .i64 0, .slice none 0 0] 26)
  clear ha hb
  go_enter Try.func10, Try.ntmps10
  go_wp2_with fail
  refine (i_IsMatrix _ _ _ _ la _ M.out.i1).mono ?_; rintro e w1 ⟨rfl, b1⟩
  have M1 := Lib.hid (M.out.call b1)
  have hsz1 : w.heap.size + 3 ≤ w1.heap.size := by have := b1.size; (try simp only [World.size_alloc] at this); omega
  clear b1
  obtain ⟨pa0, pa1, pa2⟩ := blk3 M1.out.b2
  obtain ⟨pb0, pb1, pb2⟩ := blk3 M1.out.b1
  obtain ⟨q0, q1, q2⟩ := blk3 M1.out.b0
  obtain ⟨z0, z1, z2⟩ := frz3 M1.out.b0
  simp only [World.size_alloc] at pa0 pa1 pa2 pb0 pb1 pb2 q0 q1 q2 z0 z1 z2
  have HZ := mat_zero M1.out (by (try simp only [World.size_alloc]); omega) (.int .i64 0) (.int .i64 0) (.slice none 0 0)
  try simp only [World.size_alloc] at HZ
  have HE := Lib.hid HZ
  clear HZ
  go_wp2
  exact bodyPost_ret (v := .tuple #[.agg #[.int .i64 0, .int .i64 0, .slice none 0 0], .bool false]) (by simp [results, Try.results10, go_sem, HE.out.2.1, HE.out.2.2.1, HE.out.2.2.2]) rfl ⟨_, rfl, Ints.nil _, FreshV.nil _, HE.out.1⟩

set_option maxRecDepth 100000 in
set_option maxHeartbeats 2000000 in
theorem i_BlockSum_no1 (p : Int) (ra ca : Int) (va : Value) (la : List Int) (rb cb : Int) (vb : Value) (lb : List Int) (w : World) (ha : Ints w va la) (hb : Ints w vb lb) (g0 : (isM p ra ca la) = true) (g1 : (isM p rb cb lb) = false) :
    Calls Try.prog 10 #[.int .i64 p, .agg #[.int .i64 ra, .int .i64 ca, va], .agg #[.int .i64 rb, .int .i64 cb, vb]] w (MatOK 0 0 [] false w) := by
  have hlta := Lib.hid ha.lt
  have hltb := Lib.hid hb.lt
  obtain ⟨aa, capa, rfl, hlca, hcma⟩ := ha.shape
  obtain ⟨ab, capb, rfl, hlcb, hcmb⟩ := hb.shape
  have M := Lib.hid ((((((MB.start w).addI ha).addI hb).alloc #[.int .i64 ra, .int .i64 ca, .slice aa la.length capa] 26).alloc #[.int .i64 rb, .int .i64 cb, .slice ab lb.length capb] 26).alloc #[.int .i64 0, .int .i64 0, .slice none 0 0] 26)
  clear ha hb
  go_enter Try.func10, Try.ntmps10
  go_wp2_with fail
  refine (i_IsMatrix _ _ _ _ la _ M.out.i1).mono ?_; rintro e w1 ⟨rfl, b1⟩
  have M1 := Lib.hid (M.out.call b1)
  have hsz1 : w.heap.size + 3 ≤ w1.heap.size := by have := b1.size; (try simp only [World.size_alloc] at this); omega
  clear b1
  obtain ⟨pa0, pa1, pa2⟩ := blk3 M1.out.b2
  obtain ⟨pb0, pb1, pb2⟩ := blk3 M1.out.b1
  obtain ⟨q0, q1, q2⟩ := blk3 M1.out.b0
  obtain ⟨z0, z1, z2⟩ := frz3 M1.out.b0
  simp only [World.size_alloc] at pa0 pa1 pa2 pb0 pb1 pb2 q0 q1 q2 z0 z1 z2
  go_wp2_with fail
  refine (i_IsMatrix _ _ _ _ lb _ M1.out.i0).mono ?_; rintro e w2 ⟨rfl, b2⟩
  clear pa0 pa1 pa2 pb0 pb1 pb2 q0 q1 q2 z0 z1 z2
  have M2 := Lib.hid (M1.out.call b2)
  have hsz2 : w.heap.size + 3 ≤ w2.heap.size := by have := b2.size; (try simp only [World.size_alloc] at this); omega
  clear b2
  obtain ⟨pa0, pa1, pa2⟩ := blk3 M2.out.b2
  obtain ⟨pb0, pb1, pb2⟩ := blk3 M2.out.b1
  obtain ⟨q0, q1, q2⟩ := blk3 M2.out.b0
  obtain ⟨z0, z1, z2⟩ := frz3 M2.out.b0
  simp only [World.size_alloc] at pa0 pa1 pa2 pb0 pb1 pb2 q0 q1 q2 z0 z1 z2
  have HZ := mat_zero M2.out (by (try simp only [World.size_alloc]); omega) (.int .i64 0) (.int .i64 0) (.slice none 0 0)
  try simp only [World.size_alloc] at HZ
  have HE := Lib.hid HZ
  clear HZ
  go_wp2
  exact bodyPost_ret (v := .tuple #[.agg #[.int .i64 0, .int .i64 0, .slice none 0 0], .bool false]) (by simp [results, Try.results10, go_sem, HE.out.2.1, HE.out.2.2.1, HE.out.2.2.2]) rfl ⟨_, rfl, Ints.nil _, FreshV.nil _, HE.out.1⟩

set_option maxRecDepth 100000 in
set_option maxHeartbeats 2000000 in
theorem i_BlockSum_no2 (p : Int) (ra ca : Int) (va : Value) (la : List Int) (rb cb : Int) (vb : Value) (lb : List Int) (w : World) (ha : Ints w va la) (hb : Ints w vb lb) (g0 : (isM p ra ca la) = true) (g1 : (isM p rb cb lb) = true) (g2 : (decide (ra + rb ≤ 8)) = false) :
    Calls Try.prog 10 #[.int .i64 p, .agg #[.int .i64 ra, .int .i64 ca, va], .agg #[.int .i64 rb, .int .i64 cb, vb]] w (MatOK 0 0 [] false w) := by
  have hlta := Lib.hid ha.lt
  have hltb := Lib.hid hb.lt
  obtain ⟨aa, capa, rfl, hlca, hcma⟩ := ha.shape
  obtain ⟨ab, capb, rfl, hlcb, hcmb⟩ := hb.shape
  have M := Lib.hid ((((((MB.start w).addI ha).addI hb).alloc #[.int .i64 ra, .int .i64 ca, .slice aa la.length capa] 26).alloc #[.int .i64 rb, .int .i64 cb, .slice ab lb.length capb] 26).alloc #[.int .i64 0, .int .i64 0, .slice none 0 0] 26)
  clear ha hb
  have hw2 : IntKind.i64.wrap (ra + rb) = ra + rb := IntWalk.i64_in _ (by have := isM_sums g0 g1; omega)
  have hb2 : decide ((8 : Int) < ra + rb) = true := by have := g2; simp at this ⊢; omega
  clear g2
  go_enter Try.func10, Try.ntmps10
  go_wp2_with fail
  refine (i_IsMatrix _ _ _ _ la _ M.out.i1).mono ?_; rintro e w1 ⟨rfl, b1⟩
  have M1 := Lib.hid (M.out.call b1)
  have hsz1 : w.heap.size + 3 ≤ w1.heap.size := by have := b1.size; (try simp only [World.size_alloc] at this); omega
  clear b1
  obtain ⟨pa0, pa1, pa2⟩ := blk3 M1.out.b2
  obtain ⟨pb0, pb1, pb2⟩ := blk3 M1.out.b1
  obtain ⟨q0, q1, q2⟩ := blk3 M1.out.b0
  obtain ⟨z0, z1, z2⟩ := frz3 M1.out.b0
  simp only [World.size_alloc] at pa0 pa1 pa2 pb0 pb1 pb2 q0 q1 q2 z0 z1 z2
  go_wp2_with fail
  refine (i_IsMatrix _ _ _ _ lb _ M1.out.i0).mono ?_; rintro e w2 ⟨rfl, b2⟩
  clear pa0 pa1 pa2 pb0 pb1 pb2 q0 q1 q2 z0 z1 z2
  have M2 := Lib.hid (M1.out.call b2)
  have hsz2 : w.heap.size + 3 ≤ w2.heap.size := by have := b2.size; (try simp only [World.size_alloc] at this); omega
  clear b2
  obtain ⟨pa0, pa1, pa2⟩ := blk3 M2.out.b2
  obtain ⟨pb0, pb1, pb2⟩ := blk3 M2.out.b1
  obtain ⟨q0, q1, q2⟩ := blk3 M2.out.b0
  obtain ⟨z0, z1, z2⟩ := frz3 M2.out.b0
  simp only [World.size_alloc] at pa0 pa1 pa2 pb0 pb1 pb2 q0 q1 q2 z0 z1 z2
  have HZ := mat_zero M2.out (by (try simp only [World.size_alloc]); omega) (.int .i64 0) (.int .i64 0) (.slice none 0 0)
  try simp only [World.size_alloc] at HZ
  have HE := Lib.hid HZ
  clear HZ
  go_wp2
  exact bodyPost_ret (v := .tuple #[.agg #[.int .i64 0, .int .i64 0, .slice none 0 0], .bool false]) (by simp [results, Try.results10, go_sem, HE.out.2.1, HE.out.2.2.1, HE.out.2.2.2]) rfl ⟨_, rfl, Ints.nil _, FreshV.nil _, HE.out.1⟩

set_option maxRecDepth 100000 in
set_option maxHeartbeats 2000000 in
theorem i_BlockSum_no3 (p : Int) (ra ca : Int) (va : Value) (la : List Int) (rb cb : Int) (vb : Value) (lb : List Int) (w : World) (ha : Ints w va la) (hb : Ints w vb lb) (g0 : (isM p ra ca la) = true) (g1 : (isM p rb cb lb) = true) (g2 : (decide (ra + rb ≤ 8)) = true) (g3 : (decide (ca + cb ≤ 8)) = false) :
    Calls Try.prog 10 #[.int .i64 p, .agg #[.int .i64 ra, .int .i64 ca, va], .agg #[.int .i64 rb, .int .i64 cb, vb]] w (MatOK 0 0 [] false w) := by
  have hlta := Lib.hid ha.lt
  have hltb := Lib.hid hb.lt
  obtain ⟨aa, capa, rfl, hlca, hcma⟩ := ha.shape
  obtain ⟨ab, capb, rfl, hlcb, hcmb⟩ := hb.shape
  have M := Lib.hid ((((((MB.start w).addI ha).addI hb).alloc #[.int .i64 ra, .int .i64 ca, .slice aa la.length capa] 26).alloc #[.int .i64 rb, .int .i64 cb, .slice ab lb.length capb] 26).alloc #[.int .i64 0, .int .i64 0, .slice none 0 0] 26)
  clear ha hb
  have hw2 : IntKind.i64.wrap (ra + rb) = ra + rb := IntWalk.i64_in _ (by have := isM_sums g0 g1; omega)
  have hb2 : decide ((8 : Int) < ra + rb) = false := by have := g2; simp at this ⊢; omega
  clear g2
  have hw3 : IntKind.i64.wrap (ca + cb) = ca + cb := IntWalk.i64_in _ (by have := isM_sums g0 g1; omega)
  have hb3 : decide ((8 : Int) < ca + cb) = true := by have := g3; simp at this ⊢; omega
  clear g3
  go_enter Try.func10, Try.ntmps10
  go_wp2_with fail
  refine (i_IsMatrix _ _ _ _ la _ M.out.i1).mono ?_; rintro e w1 ⟨rfl, b1⟩
  have M1 := Lib.hid (M.out.call b1)
  have hsz1 : w.heap.size + 3 ≤ w1.heap.size := by have := b1.size; (try simp only [World.size_alloc] at this); omega
  clear b1
  obtain ⟨pa0, pa1, pa2⟩ := blk3 M1.out.b2
  obtain ⟨pb0, pb1, pb2⟩ := blk3 M1.out.b1
  obtain ⟨q0, q1, q2⟩ := blk3 M1.out.b0
  obtain ⟨z0, z1, z2⟩ := frz3 M1.out.b0
  simp only [World.size_alloc] at pa0 pa1 pa2 pb0 pb1 pb2 q0 q1 q2 z0 z1 z2
  go_wp2_with fail
  refine (i_IsMatrix _ _ _ _ lb _ M1.out.i0).mono ?_; rintro e w2 ⟨rfl, b2⟩
  clear pa0 pa1 pa2 pb0 pb1 pb2 q0 q1 q2 z0 z1 z2
  have M2 := Lib.hid (M1.out.call b2)
  have hsz2 : w.heap.size + 3 ≤ w2.heap.size := by have := b2.size; (try simp only [World.size_alloc] at this); omega
  clear b2
  obtain ⟨pa0, pa1, pa2⟩ := blk3 M2.out.b2
  obtain ⟨pb0, pb1, pb2⟩ := blk3 M2.out.b1
  obtain ⟨q0, q1, q2⟩ := blk3 M2.out.b0
  obtain ⟨z0, z1, z2⟩ := frz3 M2.out.b0
  simp only [World.size_alloc] at pa0 pa1 pa2 pb0 pb1 pb2 q0 q1 q2 z0 z1 z2
  have HZ := mat_zero M2.out (by (try simp only [World.size_alloc]); omega) (.int .i64 0) (.int .i64 0) (.slice none 0 0)
  try simp only [World.size_alloc] at HZ
  have HE := Lib.hid HZ
  clear HZ
  go_wp2
  exact bodyPost_ret (v := .tuple #[.agg #[.int .i64 0, .int .i64 0, .slice none 0 0], .bool false]) (by simp [results, Try.results10, go_sem, HE.out.2.1, HE.out.2.2.1, HE.out.2.2.2]) rfl ⟨_, rfl, Ints.nil _, FreshV.nil _, HE.out.1⟩

set_option maxRecDepth 100000 in
set_option maxHeartbeats 2000000 in
theorem i_BlockSum_yes (p : Int) (ra ca : Int) (va : Value) (la : List Int) (rb cb : Int) (vb : Value) (lb : List Int) (w : World) (ha : Ints w va la) (hb : Ints w vb lb) (g0 : (isM p ra ca la) = true) (g1 : (isM p rb cb lb) = true) (g2 : (decide (ra + rb ≤ 8)) = true) (g3 : (decide (ca + cb ≤ 8)) = true) :
    Calls Try.prog 10 #[.int .i64 p, .agg #[.int .i64 ra, .int .i64 ca, va], .agg #[.int .i64 rb, .int .i64 cb, vb]] w (MatOK (ra + rb) (ca + cb) (blkR ra ca rb cb la lb) true w) := by
  have HG := Lib.hid (And.intro g0 (And.intro g1 (And.intro (show ra + rb ≤ 8 by simpa using g2) (show ca + cb ≤ 8 by simpa using g3))))
  have hlta := Lib.hid ha.lt
  have hltb := Lib.hid hb.lt
  obtain ⟨aa, capa, rfl, hlca, hcma⟩ := ha.shape
  obtain ⟨ab, capb, rfl, hlcb, hcmb⟩ := hb.shape
  have M := Lib.hid ((((((MB.start w).addI ha).addI hb).alloc #[.int .i64 ra, .int .i64 ca, .slice aa la.length capa] 26).alloc #[.int .i64 rb, .int .i64 cb, .slice ab lb.length capb] 26).alloc #[.int .i64 0, .int .i64 0, .slice none 0 0] 26)
  clear ha hb
  have hw2 : IntKind.i64.wrap (ra + rb) = ra + rb := IntWalk.i64_in _ (by have := isM_sums g0 g1; omega)
  have hb2 : decide ((8 : Int) < ra + rb) = false := by have := g2; simp at this ⊢; omega
  clear g2
  have hw3 : IntKind.i64.wrap (ca + cb) = ca + cb := IntWalk.i64_in _ (by have := isM_sums g0 g1; omega)
  have hb3 : decide ((8 : Int) < ca + cb) = false := by have := g3; simp at this ⊢; omega
  clear g3
  go_enter Try.func10, Try.ntmps10
  go_wp2_with fail
  refine (i_IsMatrix _ _ _ _ la _ M.out.i1).mono ?_; rintro e w1 ⟨rfl, b1⟩
  have M1 := Lib.hid (M.out.call b1)
  have hsz1 : w.heap.size + 3 ≤ w1.heap.size := by have := b1.size; (try simp only [World.size_alloc] at this); omega
  clear b1
  obtain ⟨pa0, pa1, pa2⟩ := blk3 M1.out.b2
  obtain ⟨pb0, pb1, pb2⟩ := blk3 M1.out.b1
  obtain ⟨q0, q1, q2⟩ := blk3 M1.out.b0
  obtain ⟨z0, z1, z2⟩ := frz3 M1.out.b0
  simp only [World.size_alloc] at pa0 pa1 pa2 pb0 pb1 pb2 q0 q1 q2 z0 z1 z2
  go_wp2_with fail
  refine (i_IsMatrix _ _ _ _ lb _ M1.out.i0).mono ?_; rintro e w2 ⟨rfl, b2⟩
  clear pa0 pa1 pa2 pb0 pb1 pb2 q0 q1 q2 z0 z1 z2
  have M2 := Lib.hid (M1.out.call b2)
  have hsz2 : w.heap.size + 3 ≤ w2.heap.size := by have := b2.size; (try simp only [World.size_alloc] at this); omega
  clear b2
  obtain ⟨pa0, pa1, pa2⟩ := blk3 M2.out.b2
  obtain ⟨pb0, pb1, pb2⟩ := blk3 M2.out.b1
  obtain ⟨q0, q1, q2⟩ := blk3 M2.out.b0
  obtain ⟨z0, z1, z2⟩ := frz3 M2.out.b0
  simp only [World.size_alloc] at pa0 pa1 pa2 pb0 pb1 pb2 q0 q1 q2 z0 z1 z2
  clear pa0 pa1 pa2 pb0 pb1 pb2 q0 q1 q2 z0 z1 z2
  obtain ⟨pa0, pa1, pa2⟩ := blk3 M2.out.b2
  obtain ⟨pb0, pb1, pb2⟩ := blk3 M2.out.b1
  simp only [World.size_alloc] at pa0 pa1 pa2 pb0 pb1 pb2
  have HS := Lib.hid (fun (w' : World) (hb : Below w2.heap.size w2 w') => (show (w'.cell? ⟨w.heap.size, 0, none⟩ = some (.int .i64 ra) ∧ w'.cell? ⟨w.heap.size, 1, none⟩ = some (.int .i64 ca) ∧ w'.cell? ⟨w.heap.size, 2, none⟩ = some (.slice aa la.length capa)) ∧ (w'.cell? ⟨w.heap.size + 1, 0, none⟩ = some (.int .i64 rb) ∧ w'.cell? ⟨w.heap.size + 1, 1, none⟩ = some (.int .i64 cb) ∧ w'.cell? ⟨w.heap.size + 1, 2, none⟩ = some (.slice ab lb.length capb)) from by have h := M2.out.call hb; simp only [World.size_alloc] at h; exact ⟨blk3 h.b2, blk3 h.b1⟩))
  have HX := Lib.hid (fun (w' : World) (hb : Below w2.heap.size w2 w') (y0 y1 y2 : Value) => (show ((((w'.setCell ⟨w.heap.size + 1 + 1, 0, none⟩ y0).setCell ⟨w.heap.size + 1 + 1, 1, none⟩ y1).setCell ⟨w.heap.size + 1 + 1, 2, none⟩ y2).cell? ⟨w.heap.size, 0, none⟩ = some (.int .i64 ra) ∧ (((w'.setCell ⟨w.heap.size + 1 + 1, 0, none⟩ y0).setCell ⟨w.heap.size + 1 + 1, 1, none⟩ y1).setCell ⟨w.heap.size + 1 + 1, 2, none⟩ y2).cell? ⟨w.heap.size, 1, none⟩ = some (.int .i64 ca) ∧ (((w'.setCell ⟨w.heap.size + 1 + 1, 0, none⟩ y0).setCell ⟨w.heap.size + 1 + 1, 1, none⟩ y1).setCell ⟨w.heap.size + 1 + 1, 2, none⟩ y2).cell? ⟨w.heap.size, 2, none⟩ = some (.slice aa la.length capa)) ∧ ((((w'.setCell ⟨w.heap.size + 1 + 1, 0, none⟩ y0).setCell ⟨w.heap.size + 1 + 1, 1, none⟩ y1).setCell ⟨w.heap.size + 1 + 1, 2, none⟩ y2).cell? ⟨w.heap.size + 1, 0, none⟩ = some (.int .i64 rb) ∧ (((w'.setCell ⟨w.heap.size + 1 + 1, 0, none⟩ y0).setCell ⟨w.heap.size + 1 + 1, 1, none⟩ y1).setCell ⟨w.heap.size + 1 + 1, 2, none⟩ y2).cell? ⟨w.heap.size + 1, 1, none⟩ = some (.int .i64 cb) ∧ (((w'.setCell ⟨w.heap.size + 1 + 1, 0, none⟩ y0).setCell ⟨w.heap.size + 1 + 1, 1, none⟩ y1).setCell ⟨w.heap.size + 1 + 1, 2, none⟩ y2).cell? ⟨w.heap.size + 1, 2, none⟩ = some (.slice ab lb.length capb)) from by
    have h := M2.out.call hb
    simp only [World.size_alloc] at h
    have k := ((((Chg.refl (fun k => k = w.heap.size + 1 + 1) w').setCell (p := ⟨w.heap.size + 1 + 1, 0, none⟩) rfl y0).setCell (p := ⟨w.heap.size + 1 + 1, 1, none⟩) rfl y1).setCell (p := ⟨w.heap.size + 1 + 1, 2, none⟩) rfl y2)
    exact ⟨blk3 (Blk.chg h.b2 k (by omega)), blk3 (Blk.chg h.b1 k (by omega))⟩))
  go_upto_region 3 with fail
  clear hw2 hw3 hb2 hb3 pa0 pa1 pa2 pb0 pb1 pb2
  go_region_held3 (fun w' => (w'.cell? ⟨w.heap.size, 0, none⟩ = some (.int .i64 ra) ∧ w'.cell? ⟨w.heap.size, 1, none⟩ = some (.int .i64 ca) ∧ w'.cell? ⟨w.heap.size, 2, none⟩ = some (.slice aa la.length capa)) ∧ (w'.cell? ⟨w.heap.size + 1, 0, none⟩ = some (.int .i64 rb) ∧ w'.cell? ⟨w.heap.size + 1, 1, none⟩ = some (.int .i64 cb) ∧ w'.cell? ⟨w.heap.size + 1, 2, none⟩ = some (.slice ab lb.length capb)))
    (first
      | with_reducible exact HS.out _ ((Below.refl _ _).drew)
      | with_reducible exact HS.out _ hb3
      | with_reducible exact HS.out _ hb4
      | with_reducible exact HX.out _ hb4 _ _ _)
    (first
      | (go_at_call 31; (with_reducible refine (i_blocksI _ _ _ la lb _ (M2.out.i1.below hb3) hz (M2.out.i0.below hb3) HG.out.1 HG.out.2.1 HG.out.2.2.1 HG.out.2.2.2).mono ?_); rintro e w4 ⟨v4, rfl, hv4, hf4, b4⟩; have hb4 := hb3.trans (b4.mono hb3.size); obtain ⟨a4, c4, rfl, _, _⟩ := hv4.shape; have h5 := M2.out.call hb4; simp only [World.size_alloc] at h5; obtain ⟨q0, q1, q2⟩ := blk3 h5.b0; obtain ⟨z0, z1, z2⟩ := frz3 h5.b0)
      | (go_at_call 32; (with_reducible refine (i_zeroR HG.out.1 HG.out.2.1 _).mono ?_); rintro e w3 ⟨vz, rfl, hz, _, b3⟩; have hb3 := (Below.refl w2.heap.size w2).drew.trans b3; obtain ⟨az, cz, rfl, _, _⟩ := hz.shape))
  all_goals
    have HT0 := mat_end (M2.out.call hb4) (by (try simp only [World.size_alloc]); omega) hv4 (fun q hq => by have := hf4 q hq; have := hb3.size; (try simp only [World.size_alloc] at this ⊢); omega) (.int .i64 (ra + rb)) (.int .i64 (ca + cb))
    try simp only [World.size_alloc] at HT0
    have HT := Lib.hid HT0
    clear HT0 hv4 hf4 b4 hb4 h5 q0 q1 q2 z0 z1 z2
    go_wp2
    exact bodyPost_ret (v := .tuple #[.agg #[.int .i64 (ra + rb), .int .i64 (ca + cb), .slice a4 (blkR ra ca rb cb la lb).length c4], .bool true]) (by simp [results, Try.results10, go_sem, HT.out.2.1, HT.out.2.2.1, HT.out.2.2.2]) rfl ⟨_, rfl, HT.out.1⟩

theorem i_BlockSum (p : Int) (ra ca : Int) (va : Value) (la : List Int) (rb cb : Int) (vb : Value) (lb : List Int) (w : World) (ha : Ints w va la) (hb : Ints w vb lb) :
    Calls Try.prog 10 #[.int .i64 p, .agg #[.int .i64 ra, .int .i64 ca, va], .agg #[.int .i64 rb, .int .i64 cb, vb]] w (MatOK (mR (blkMOK p ra ca rb cb la lb) (ra + rb)) (mR (blkMOK p ra ca rb cb la lb) (ca + cb)) (mL (blkMOK p ra ca rb cb la lb) (blkR ra ca rb cb la lb)) (blkMOK p ra ca rb cb la lb) w) := by
  cases g0 : isM p ra ca la
  · exact (i_BlockSum_no0 p ra ca va la rb cb vb lb w ha hb g0).mono fun _ _ h => h.of_eq (by simp [mR, mL, blkMOK, g0]) (by simp [mR, mL, blkMOK, g0]) (by simp [mR, mL, blkMOK, g0]) (by simp [mR, mL, blkMOK, g0])
  cases g1 : isM p rb cb lb
  · exact (i_BlockSum_no1 p ra ca va la rb cb vb lb w ha hb g0 g1).mono fun _ _ h => h.of_eq (by simp [mR, mL, blkMOK, g0, g1]) (by simp [mR, mL, blkMOK, g0, g1]) (by simp [mR, mL, blkMOK, g0, g1]) (by simp [mR, mL, blkMOK, g0, g1])
  cases g2 : decide (ra + rb ≤ 8)
  · exact (i_BlockSum_no2 p ra ca va la rb cb vb lb w ha hb g0 g1 g2).mono fun _ _ h => h.of_eq (by simp [mR, mL, blkMOK, g0, g1, g2]) (by simp [mR, mL, blkMOK, g0, g1, g2]) (by simp [mR, mL, blkMOK, g0, g1, g2]) (by simp [mR, mL, blkMOK, g0, g1, g2])
  cases g3 : decide (ca + cb ≤ 8)
  · exact (i_BlockSum_no3 p ra ca va la rb cb vb lb w ha hb g0 g1 g2 g3).mono fun _ _ h => h.of_eq (by simp [mR, mL, blkMOK, g0, g1, g2, g3]) (by simp [mR, mL, blkMOK, g0, g1, g2, g3]) (by simp [mR, mL, blkMOK, g0, g1, g2, g3]) (by simp [mR, mL, blkMOK, g0, g1, g2, g3])
  exact (i_BlockSum_yes p ra ca va la rb cb vb lb w ha hb g0 g1 g2 g3).mono fun _ _ h => h.of_eq (by simp [mR, mL, blkMOK, g0, g1, g2, g3]) (by simp [mR, mL, blkMOK, g0, g1, g2, g3]) (by simp [mR, mL, blkMOK, g0, g1, g2, g3]) (by simp [mR, mL, blkMOK, g0, g1, g2, g3])

end Go.Proofs.Ytmcjgaffecimlaa
