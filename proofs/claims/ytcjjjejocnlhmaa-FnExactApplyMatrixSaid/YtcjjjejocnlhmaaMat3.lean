/- AddMatrices and ScaleMatrix, of the program and of the reference. -/
import Derived.Test.YtcjjjejocnlhmaaPlus
namespace Go.Proofs.Ytcjjjejocnlhmaa
open Go.RowKit
set_option linter.unusedVariables false
set_option linter.unusedSimpArgs false

theorem isM_V {p r c : Int} {l : List Int} (h : isM p r c l = true) : isV p l = true := (isM_true h).2.2.2.2.2
theorem isM_len {p r c : Int} {l : List Int} (h : isM p r c l = true) : l.length ≤ 64 := isV_L (isM_V h)
theorem isM_p {p r c : Int} {l : List Int} (h : isM p r c l = true) : 2 ≤ p ∧ p ≤ 5 := by have := isF_cases (isV_F (isM_V h)); omega
theorem isM_same {p r c r' c' : Int} {l l' : List Int} (h : isM p r c l = true) (h' : isM p r' c' l' = true) (hr : r = r') (hc : c = c') : l.length = l'.length := by
  have a := (isM_true h).2.2.2.2.1
  have b := (isM_true h').2.2.2.2.1
  rw [hr, hc, ← b] at a
  omega
def mR (ok : Bool) (r : Int) : Int := if ok = true then r else 0
def mL (ok : Bool) (l : List Int) : List Int := if ok = true then l else []
def addMOK (p ra ca rb cb : Int) (la lb : List Int) : Bool := isM p ra ca la && isM p rb cb lb && decide (ra = rb) && decide (ca = cb)


set_option maxRecDepth 100000 in
set_option maxHeartbeats 2000000 in
theorem i_AddMatrices_no0 (p : Int) (ra ca : Int) (va : Value) (la : List Int) (rb cb : Int) (vb : Value) (lb : List Int) (w : World) (ha : Ints w va la) (hb : Ints w vb lb) (g0 : (isM p ra ca la) = false) :
    Calls Try.prog 16 #[.int .i64 p, .agg #[.int .i64 ra, .int .i64 ca, va], .agg #[.int .i64 rb, .int .i64 cb, vb]] w (MatOK 0 0 [] false w) := by
  have hlta := Lib.hid ha.lt
  have hltb := Lib.hid hb.lt
  obtain ⟨aa, capa, rfl, hlca, hcma⟩ := ha.shape
  obtain ⟨ab, capb, rfl, hlcb, hcmb⟩ := hb.shape
  have M := Lib.hid ((((((MB.start w).addI ha).addI hb).alloc #[.int .i64 ra, .int .i64 ca, .slice aa la.length capa] 26).alloc #[.int .i64 rb, .int .i64 cb, .slice ab lb.length capb] 26).alloc #[.int .i64 0, .int .i64 0, .slice none 0 0] 26)
  clear ha hb
  go_enter Try.func16, Try.ntmps16
  go_wp2_with fail
  refine (i_IsMatrix _ _ _ _ la _ M.out.i1).mono ?_; rintro e w1 ⟨rfl, b1⟩
  have M1 := Lib.hid (M.out.call b1)
  have hsz1 : w.heap.size + 3 ≤ w1.heap.size := by have := b1.size; (try simp only [World.size_alloc] at this); omega
  clear b1
  obtain ⟨pa0, pa1, pa2⟩ := blk3 M1.out.b2
  obtain ⟨pb0, pb1, pb2⟩ := blk3 M1.out.b1
  obtain ⟨q0, q1, q2⟩ := blk3 M1.out.b0
  obtain ⟨z0, z1, z2⟩ := frz3 M1.out.b0
  simp only [World.size_alloc] at pa0 pa1 pa2 pb0 pb1 pb2 q0 q1 q2 z0 z1 z2
  have HZ := mat_zero M1.out (by (try simp only [World.size_alloc]); omega) (.int .i64 0) (.int .i64 0) (.slice none 0 0)
  try simp only [World.size_alloc] at HZ
  have HE := Lib.hid HZ
  clear HZ
  go_wp2
  exact bodyPost_ret (v := .tuple #[.agg #[.int .i64 0, .int .i64 0, .slice none 0 0], .bool false]) (by simp [results, Try.results16, go_sem, HE.out.2.1, HE.out.2.2.1, HE.out.2.2.2]) rfl ⟨_, rfl, Ints.nil _, FreshV.nil _, HE.out.1⟩

set_option maxRecDepth 100000 in
set_option maxHeartbeats 2000000 in
theorem i_AddMatrices_no1 (p : Int) (ra ca : Int) (va : Value) (la : List Int) (rb cb : Int) (vb : Value) (lb : List Int) (w : World) (ha : Ints w va la) (hb : Ints w vb lb) (g0 : (isM p ra ca la) = true) (g1 : (isM p rb cb lb) = false) :
    Calls Try.prog 16 #[.int .i64 p, .agg #[.int .i64 ra, .int .i64 ca, va], .agg #[.int .i64 rb, .int .i64 cb, vb]] w (MatOK 0 0 [] false w) := by
  have hlta := Lib.hid ha.lt
  have hltb := Lib.hid hb.lt
  obtain ⟨aa, capa, rfl, hlca, hcma⟩ := ha.shape
  obtain ⟨ab, capb, rfl, hlcb, hcmb⟩ := hb.shape
  have M := Lib.hid ((((((MB.start w).addI ha).addI hb).alloc #[.int .i64 ra, .int .i64 ca, .slice aa la.length capa] 26).alloc #[.int .i64 rb, .int .i64 cb, .slice ab lb.length capb] 26).alloc #[.int .i64 0, .int .i64 0, .slice none 0 0] 26)
  clear ha hb
  go_enter Try.func16, Try.ntmps16
  go_wp2_with fail
  refine (i_IsMatrix _ _ _ _ la _ M.out.i1).mono ?_; rintro e w1 ⟨rfl, b1⟩
  have M1 := Lib.hid (M.out.call b1)
  have hsz1 : w.heap.size + 3 ≤ w1.heap.size := by have := b1.size; (try simp only [World.size_alloc] at this); omega
  clear b1
  obtain ⟨pa0, pa1, pa2⟩ := blk3 M1.out.b2
  obtain ⟨pb0, pb1, pb2⟩ := blk3 M1.out.b1
  obtain ⟨q0, q1, q2⟩ := blk3 M1.out.b0
  obtain ⟨z0, z1, z2⟩ := frz3 M1.out.b0
  simp only [World.size_alloc] at pa0 pa1 pa2 pb0 pb1 pb2 q0 q1 q2 z0 z1 z2
  go_wp2_with fail
  refine (i_IsMatrix _ _ _ _ lb _ M1.out.i0).mono ?_; rintro e w2 ⟨rfl, b2⟩
  clear pa0 pa1 pa2 pb0 pb1 pb2 q0 q1 q2 z0 z1 z2
  have M2 := Lib.hid (M1.out.call b2)
  have hsz2 : w.heap.size + 3 ≤ w2.heap.size := by have := b2.size; (try simp only [World.size_alloc] at this); omega
  clear b2
  obtain ⟨pa0, pa1, pa2⟩ := blk3 M2.out.b2
  obtain ⟨pb0, pb1, pb2⟩ := blk3 M2.out.b1
  obtain ⟨q0, q1, q2⟩ := blk3 M2.out.b0
  obtain ⟨z0, z1, z2⟩ := frz3 M2.out.b0
  simp only [World.size_alloc] at pa0 pa1 pa2 pb0 pb1 pb2 q0 q1 q2 z0 z1 z2
  have HZ := mat_zero M2.out (by (try simp only [World.size_alloc]); omega) (.int .i64 0) (.int .i64 0) (.slice none 0 0)
  try simp only [World.size_alloc] at HZ
  have HE := Lib.hid HZ
  clear HZ
  go_wp2
  exact bodyPost_ret (v := .tuple #[.agg #[.int .i64 0, .int .i64 0, .slice none 0 0], .bool false]) (by simp [results, Try.results16, go_sem, HE.out.2.1, HE.out.2.2.1, HE.out.2.2.2]) rfl ⟨_, rfl, Ints.nil _, FreshV.nil _, HE.out.1⟩

set_option maxRecDepth 100000 in
set_option maxHeartbeats 2000000 in
theorem i_AddMatrices_no2 (p : Int) (ra ca : Int) (va : Value) (la : List Int) (rb cb : Int) (vb : Value) (lb : List Int) (w : World) (ha : Ints w va la) (hb : Ints w vb lb) (g0 : (isM p ra ca la) = true) (g1 : (isM p rb cb lb) = true) (g2 : (decide (ra = rb)) = false) :
    Calls Try.prog 16 #[.int .i64 p, .agg #[.int .i64 ra, .int .i64 ca, va], .agg #[.int .i64 rb, .int .i64 cb, vb]] w (MatOK 0 0 [] false w) := by
  have hlta := Lib.hid ha.lt
  have hltb := Lib.hid hb.lt
  obtain ⟨aa, capa, rfl, hlca, hcma⟩ := ha.shape
  obtain ⟨ab, capb, rfl, hlcb, hcmb⟩ := hb.shape
  have M := Lib.hid ((((((MB.start w).addI ha).addI hb).alloc #[.int .i64 ra, .int .i64 ca, .slice aa la.length capa] 26).alloc #[.int .i64 rb, .int .i64 cb, .slice ab lb.length capb] 26).alloc #[.int .i64 0, .int .i64 0, .slice none 0 0] 26)
  clear ha hb
  have hb2 : (ra != rb) = true := by have := g2; simp at this ⊢; omega
  clear g2
  go_enter Try.func16, Try.ntmps16
  go_wp2_with fail
  refine (i_IsMatrix _ _ _ _ la _ M.out.i1).mono ?_; rintro e w1 ⟨rfl, b1⟩
  have M1 := Lib.hid (M.out.call b1)
  have hsz1 : w.heap.size + 3 ≤ w1.heap.size := by have := b1.size; (try simp only [World.size_alloc] at this); omega
  clear b1
  obtain ⟨pa0, pa1, pa2⟩ := blk3 M1.out.b2
  obtain ⟨pb0, pb1, pb2⟩ := blk3 M1.out.b1
  obtain ⟨q0, q1, q2⟩ := blk3 M1.out.b0
  obtain ⟨z0, z1, z2⟩ := frz3 M1.out.b0
  simp only [World.size_alloc] at pa0 pa1 pa2 pb0 pb1 pb2 q0 q1 q2 z0 z1 z2
  go_wp2_with fail
  refine (i_IsMatrix _ _ _ _ lb _ M1.out.i0).mono ?_; rintro e w2 ⟨rfl, b2⟩
  clear pa0 pa1 pa2 pb0 pb1 pb2 q0 q1 q2 z0 z1 z2
  have M2 := Lib.hid (M1.out.call b2)
  have hsz2 : w.heap.size + 3 ≤ w2.heap.size := by have := b2.size; (try simp only [World.size_alloc] at this); omega
  clear b2
  obtain ⟨pa0, pa1, pa2⟩ := blk3 M2.out.b2
  obtain ⟨pb0, pb1, pb2⟩ := blk3 M2.out.b1
  obtain ⟨q0, q1, q2⟩ := blk3 M2.out.b0
  obtain ⟨z0, z1, z2⟩ := frz3 M2.out.b0
  simp only [World.size_alloc] at pa0 pa1 pa2 pb0 pb1 pb2 q0 q1 q2 z0 z1 z2
  have HZ := mat_zero M2.out (by (try simp only [World.size_alloc]); omega) (.int .i64 0) (.int .i64 0) (.slice none 0 0)
  try simp only [World.size_alloc] at HZ
  have HE := Lib.hid HZ
  clear HZ
  go_wp2
  exact bodyPost_ret (v := .tuple #[.agg #[.int .i64 0, .int .i64 0, .slice none 0 0], .bool false]) (by simp [results, Try.results16, go_sem, HE.out.2.1, HE.out.2.2.1, HE.out.2.2.2]) rfl ⟨_, rfl, Ints.nil _, FreshV.nil _, HE.out.1⟩

set_option maxRecDepth 100000 in
set_option maxHeartbeats 2000000 in
theorem i_AddMatrices_no3 (p : Int) (ra ca : Int) (va : Value) (la : List Int) (rb cb : Int) (vb : Value) (lb : List Int) (w : World) (ha : Ints w va la) (hb : Ints w vb lb) (g0 : (isM p ra ca la) = true) (g1 : (isM p rb cb lb) = true) (g2 : (decide (ra = rb)) = true) (g3 : (decide (ca = cb)) = false) :
    Calls Try.prog 16 #[.int .i64 p, .agg #[.int .i64 ra, .int .i64 ca, va], .agg #[.int .i64 rb, .int .i64 cb, vb]] w (MatOK 0 0 [] false w) := by
  have hlta := Lib.hid ha.lt
  have hltb := Lib.hid hb.lt
  obtain ⟨aa, capa, rfl, hlca, hcma⟩ := ha.shape
  obtain ⟨ab, capb, rfl, hlcb, hcmb⟩ := hb.shape
  have M := Lib.hid ((((((MB.start w).addI ha).addI hb).alloc #[.int .i64 ra, .int .i64 ca, .slice aa la.length capa] 26).alloc #[.int .i64 rb, .int .i64 cb, .slice ab lb.length capb] 26).alloc #[.int .i64 0, .int .i64 0, .slice none 0 0] 26)
  clear ha hb
  have hb2 : (ra != rb) = false := by have := g2; simp at this ⊢; omega
  clear g2
  have hb3 : (ca != cb) = true := by have := g3; simp at this ⊢; omega
  clear g3
  go_enter Try.func16, Try.ntmps16
  go_wp2_with fail
  refine (i_IsMatrix _ _ _ _ la _ M.out.i1).mono ?_; rintro e w1 ⟨rfl, b1⟩
  have M1 := Lib.hid (M.out.call b1)
  have hsz1 : w.heap.size + 3 ≤ w1.heap.size := by have := b1.size; (try simp only [World.size_alloc] at this); omega
  clear b1
  obtain ⟨pa0, pa1, pa2⟩ := blk3 M1.out.b2
  obtain ⟨pb0, pb1, pb2⟩ := blk3 M1.out.b1
  obtain ⟨q0, q1, q2⟩ := blk3 M1.out.b0
  obtain ⟨z0, z1, z2⟩ := frz3 M1.out.b0
  simp only [World.size_alloc] at pa0 pa1 pa2 pb0 pb1 pb2 q0 q1 q2 z0 z1 z2
  go_wp2_with fail
  refine (i_IsMatrix _ _ _ _ lb _ M1.out.i0).mono ?_; rintro e w2 ⟨rfl, b2⟩
  clear pa0 pa1 pa2 pb0 pb1 pb2 q0 q1 q2 z0 z1 z2
  have M2 := Lib.hid (M1.out.call b2)
  have hsz2 : w.heap.size + 3 ≤ w2.heap.size := by have := b2.size; (try simp only [World.size_alloc] at this); omega
  clear b2
  obtain ⟨pa0, pa1, pa2⟩ := blk3 M2.out.b2
  obtain ⟨pb0, pb1, pb2⟩ := blk3 M2.out.b1
  obtain ⟨q0, q1, q2⟩ := blk3 M2.out.b0
  obtain ⟨z0, z1, z2⟩ := frz3 M2.out.b0
  simp only [World.size_alloc] at pa0 pa1 pa2 pb0 pb1 pb2 q0 q1 q2 z0 z1 z2
  have HZ := mat_zero M2.out (by (try simp only [World.size_alloc]); omega) (.int .i64 0) (.int .i64 0) (.slice none 0 0)
  try simp only [World.size_alloc] at HZ
  have HE := Lib.hid HZ
  clear HZ
  go_wp2
  exact bodyPost_ret (v := .tuple #[.agg #[.int .i64 0, .int .i64 0, .slice none 0 0], .bool false]) (by simp [results, Try.results16, go_sem, HE.out.2.1, HE.out.2.2.1, HE.out.2.2.2]) rfl ⟨_, rfl, Ints.nil _, FreshV.nil _, HE.out.1⟩

set_option maxRecDepth 100000 in
set_option maxHeartbeats 2000000 in
theorem i_AddMatrices_yes (p : Int) (ra ca : Int) (va : Value) (la : List Int) (rb cb : Int) (vb : Value) (lb : List Int) (w : World) (ha : Ints w va la) (hb : Ints w vb lb) (g0 : (isM p ra ca la) = true) (g1 : (isM p rb cb lb) = true) (g2 : (decide (ra = rb)) = true) (g3 : (decide (ca = cb)) = true) :
    Calls Try.prog 16 #[.int .i64 p, .agg #[.int .i64 ra, .int .i64 ca, va], .agg #[.int .i64 rb, .int .i64 cb, vb]] w (MatOK ra ca (addV p la lb) true w) := by
  have hlen := isM_same g0 g1 (by simpa using g2) (by simpa using g3)
  have hla := isM_len g0
  obtain ⟨hp2, hp5⟩ := isM_p g0
  have HBD := Lib.hid (fun j (hj : j < lb.length) => (show 0 ≤ la.getD j 0 ∧ la.getD j 0 ≤ 1000000 ∧ 0 ≤ 1 * lb.getD j 0 ∧ 1 * lb.getD j 0 ≤ 1000000 from by have := isV_elem (isM_V g0) (show j < la.length by omega); have := isV_elem (isM_V g1) hj; omega))
  have HL := Lib.hid hlen
  have hle : lb.length ≤ la.length := by omega
  clear hlen
  have hlta := Lib.hid ha.lt
  have hltb := Lib.hid hb.lt
  obtain ⟨aa, capa, rfl, hlca, hcma⟩ := ha.shape
  obtain ⟨ab, capb, rfl, hlcb, hcmb⟩ := hb.shape
  have M := Lib.hid ((((((MB.start w).addI ha).addI hb).alloc #[.int .i64 ra, .int .i64 ca, .slice aa la.length capa] 26).alloc #[.int .i64 rb, .int .i64 cb, .slice ab lb.length capb] 26).alloc #[.int .i64 0, .int .i64 0, .slice none 0 0] 26)
  clear ha hb
  have hb2 : (ra != rb) = false := by have := g2; simp at this ⊢; omega
  clear g2
  have hb3 : (ca != cb) = false := by have := g3; simp at this ⊢; omega
  clear g3
  go_enter Try.func16, Try.ntmps16
  go_wp2_with fail
  refine (i_IsMatrix _ _ _ _ la _ M.out.i1).mono ?_; rintro e w1 ⟨rfl, b1⟩
  have M1 := Lib.hid (M.out.call b1)
  have hsz1 : w.heap.size + 3 ≤ w1.heap.size := by have := b1.size; (try simp only [World.size_alloc] at this); omega
  clear b1
  obtain ⟨pa0, pa1, pa2⟩ := blk3 M1.out.b2
  obtain ⟨pb0, pb1, pb2⟩ := blk3 M1.out.b1
  obtain ⟨q0, q1, q2⟩ := blk3 M1.out.b0
  obtain ⟨z0, z1, z2⟩ := frz3 M1.out.b0
  simp only [World.size_alloc] at pa0 pa1 pa2 pb0 pb1 pb2 q0 q1 q2 z0 z1 z2
  go_wp2_with fail
  refine (i_IsMatrix _ _ _ _ lb _ M1.out.i0).mono ?_; rintro e w2 ⟨rfl, b2⟩
  clear pa0 pa1 pa2 pb0 pb1 pb2 q0 q1 q2 z0 z1 z2
  have M2 := Lib.hid (M1.out.call b2)
  have hsz2 : w.heap.size + 3 ≤ w2.heap.size := by have := b2.size; (try simp only [World.size_alloc] at this); omega
  clear b2
  obtain ⟨pa0, pa1, pa2⟩ := blk3 M2.out.b2
  obtain ⟨pb0, pb1, pb2⟩ := blk3 M2.out.b1
  obtain ⟨q0, q1, q2⟩ := blk3 M2.out.b0
  obtain ⟨z0, z1, z2⟩ := frz3 M2.out.b0
  simp only [World.size_alloc] at pa0 pa1 pa2 pb0 pb1 pb2 q0 q1 q2 z0 z1 z2
  go_wp2_with fail
  refine (i_plus _ _ _ _ _ _ _ _ la lb _ (by omega) (by omega) M2.out.i1 M2.out.i0 (by omega) hle HBD.out).mono ?_; rintro e w9 ⟨v9, rfl, hv9, hf9, b9⟩
  rw [addAt_add _ _ _ HL.out] at hv9
  clear pa0 pa1 pa2 pb0 pb1 pb2 q0 q1 q2 z0 z1 z2
  have M9 := Lib.hid (M2.out.call b9)
  obtain ⟨a9, cap9, rfl, _, _⟩ := hv9.shape
  obtain ⟨pa0, pa1, pa2⟩ := blk3 M9.out.b2
  obtain ⟨pb0, pb1, pb2⟩ := blk3 M9.out.b1
  obtain ⟨q0, q1, q2⟩ := blk3 M9.out.b0
  obtain ⟨z0, z1, z2⟩ := frz3 M9.out.b0
  simp only [World.size_alloc] at pa0 pa1 pa2 pb0 pb1 pb2 q0 q1 q2 z0 z1 z2
  have HT0 := mat_end M9.out (by (try simp only [World.size_alloc]); omega) hv9 (fun q hq => by have := hf9 q hq; (try simp only [World.size_alloc] at this ⊢); omega) (.int .i64 ra) (.int .i64 ca)
  try simp only [World.size_alloc] at HT0
  have HT := Lib.hid HT0
  clear HT0 hv9 hf9 b9
  go_wp2
  exact bodyPost_ret (v := .tuple #[.agg #[.int .i64 ra, .int .i64 ca, .slice a9 (addV p la lb).length cap9], .bool true]) (by simp [results, Try.results16, go_sem, HT.out.2.1, HT.out.2.2.1, HT.out.2.2.2]) rfl ⟨_, rfl, HT.out.1⟩

set_option maxRecDepth 100000 in
set_option maxHeartbeats 2000000 in
theorem s_AddMatrices_no0 (p : Int) (ra ca : Int) (va : Value) (la : List Int) (rb cb : Int) (vb : Value) (lb : List Int) (w : World) (ha : Ints w va la) (hb : Ints w vb lb) (g0 : (isM p ra ca la) = false) :
    Calls Try.prog 14 #[.int .i64 p, .agg #[.int .i64 ra, .int .i64 ca, va], .agg #[.int .i64 rb, .int .i64 cb, vb]] w (MatOK 0 0 [] false w) := by
  have hlta := Lib.hid ha.lt
  have hltb := Lib.hid hb.lt
  obtain ⟨aa, capa, rfl, hlca, hcma⟩ := ha.shape
  obtain ⟨ab, capb, rfl, hlcb, hcmb⟩ := hb.shape
  have M := Lib.hid ((((((MB.start w).addI ha).addI hb).alloc #[.int .i64 ra, .int .i64 ca, .slice aa la.length capa] 26).alloc #[.int .i64 rb, .int .i64 cb, .slice ab lb.length capb] 26).alloc #[.int .i64 0, .int .i64 0, .slice none 0 0] 26)
  clear ha hb
  go_enter Try.func14, Try.ntmps14
  go_wp2_with fail
  refine (s_IsMatrix _ _ _ _ la _ M.out.i1).mono ?_; rintro e w1 ⟨rfl, b1⟩
  have M1 := Lib.hid (M.out.call b1)
  have hsz1 : w.heap.size + 3 ≤ w1.heap.size := by have := b1.size; (try simp only [World.size_alloc] at this); omega
  clear b1
  obtain ⟨pa0, pa1, pa2⟩ := blk3 M1.out.b2
  obtain ⟨pb0, pb1, pb2⟩ := blk3 M1.out.b1
  obtain ⟨q0, q1, q2⟩ := blk3 M1.out.b0
  obtain ⟨z0, z1, z2⟩ := frz3 M1.out.b0
  simp only [World.size_alloc] at pa0 pa1 pa2 pb0 pb1 pb2 q0 q1 q2 z0 z1 z2
  have HZ := mat_zero M1.out (by (try simp only [World.size_alloc]); omega) (.int .i64 0) (.int .i64 0) (.slice none 0 0)
  try simp only [World.size_alloc] at HZ
  have HE := Lib.hid HZ
  clear HZ
  go_wp2
  exact bodyPost_ret (v := .tuple #[.agg #[.int .i64 0, .int .i64 0, .slice none 0 0], .bool false]) (by simp [results, Try.results14, go_sem, HE.out.2.1, HE.out.2.2.1, HE.out.2.2.2]) rfl ⟨_, rfl, Ints.nil _, FreshV.nil _, HE.out.1⟩

set_option maxRecDepth 100000 in
set_option maxHeartbeats 2000000 in
theorem s_AddMatrices_no1 (p : Int) (ra ca : Int) (va : Value) (la : List Int) (rb cb : Int) (vb : Value) (lb : List Int) (w : World) (ha : Ints w va la) (hb : Ints w vb lb) (g0 : (isM p ra ca la) = true) (g1 : (isM p rb cb lb) = false) :
    Calls Try.prog 14 #[.int .i64 p, .agg #[.int .i64 ra, .int .i64 ca, va], .agg #[.int .i64 rb, .int .i64 cb, vb]] w (MatOK 0 0 [] false w) := by
  have hlta := Lib.hid ha.lt
  have hltb := Lib.hid hb.lt
  obtain ⟨aa, capa, rfl, hlca, hcma⟩ := ha.shape
  obtain ⟨ab, capb, rfl, hlcb, hcmb⟩ := hb.shape
  have M := Lib.hid ((((((MB.start w).addI ha).addI hb).alloc #[.int .i64 ra, .int .i64 ca, .slice aa la.length capa] 26).alloc #[.int .i64 rb, .int .i64 cb, .slice ab lb.length capb] 26).alloc #[.int .i64 0, .int .i64 0, .slice none 0 0] 26)
  clear ha hb
  go_enter Try.func14, Try.ntmps14
  go_wp2_with fail
  refine (s_IsMatrix _ _ _ _ la _ M.out.i1).mono ?_; rintro e w1 ⟨rfl, b1⟩
  have M1 := Lib.hid (M.out.call b1)
  have hsz1 : w.heap.size + 3 ≤ w1.heap.size := by have := b1.size; (try simp only [World.size_alloc] at this); omega
  clear b1
  obtain ⟨pa0, pa1, pa2⟩ := blk3 M1.out.b2
  obtain ⟨pb0, pb1, pb2⟩ := blk3 M1.out.b1
  obtain ⟨q0, q1, q2⟩ := blk3 M1.out.b0
  obtain ⟨z0, z1, z2⟩ := frz3 M1.out.b0
  simp only [World.size_alloc] at pa0 pa1 pa2 pb0 pb1 pb2 q0 q1 q2 z0 z1 z2
  go_wp2_with fail
  refine (s_IsMatrix _ _ _ _ lb _ M1.out.i0).mono ?_; rintro e w2 ⟨rfl, b2⟩
  clear pa0 pa1 pa2 pb0 pb1 pb2 q0 q1 q2 z0 z1 z2
  have M2 := Lib.hid (M1.out.call b2)
  have hsz2 : w.heap.size + 3 ≤ w2.heap.size := by have := b2.size; (try simp only [World.size_alloc] at this); omega
  clear b2
  obtain ⟨pa0, pa1, pa2⟩ := blk3 M2.out.b2
  obtain ⟨pb0, pb1, pb2⟩ := blk3 M2.out.b1
  obtain ⟨q0, q1, q2⟩ := blk3 M2.out.b0
  obtain ⟨z0, z1, z2⟩ := frz3 M2.out.b0
  simp only [World.size_alloc] at pa0 pa1 pa2 pb0 pb1 pb2 q0 q1 q2 z0 z1 z2
  have HZ := mat_zero M2.out (by (try simp only [World.size_alloc]); omega) (.int .i64 0) (.int .i64 0) (.slice none 0 0)
  try simp only [World.size_alloc] at HZ
  have HE := Lib.hid HZ
  clear HZ
  go_wp2
  exact bodyPost_ret (v := .tuple #[.agg #[.int .i64 0, .int .i64 0, .slice none 0 0], .bool false]) (by simp [results, Try.results14, go_sem, HE.out.2.1, HE.out.2.2.1, HE.out.2.2.2]) rfl ⟨_, rfl, Ints.nil _, FreshV.nil _, HE.out.1⟩

set_option maxRecDepth 100000 in
set_option maxHeartbeats 2000000 in
theorem s_AddMatrices_no2 (p : Int) (ra ca : Int) (va : Value) (la : List Int) (rb cb : Int) (vb : Value) (lb : List Int) (w : World) (ha : Ints w va la) (hb : Ints w vb lb) (g0 : (isM p ra ca la) = true) (g1 : (isM p rb cb lb) = true) (g2 : (decide (ra = rb)) = false) :
    Calls Try.prog 14 #[.int .i64 p, .agg #[.int .i64 ra, .int .i64 ca, va], .agg #[.int .i64 rb, .int .i64 cb, vb]] w (MatOK 0 0 [] false w) := by
  have hlta := Lib.hid ha.lt
  have hltb := Lib.hid hb.lt
  obtain ⟨aa, capa, rfl, hlca, hcma⟩ := ha.shape
  obtain ⟨ab, capb, rfl, hlcb, hcmb⟩ := hb.shape
  have M := Lib.hid ((((((MB.start w).addI ha).addI hb).alloc #[.int .i64 ra, .int .i64 ca, .slice aa la.length capa] 26).alloc #[.int .i64 rb, .int .i64 cb, .slice ab lb.length capb] 26).alloc #[.int .i64 0, .int .i64 0, .slice none 0 0] 26)
  clear ha hb
  have hb2 : (ra != rb) = true := by have := g2; simp at this ⊢; omega
  clear g2
  go_enter Try.func14, Try.ntmps14
  go_wp2_with fail
  refine (s_IsMatrix _ _ _ _ la _ M.out.i1).mono ?_; rintro e w1 ⟨rfl, b1⟩
  have M1 := Lib.hid (M.out.call b1)
  have hsz1 : w.heap.size + 3 ≤ w1.heap.size := by have := b1.size; (try simp only [World.size_alloc] at this); omega
  clear b1
  obtain ⟨pa0, pa1, pa2⟩ := blk3 M1.out.b2
  obtain ⟨pb0, pb1, pb2⟩ := blk3 M1.out.b1
  obtain ⟨q0, q1, q2⟩ := blk3 M1.out.b0
  obtain ⟨z0, z1, z2⟩ := frz3 M1.out.b0
  simp only [World.size_alloc] at pa0 pa1 pa2 pb0 pb1 pb2 q0 q1 q2 z0 z1 z2
  go_wp2_with fail
  refine (s_IsMatrix _ _ _ _ lb _ M1.out.i0).mono ?_; rintro e w2 ⟨rfl, b2⟩
  clear pa0 pa1 pa2 pb0 pb1 pb2 q0 q1 q2 z0 z1 z2
  have M2 := Lib.hid (M1.out.call b2)
  have hsz2 : w.heap.size + 3 ≤ w2.heap.size := by have := b2.size; (try simp only [World.size_alloc] at this); omega
  clear b2
  obtain ⟨pa0, pa1, pa2⟩ := blk3 M2.out.b2
  obtain ⟨pb0, pb1, pb2⟩ := blk3 M2.out.b1
  obtain ⟨q0, q1, q2⟩ := blk3 M2.out.b0
  obtain ⟨z0, z1, z2⟩ := frz3 M2.out.b0
  simp only [World.size_alloc] at pa0 pa1 pa2 pb0 pb1 pb2 q0 q1 q2 z0 z1 z2
  have HZ := mat_zero M2.out (by (try simp only [World.size_alloc]); omega) (.int .i64 0) (.int .i64 0) (.slice none 0 0)
  try simp only [World.size_alloc] at HZ
  have HE := Lib.hid HZ
  clear HZ
  go_wp2
  exact bodyPost_ret (v := .tuple #[.agg #[.int .i64 0, .int .i64 0, .slice none 0 0], .bool false]) (by simp [results, Try.results14, go_sem, HE.out.2.1, HE.out.2.2.1, HE.out.2.2.2]) rfl ⟨_, rfl, Ints.nil _, FreshV.nil _, HE.out.1⟩

set_option maxRecDepth 100000 in
set_option maxHeartbeats 2000000 in
theorem s_AddMatrices_no3 (p : Int) (ra ca : Int) (va : Value) (la : List Int) (rb cb : Int) (vb : Value) (lb : List Int) (w : World) (ha : Ints w va la) (hb : Ints w vb lb) (g0 : (isM p ra ca la) = true) (g1 : (isM p rb cb lb) = true) (g2 : (decide (ra = rb)) = true) (g3 : (decide (ca = cb)) = false) :
    Calls Try.prog 14 #[.int .i64 p, .agg #[.int .i64 ra, .int .i64 ca, va], .agg #[.int .i64 rb, .int .i64 cb, vb]] w (MatOK 0 0 [] false w) := by
  have hlta := Lib.hid ha.lt
  have hltb := Lib.hid hb.lt
  obtain ⟨aa, capa, rfl, hlca, hcma⟩ := ha.shape
  obtain ⟨ab, capb, rfl, hlcb, hcmb⟩ := hb.shape
  have M := Lib.hid ((((((MB.start w).addI ha).addI hb).alloc #[.int .i64 ra, .int .i64 ca, .slice aa la.length capa] 26).alloc #[.int .i64 rb, .int .i64 cb, .slice ab lb.length capb] 26).alloc #[.int .i64 0, .int .i64 0, .slice none 0 0] 26)
  clear ha hb
  have hb2 : (ra != rb) = false := by have := g2; simp at this ⊢; omega
  clear g2
  have hb3 : (ca != cb) = true := by have := g3; simp at this ⊢; omega
  clear g3
  go_enter Try.func14, Try.ntmps14
  go_wp2_with fail
  refine (s_IsMatrix _ _ _ _ la _ M.out.i1).mono ?_; rintro e w1 ⟨rfl, b1⟩
  have M1 := Lib.hid (M.out.call b1)
  have hsz1 : w.heap.size + 3 ≤ w1.heap.size := by have := b1.size; (try simp only [World.size_alloc] at this); omega
  clear b1
  obtain ⟨pa0, pa1, pa2⟩ := blk3 M1.out.b2
  obtain ⟨pb0, pb1, pb2⟩ := blk3 M1.out.b1
  obtain ⟨q0, q1, q2⟩ := blk3 M1.out.b0
  obtain ⟨z0, z1, z2⟩ := frz3 M1.out.b0
  simp only [World.size_alloc] at pa0 pa1 pa2 pb0 pb1 pb2 q0 q1 q2 z0 z1 z2
  go_wp2_with fail
  refine (s_IsMatrix _ _ _ _ lb _ M1.out.i0).mono ?_; rintro e w2 ⟨rfl, b2⟩
  clear pa0 pa1 pa2 pb0 pb1 pb2 q0 q1 q2 z0 z1 z2
  have M2 := Lib.hid (M1.out.call b2)
  have hsz2 : w.heap.size + 3 ≤ w2.heap.size := by have := b2.size; (try simp only [World.size_alloc] at this); omega
  clear b2
  obtain ⟨pa0, pa1, pa2⟩ := blk3 M2.out.b2
  obtain ⟨pb0, pb1, pb2⟩ := blk3 M2.out.b1
  obtain ⟨q0, q1, q2⟩ := blk3 M2.out.b0
  obtain ⟨z0, z1, z2⟩ := frz3 M2.out.b0
  simp only [World.size_alloc] at pa0 pa1 pa2 pb0 pb1 pb2 q0 q1 q2 z0 z1 z2
  have HZ := mat_zero M2.out (by (try simp only [World.size_alloc]); omega) (.int .i64 0) (.int .i64 0) (.slice none 0 0)
  try simp only [World.size_alloc] at HZ
  have HE := Lib.hid HZ
  clear HZ
  go_wp2
  exact bodyPost_ret (v := .tuple #[.agg #[.int .i64 0, .int .i64 0, .slice none 0 0], .bool false]) (by simp [results, Try.results14, go_sem, HE.out.2.1, HE.out.2.2.1, HE.out.2.2.2]) rfl ⟨_, rfl, Ints.nil _, FreshV.nil _, HE.out.1⟩

set_option maxRecDepth 100000 in
set_option maxHeartbeats 2000000 in
theorem s_AddMatrices_yes (p : Int) (ra ca : Int) (va : Value) (la : List Int) (rb cb : Int) (vb : Value) (lb : List Int) (w : World) (ha : Ints w va la) (hb : Ints w vb lb) (g0 : (isM p ra ca la) = true) (g1 : (isM p rb cb lb) = true) (g2 : (decide (ra = rb)) = true) (g3 : (decide (ca = cb)) = true) :
    Calls Try.prog 14 #[.int .i64 p, .agg #[.int .i64 ra, .int .i64 ca, va], .agg #[.int .i64 rb, .int .i64 cb, vb]] w (MatOK ra ca (addV p la lb) true w) := by
  have HL := Lib.hid (isM_same g0 g1 (by simpa using g2) (by simpa using g3))
  have HV := Lib.hid (And.intro (isM_V g0) (isM_V g1))
  have hlta := Lib.hid ha.lt
  have hltb := Lib.hid hb.lt
  obtain ⟨aa, capa, rfl, hlca, hcma⟩ := ha.shape
  obtain ⟨ab, capb, rfl, hlcb, hcmb⟩ := hb.shape
  have M := Lib.hid ((((((MB.start w).addI ha).addI hb).alloc #[.int .i64 ra, .int .i64 ca, .slice aa la.length capa] 26).alloc #[.int .i64 rb, .int .i64 cb, .slice ab lb.length capb] 26).alloc #[.int .i64 0, .int .i64 0, .slice none 0 0] 26)
  clear ha hb
  have hb2 : (ra != rb) = false := by have := g2; simp at this ⊢; omega
  clear g2
  have hb3 : (ca != cb) = false := by have := g3; simp at this ⊢; omega
  clear g3
  go_enter Try.func14, Try.ntmps14
  go_wp2_with fail
  refine (s_IsMatrix _ _ _ _ la _ M.out.i1).mono ?_; rintro e w1 ⟨rfl, b1⟩
  have M1 := Lib.hid (M.out.call b1)
  have hsz1 : w.heap.size + 3 ≤ w1.heap.size := by have := b1.size; (try simp only [World.size_alloc] at this); omega
  clear b1
  obtain ⟨pa0, pa1, pa2⟩ := blk3 M1.out.b2
  obtain ⟨pb0, pb1, pb2⟩ := blk3 M1.out.b1
  obtain ⟨q0, q1, q2⟩ := blk3 M1.out.b0
  obtain ⟨z0, z1, z2⟩ := frz3 M1.out.b0
  simp only [World.size_alloc] at pa0 pa1 pa2 pb0 pb1 pb2 q0 q1 q2 z0 z1 z2
  go_wp2_with fail
  refine (s_IsMatrix _ _ _ _ lb _ M1.out.i0).mono ?_; rintro e w2 ⟨rfl, b2⟩
  clear pa0 pa1 pa2 pb0 pb1 pb2 q0 q1 q2 z0 z1 z2
  have M2 := Lib.hid (M1.out.call b2)
  have hsz2 : w.heap.size + 3 ≤ w2.heap.size := by have := b2.size; (try simp only [World.size_alloc] at this); omega
  clear b2
  obtain ⟨pa0, pa1, pa2⟩ := blk3 M2.out.b2
  obtain ⟨pb0, pb1, pb2⟩ := blk3 M2.out.b1
  obtain ⟨q0, q1, q2⟩ := blk3 M2.out.b0
  obtain ⟨z0, z1, z2⟩ := frz3 M2.out.b0
  simp only [World.size_alloc] at pa0 pa1 pa2 pb0 pb1 pb2 q0 q1 q2 z0 z1 z2
  go_wp2_with fail
  refine (s_AddVectors_yes _ _ _ la lb _ M2.out.i1 M2.out.i0 HV.out.1 HV.out.2 HL.out).mono ?_; rintro e w9 ⟨v9, rfl, hv9, hf9, b9⟩
  clear pa0 pa1 pa2 pb0 pb1 pb2 q0 q1 q2 z0 z1 z2
  have M9 := Lib.hid (M2.out.call b9)
  obtain ⟨a9, cap9, rfl, _, _⟩ := hv9.shape
  obtain ⟨pa0, pa1, pa2⟩ := blk3 M9.out.b2
  obtain ⟨pb0, pb1, pb2⟩ := blk3 M9.out.b1
  obtain ⟨q0, q1, q2⟩ := blk3 M9.out.b0
  obtain ⟨z0, z1, z2⟩ := frz3 M9.out.b0
  simp only [World.size_alloc] at pa0 pa1 pa2 pb0 pb1 pb2 q0 q1 q2 z0 z1 z2
  have HT0 := mat_end M9.out (by (try simp only [World.size_alloc]); omega) hv9 (fun q hq => by have := hf9 q hq; (try simp only [World.size_alloc] at this ⊢); omega) (.int .i64 ra) (.int .i64 ca)
  try simp only [World.size_alloc] at HT0
  have HT := Lib.hid HT0
  clear HT0 hv9 hf9 b9
  go_wp2
  exact bodyPost_ret (v := .tuple #[.agg #[.int .i64 ra, .int .i64 ca, .slice a9 (addV p la lb).length cap9], .bool true]) (by simp [results, Try.results14, go_sem, HT.out.2.1, HT.out.2.2.1, HT.out.2.2.2]) rfl ⟨_, rfl, HT.out.1⟩

theorem i_AddMatrices (p : Int) (ra ca : Int) (va : Value) (la : List Int) (rb cb : Int) (vb : Value) (lb : List Int) (w : World) (ha : Ints w va la) (hb : Ints w vb lb) :
    Calls Try.prog 16 #[.int .i64 p, .agg #[.int .i64 ra, .int .i64 ca, va], .agg #[.int .i64 rb, .int .i64 cb, vb]] w (MatOK (mR (addMOK p ra ca rb cb la lb) ra) (mR (addMOK p ra ca rb cb la lb) ca) (mL (addMOK p ra ca rb cb la lb) (addV p la lb)) (addMOK p ra ca rb cb la lb) w) := by
  cases g0 : isM p ra ca la
  · exact (i_AddMatrices_no0 p ra ca va la rb cb vb lb w ha hb g0).mono fun _ _ h => h.of_eq (by simp [mR, mL, addMOK, g0]) (by simp [mR, mL, addMOK, g0]) (by simp [mR, mL, addMOK, g0]) (by simp [mR, mL, addMOK, g0])
  cases g1 : isM p rb cb lb
  · exact (i_AddMatrices_no1 p ra ca va la rb cb vb lb w ha hb g0 g1).mono fun _ _ h => h.of_eq (by simp [mR, mL, addMOK, g0, g1]) (by simp [mR, mL, addMOK, g0, g1]) (by simp [mR, mL, addMOK, g0, g1]) (by simp [mR, mL, addMOK, g0, g1])
  cases g2 : decide (ra = rb)
  · exact (i_AddMatrices_no2 p ra ca va la rb cb vb lb w ha hb g0 g1 g2).mono fun _ _ h => h.of_eq (by simp [mR, mL, addMOK, g0, g1, g2]) (by simp [mR, mL, addMOK, g0, g1, g2]) (by simp [mR, mL, addMOK, g0, g1, g2]) (by simp [mR, mL, addMOK, g0, g1, g2])
  cases g3 : decide (ca = cb)
  · exact (i_AddMatrices_no3 p ra ca va la rb cb vb lb w ha hb g0 g1 g2 g3).mono fun _ _ h => h.of_eq (by simp [mR, mL, addMOK, g0, g1, g2, g3]) (by simp [mR, mL, addMOK, g0, g1, g2, g3]) (by simp [mR, mL, addMOK, g0, g1, g2, g3]) (by simp [mR, mL, addMOK, g0, g1, g2, g3])
  exact (i_AddMatrices_yes p ra ca va la rb cb vb lb w ha hb g0 g1 g2 g3).mono fun _ _ h => h.of_eq (by simp [mR, mL, addMOK, g0, g1, g2, g3]) (by simp [mR, mL, addMOK, g0, g1, g2, g3]) (by simp [mR, mL, addMOK, g0, g1, g2, g3]) (by simp [mR, mL, addMOK, g0, g1, g2, g3])

theorem s_AddMatrices (p : Int) (ra ca : Int) (va : Value) (la : List Int) (rb cb : Int) (vb : Value) (lb : List Int) (w : World) (ha : Ints w va la) (hb : Ints w vb lb) :
    Calls Try.prog 14 #[.int .i64 p, .agg #[.int .i64 ra, .int .i64 ca, va], .agg #[.int .i64 rb, .int .i64 cb, vb]] w (MatOK (mR (addMOK p ra ca rb cb la lb) ra) (mR (addMOK p ra ca rb cb la lb) ca) (mL (addMOK p ra ca rb cb la lb) (addV p la lb)) (addMOK p ra ca rb cb la lb) w) := by
  cases g0 : isM p ra ca la
  · exact (s_AddMatrices_no0 p ra ca va la rb cb vb lb w ha hb g0).mono fun _ _ h => h.of_eq (by simp [mR, mL, addMOK, g0]) (by simp [mR, mL, addMOK, g0]) (by simp [mR, mL, addMOK, g0]) (by simp [mR, mL, addMOK, g0])
  cases g1 : isM p rb cb lb
  · exact (s_AddMatrices_no1 p ra ca va la rb cb vb lb w ha hb g0 g1).mono fun _ _ h => h.of_eq (by simp [mR, mL, addMOK, g0, g1]) (by simp [mR, mL, addMOK, g0, g1]) (by simp [mR, mL, addMOK, g0, g1]) (by simp [mR, mL, addMOK, g0, g1])
  cases g2 : decide (ra = rb)
  · exact (s_AddMatrices_no2 p ra ca va la rb cb vb lb w ha hb g0 g1 g2).mono fun _ _ h => h.of_eq (by simp [mR, mL, addMOK, g0, g1, g2]) (by simp [mR, mL, addMOK, g0, g1, g2]) (by simp [mR, mL, addMOK, g0, g1, g2]) (by simp [mR, mL, addMOK, g0, g1, g2])
  cases g3 : decide (ca = cb)
  · exact (s_AddMatrices_no3 p ra ca va la rb cb vb lb w ha hb g0 g1 g2 g3).mono fun _ _ h => h.of_eq (by simp [mR, mL, addMOK, g0, g1, g2, g3]) (by simp [mR, mL, addMOK, g0, g1, g2, g3]) (by simp [mR, mL, addMOK, g0, g1, g2, g3]) (by simp [mR, mL, addMOK, g0, g1, g2, g3])
  exact (s_AddMatrices_yes p ra ca va la rb cb vb lb w ha hb g0 g1 g2 g3).mono fun _ _ h => h.of_eq (by simp [mR, mL, addMOK, g0, g1, g2, g3]) (by simp [mR, mL, addMOK, g0, g1, g2, g3]) (by simp [mR, mL, addMOK, g0, g1, g2, g3]) (by simp [mR, mL, addMOK, g0, g1, g2, g3])

end Go.Proofs.Ytcjjjejocnlhmaa
