/- ApplyMatrix, of the program and of the reference. -/
import Derived.Test.YtcjjjejocnlhmaaMat5
import Derived.Test.YtcjjjejocnlhmaaMat6
import Derived.Test.YtcjjjejocnlhmaaAppO
import Derived.Test.YtcjjjejocnlhmaaAddVec
namespace Go.Proofs.Ytcjjjejocnlhmaa
open Go.RowKit
set_option linter.unusedVariables false
set_option linter.unusedSimpArgs false

theorem fcL_one {C : Nat} {l : List Int} (h : l.length = C) : fcL C [l] = l := by
  have h2 : l.length = C * 1 := by omega
  refine Eq.trans (matL_congr fun i k hi hk => ?_) (matL_of h2).symm
  have : k = 0 := by simp at hk; omega
  subst this
  simp
def appR (p ra ca : Int) (la lv : List Int) : List Int := mulL p ra.toNat ca.toNat 1 la lv
theorem i_times1 (p : Int) (ra ca : Nat) (va vb : Value) (la lb : List Int) (w : World) (hp : 2 ≤ p ∧ p ≤ 5) (ha : Ints w va la) (hb : Ints w vb lb) (hla : la.length = ra * ca) (hlb : lb.length = ca * 1)
    (ha4 : ∀ t, 0 ≤ la.getD t 0 ∧ la.getD t 0 ≤ 4) (hb4 : ∀ t, 0 ≤ lb.getD t 0 ∧ lb.getD t 0 ≤ 4) (h8a : ra ≤ 8) (h8b : ca ≤ 8) :
    Calls Try.prog 57 #[.int .i64 p, .agg #[.int .i64 ra, .int .i64 ca, va], .agg #[.int .i64 ca, .int .i64 1, vb]] w (MatNew ra 1 (mulL p ra ca 1 la lb) w) :=
  i_times p ra ca 1 va vb la lb w hp ha hb hla hlb ha4 hb4 h8a h8b (by decide)
set_option maxRecDepth 100000 in
set_option maxHeartbeats 8000000 in
theorem i_apply (p : Int) (R C : Nat) (va vv : Value) (la lv : List Int) (w : World) (hp : 2 ≤ p ∧ p ≤ 5) (ha : Ints w va la) (hv : Ints w vv lv) (hla : la.length = R * C) (hlv : lv.length = C)
    (ha4 : ∀ t, 0 ≤ la.getD t 0 ∧ la.getD t 0 ≤ 4) (hv4 : ∀ t, 0 ≤ lv.getD t 0 ∧ lv.getD t 0 ≤ 4) (h8a : R ≤ 8) (h8b : C ≤ 8) :
    Calls Try.prog 60 #[.int .i64 p, .agg #[.int .i64 R, .int .i64 C, va], vv] w (IntsNew (mulL p R C 1 la lv) w) := by
  obtain ⟨a1, c1, rfl, _, _⟩ := ha.shape
  obtain ⟨a2, c2, rfl, _, _⟩ := hv.shape
  have M := Lib.hid ((((MB.start w).addI ha).addI hv).alloc #[.int .i64 R, .int .i64 C, .slice a1 la.length c1] 26)
  have HP := Lib.hid hp; have HA4 := Lib.hid ha4; have HV4 := Lib.hid hv4
  have HLA := Lib.hid hla; have HLV := Lib.hid hlv
  clear ha hv hp ha4 hv4 hla hlv
  go_enter Try.func60, Try.ntmps60
  obtain ⟨p0, p1, p2⟩ := blk3 M.out.b0
  have hsz : (w.alloc (.cells #[.int .i64 R, .int .i64 C, .slice a1 la.length c1] 26)).heap.size = w.heap.size + 1 := by simp
  have HS := Lib.hid (fun (w' : World) (hb : Below (w.alloc (.cells #[.int .i64 R, .int .i64 C, .slice a1 la.length c1] 26)).heap.size (w.alloc (.cells #[.int .i64 R, .int .i64 C, .slice a1 la.length c1] 26)) w') => (show (w'.cell? ⟨w.heap.size, 0, none⟩ = some (.int .i64 R) ∧ w'.cell? ⟨w.heap.size, 1, none⟩ = some (.int .i64 C) ∧ w'.cell? ⟨w.heap.size, 2, none⟩ = some (.slice a1 la.length c1)) ∧ Below (w.alloc (.cells #[.int .i64 R, .int .i64 C, .slice a1 la.length c1] 26)).heap.size (w.alloc (.cells #[.int .i64 R, .int .i64 C, .slice a1 la.length c1] 26)) w' from ⟨blk3 (M.out.b0.below hb), hb⟩))
  have hfld : ∀ (v : Value) (w' : World), Sem.run Try.prog (Instr.field 26 (.agg #[.int .i64 R, .int .i64 1, v]) 2) w' = .ok v w' := fun _ _ => rfl
  go_upto_region 1 with fail
  go_region_held3 (fun w' => (w'.cell? ⟨w.heap.size, 0, none⟩ = some (.int .i64 R) ∧ w'.cell? ⟨w.heap.size, 1, none⟩ = some (.int .i64 C) ∧ w'.cell? ⟨w.heap.size, 2, none⟩ = some (.slice a1 la.length c1)) ∧ Below (w.alloc (.cells #[.int .i64 R, .int .i64 C, .slice a1 la.length c1] 26)).heap.size (w.alloc (.cells #[.int .i64 R, .int .i64 C, .slice a1 la.length c1] 26)) w')
    (first
      | with_reducible exact HS.out _ ((Below.refl _ _).drew)
      | with_reducible exact HS.out _ (held_allocd (A := True) ⟨trivial, (Below.refl _ (w.alloc (.cells #[.int .i64 R, .int .i64 C, .slice a1 la.length c1] 26))).drew⟩ _)
      | with_reducible exact HS.out _ hb8
      | with_reducible exact HS.out _ hb9)
    (first
      | (go_at_call 54; have hx0 := (held_allocd (A := True) ⟨trivial, (Below.refl _ (w.alloc (.cells #[.int .i64 R, .int .i64 C, .slice a1 la.length c1] 26))).drew⟩ (.cells #[.slice a2 lv.length c2] 22 (0, 0))); have hx1 := M.out.i0.below hx0; have hx4 := rws_one (by exact heap_alloc_new (w.alloc (.cells #[.int .i64 R, .int .i64 C, .slice a1 la.length c1] 26)) _) hx1; have hq := i_fromColumnsI C 1 _ [lv] _ hx4 (by omega) (by omega) (by simp) (by omega) (by have := HLV.out; simpa using this); rw [show ((C : Int).toNat) = C from rfl, fcL_one HLV.out] at hq; (try simp only [World.size_alloc] at hq); (with_reducible refine (hq).mono ?_); rintro e w8 ⟨v8, rfl, hv8, hf8, b8⟩; have hb8 := hx0.trans (b8.mono hx0.size))
      | (go_at_call 57; (with_reducible refine (i_times1 p R C _ _ la lv _ HP.out (M.out.i1.below hb8) hv8 HLA.out (by have := HLV.out; omega) HA4.out HV4.out h8a h8b).mono ?_); rintro e w9 ⟨v9, rfl, hv9, hf9, b9⟩; have hb9 := hb8.trans (b9.mono hb8.size)))
  go_wp2
  go_ret
  exact ⟨_, rfl, hv9, hf9.mono (by have := hb8.size; omega), M.out.bel.trans (hb9.mono (by omega))⟩
theorem i_applyI {p ra ca : Int} (va vv : Value) (la lv : List Int) (w : World) (ha : Ints w va la) (hv : Ints w vv lv) (h1 : isM p ra ca la = true) (h2 : isV p lv = true) (h3 : (lv.length : Int) = ca) :
    Calls Try.prog 60 #[.int .i64 p, .agg #[.int .i64 ra, .int .i64 ca, va], vv] w (IntsNew (appR p ra ca la lv) w) := by
  have hl1 := isM_lenN h1
  obtain ⟨r0, r8, c0, c8, _, _⟩ := isM_true h1
  unfold appR
  obtain ⟨R, rfl⟩ := Int.eq_ofNat_of_zero_le r0
  obtain ⟨C, rfl⟩ := Int.eq_ofNat_of_zero_le c0
  exact i_apply p R C va vv la lv w (isM_p h1) ha hv hl1 (by simp at *; omega) (isV_all (isM_V h1)) (isV_all h2) (by omega) (by omega)
theorem s_l3MulV {p ra ca : Int} (va vv : Value) (la lv : List Int) (w : World) (ha : Ints w va la) (hv : Ints w vv lv) (h1 : isM p ra ca la = true) (h2 : isV p lv = true) (h3 : (lv.length : Int) = ca) :
    Calls Try.prog 56 #[.int .i64 p, .agg #[.int .i64 ra, .int .i64 ca, va], .agg #[.int .i64 lv.length, .int .i64 1, vv]] w (MatNew ra 1 (appR p ra ca la lv) w) := by
  have hl1 := isM_lenN h1
  obtain ⟨r0, r8, c0, c8, _, _⟩ := isM_true h1
  unfold appR
  obtain ⟨R, rfl⟩ := Int.eq_ofNat_of_zero_le r0
  obtain ⟨C, rfl⟩ := Int.eq_ofNat_of_zero_le c0
  rw [h3]
  exact s_l3Multiply p R C 1 va vv la lv w (isV_F (isM_V h1)) ha hv hl1 (by simp at *; omega) (isV_all (isM_V h1)) (isV_all h2) (by omega) (by omega) (by decide)
def appMOK (p ra ca : Int) (la lv : List Int) : Bool := isM p ra ca la && isV p lv && decide ((lv.length : Int) = ca)
def appL (p ra ca : Int) (la lv : List Int) : List Int := if appMOK p ra ca la lv = true then appR p ra ca la lv else []


set_option maxRecDepth 100000 in
set_option maxHeartbeats 2000000 in
theorem i_ApplyMatrix_no0 (p : Int) (ra ca : Int) (va : Value) (la : List Int) (vv : Value) (lv : List Int) (w : World) (ha : Ints w va la) (hv : Ints w vv lv) (g0 : (isM p ra ca la) = false) :
    Calls Try.prog 26 #[.int .i64 p, .agg #[.int .i64 ra, .int .i64 ca, va], vv] w (VecOK [] false w) := by
  have hlta := Lib.hid ha.lt
  have hltv := Lib.hid hv.lt
  obtain ⟨aa, capa, rfl, hlca, hcma⟩ := ha.shape
  obtain ⟨av, capv, rfl, hlcv, hcmv⟩ := hv.shape
  have M := Lib.hid ((((MB.start w).addI ha).addI hv).alloc #[.int .i64 ra, .int .i64 ca, .slice aa la.length capa] 26)
  clear ha hv
  go_enter Try.func26, Try.ntmps26
  go_wp2_with fail
  refine (i_IsMatrix _ _ _ _ la _ M.out.i1).mono ?_; rintro e w1 ⟨rfl, b1⟩
  have M1 := Lib.hid (M.out.call b1)
  have hsz1 : w.heap.size + 1 ≤ w1.heap.size := by have := b1.size; (try simp only [World.size_alloc] at this); omega
  clear b1
  obtain ⟨pa0, pa1, pa2⟩ := blk3 M1.out.b0
  try simp only [World.size_alloc] at pa0 pa1 pa2
  go_wp2
  go_ret2
  exact ⟨_, rfl, Ints.nil _, FreshV.nil _, M1.out.bel⟩

set_option maxRecDepth 100000 in
set_option maxHeartbeats 2000000 in
theorem i_ApplyMatrix_no1 (p : Int) (ra ca : Int) (va : Value) (la : List Int) (vv : Value) (lv : List Int) (w : World) (ha : Ints w va la) (hv : Ints w vv lv) (g0 : (isM p ra ca la) = true) (g1 : (isV p lv) = false) :
    Calls Try.prog 26 #[.int .i64 p, .agg #[.int .i64 ra, .int .i64 ca, va], vv] w (VecOK [] false w) := by
  have hlta := Lib.hid ha.lt
  have hltv := Lib.hid hv.lt
  obtain ⟨aa, capa, rfl, hlca, hcma⟩ := ha.shape
  obtain ⟨av, capv, rfl, hlcv, hcmv⟩ := hv.shape
  have M := Lib.hid ((((MB.start w).addI ha).addI hv).alloc #[.int .i64 ra, .int .i64 ca, .slice aa la.length capa] 26)
  clear ha hv
  go_enter Try.func26, Try.ntmps26
  go_wp2_with fail
  refine (i_IsMatrix _ _ _ _ la _ M.out.i1).mono ?_; rintro e w1 ⟨rfl, b1⟩
  have M1 := Lib.hid (M.out.call b1)
  have hsz1 : w.heap.size + 1 ≤ w1.heap.size := by have := b1.size; (try simp only [World.size_alloc] at this); omega
  clear b1
  obtain ⟨pa0, pa1, pa2⟩ := blk3 M1.out.b0
  try simp only [World.size_alloc] at pa0 pa1 pa2
  go_wp2_with fail
  refine (i_IsVector _ _ lv _ M1.out.i0).mono ?_; rintro e w2 ⟨rfl, b2⟩
  clear pa0 pa1 pa2
  have M2 := Lib.hid (M1.out.call b2)
  have hsz2 : w.heap.size + 1 ≤ w2.heap.size := by have := b2.size; (try simp only [World.size_alloc] at this); omega
  clear b2
  obtain ⟨pa0, pa1, pa2⟩ := blk3 M2.out.b0
  try simp only [World.size_alloc] at pa0 pa1 pa2
  go_wp2
  go_ret2
  exact ⟨_, rfl, Ints.nil _, FreshV.nil _, M2.out.bel⟩

set_option maxRecDepth 100000 in
set_option maxHeartbeats 2000000 in
theorem i_ApplyMatrix_no2 (p : Int) (ra ca : Int) (va : Value) (la : List Int) (vv : Value) (lv : List Int) (w : World) (ha : Ints w va la) (hv : Ints w vv lv) (g0 : (isM p ra ca la) = true) (g1 : (isV p lv) = true) (g2 : (decide ((lv.length : Int) = ca)) = false) :
    Calls Try.prog 26 #[.int .i64 p, .agg #[.int .i64 ra, .int .i64 ca, va], vv] w (VecOK [] false w) := by
  have hlta := Lib.hid ha.lt
  have hltv := Lib.hid hv.lt
  obtain ⟨aa, capa, rfl, hlca, hcma⟩ := ha.shape
  obtain ⟨av, capv, rfl, hlcv, hcmv⟩ := hv.shape
  have M := Lib.hid ((((MB.start w).addI ha).addI hv).alloc #[.int .i64 ra, .int .i64 ca, .slice aa la.length capa] 26)
  clear ha hv
  have hb2 : ((lv.length : Int) != ca) = true := by have := g2; simp at this ⊢; omega
  clear g2
  go_enter Try.func26, Try.ntmps26
  go_wp2_with fail
  refine (i_IsMatrix _ _ _ _ la _ M.out.i1).mono ?_; rintro e w1 ⟨rfl, b1⟩
  have M1 := Lib.hid (M.out.call b1)
  have hsz1 : w.heap.size + 1 ≤ w1.heap.size := by have := b1.size; (try simp only [World.size_alloc] at this); omega
  clear b1
  obtain ⟨pa0, pa1, pa2⟩ := blk3 M1.out.b0
  try simp only [World.size_alloc] at pa0 pa1 pa2
  go_wp2_with fail
  refine (i_IsVector _ _ lv _ M1.out.i0).mono ?_; rintro e w2 ⟨rfl, b2⟩
  clear pa0 pa1 pa2
  have M2 := Lib.hid (M1.out.call b2)
  have hsz2 : w.heap.size + 1 ≤ w2.heap.size := by have := b2.size; (try simp only [World.size_alloc] at this); omega
  clear b2
  obtain ⟨pa0, pa1, pa2⟩ := blk3 M2.out.b0
  try simp only [World.size_alloc] at pa0 pa1 pa2
  go_wp2
  go_ret2
  exact ⟨_, rfl, Ints.nil _, FreshV.nil _, M2.out.bel⟩

set_option maxRecDepth 100000 in
set_option maxHeartbeats 2000000 in
theorem i_ApplyMatrix_yes (p : Int) (ra ca : Int) (va : Value) (la : List Int) (vv : Value) (lv : List Int) (w : World) (ha : Ints w va la) (hv : Ints w vv lv) (g0 : (isM p ra ca la) = true) (g1 : (isV p lv) = true) (g2 : (decide ((lv.length : Int) = ca)) = true) :
    Calls Try.prog 26 #[.int .i64 p, .agg #[.int .i64 ra, .int .i64 ca, va], vv] w (VecOK (appR p ra ca la lv) true w) := by
  have HG := Lib.hid (And.intro g0 (And.intro g1 (show (lv.length : Int) = ca by simpa using g2)))
  have hln : lv.length ≤ 8 := by have := isM_true g0; have := HG.out.2.2; omega
  have hlta := Lib.hid ha.lt
  have hltv := Lib.hid hv.lt
  obtain ⟨aa, capa, rfl, hlca, hcma⟩ := ha.shape
  obtain ⟨av, capv, rfl, hlcv, hcmv⟩ := hv.shape
  have M := Lib.hid ((((MB.start w).addI ha).addI hv).alloc #[.int .i64 ra, .int .i64 ca, .slice aa la.length capa] 26)
  clear ha hv
  have hb2 : ((lv.length : Int) != ca) = false := by have := g2; simp at this ⊢; omega
  clear g2
  go_enter Try.func26, Try.ntmps26
  go_wp2_with fail
  refine (i_IsMatrix _ _ _ _ la _ M.out.i1).mono ?_; rintro e w1 ⟨rfl, b1⟩
  have M1 := Lib.hid (M.out.call b1)
  have hsz1 : w.heap.size + 1 ≤ w1.heap.size := by have := b1.size; (try simp only [World.size_alloc] at this); omega
  clear b1
  obtain ⟨pa0, pa1, pa2⟩ := blk3 M1.out.b0
  try simp only [World.size_alloc] at pa0 pa1 pa2
  go_wp2_with fail
  refine (i_IsVector _ _ lv _ M1.out.i0).mono ?_; rintro e w2 ⟨rfl, b2⟩
  clear pa0 pa1 pa2
  have M2 := Lib.hid (M1.out.call b2)
  have hsz2 : w.heap.size + 1 ≤ w2.heap.size := by have := b2.size; (try simp only [World.size_alloc] at this); omega
  clear b2
  obtain ⟨pa0, pa1, pa2⟩ := blk3 M2.out.b0
  try simp only [World.size_alloc] at pa0 pa1 pa2
  go_wp2_with fail
  refine (i_applyI _ _ la lv _ M2.out.i1 M2.out.i0 HG.out.1 HG.out.2.1 HG.out.2.2).mono ?_; rintro e w9 ⟨v9, rfl, hv9, hf9, b9⟩
  clear pa0 pa1 pa2
  go_wp2
  go_ret2
  exact ⟨_, rfl, hv9, hf9.mono M2.out.bel.size, (M2.out.call b9).bel⟩

set_option maxRecDepth 100000 in
set_option maxHeartbeats 2000000 in
theorem s_ApplyMatrix_no0 (p : Int) (ra ca : Int) (va : Value) (la : List Int) (vv : Value) (lv : List Int) (w : World) (ha : Ints w va la) (hv : Ints w vv lv) (g0 : (isM p ra ca la) = false) :
    Calls Try.prog 24 #[.int .i64 p, .agg #[.int .i64 ra, .int .i64 ca, va], vv] w (VecOK [] false w) := by
  have hlta := Lib.hid ha.lt
  have hltv := Lib.hid hv.lt
  obtain ⟨aa, capa, rfl, hlca, hcma⟩ := ha.shape
  obtain ⟨av, capv, rfl, hlcv, hcmv⟩ := hv.shape
  have M := Lib.hid ((((MB.start w).addI ha).addI hv).alloc #[.int .i64 ra, .int .i64 ca, .slice aa la.length capa] 26)
  clear ha hv
  go_enter Try.func24, Try.ntmps24
  go_wp2_with fail
  refine (s_IsMatrix _ _ _ _ la _ M.out.i1).mono ?_; rintro e w1 ⟨rfl, b1⟩
  have M1 := Lib.hid (M.out.call b1)
  have hsz1 : w.heap.size + 1 ≤ w1.heap.size := by have := b1.size; (try simp only [World.size_alloc] at this); omega
  clear b1
  obtain ⟨pa0, pa1, pa2⟩ := blk3 M1.out.b0
  try simp only [World.size_alloc] at pa0 pa1 pa2
  go_wp2
  have hmd := Ints.of_own (Own.made w1 (B := w1.heap.size) 3 .i64 (Nat.le_refl _))
  go_ret2
  exact ⟨_, rfl, hmd.1, hmd.2.mono M1.out.bel.size, M1.out.bel.trans (((Below.refl _ w1).alloc (Nat.le_refl _) _).mono M1.out.bel.size)⟩

set_option maxRecDepth 100000 in
set_option maxHeartbeats 2000000 in
theorem s_ApplyMatrix_no1 (p : Int) (ra ca : Int) (va : Value) (la : List Int) (vv : Value) (lv : List Int) (w : World) (ha : Ints w va la) (hv : Ints w vv lv) (g0 : (isM p ra ca la) = true) (g1 : (isV p lv) = false) :
    Calls Try.prog 24 #[.int .i64 p, .agg #[.int .i64 ra, .int .i64 ca, va], vv] w (VecOK [] false w) := by
  have hlta := Lib.hid ha.lt
  have hltv := Lib.hid hv.lt
  obtain ⟨aa, capa, rfl, hlca, hcma⟩ := ha.shape
  obtain ⟨av, capv, rfl, hlcv, hcmv⟩ := hv.shape
  have M := Lib.hid ((((MB.start w).addI ha).addI hv).alloc #[.int .i64 ra, .int .i64 ca, .slice aa la.length capa] 26)
  clear ha hv
  go_enter Try.func24, Try.ntmps24
  go_wp2_with fail
  refine (s_IsMatrix _ _ _ _ la _ M.out.i1).mono ?_; rintro e w1 ⟨rfl, b1⟩
  have M1 := Lib.hid (M.out.call b1)
  have hsz1 : w.heap.size + 1 ≤ w1.heap.size := by have := b1.size; (try simp only [World.size_alloc] at this); omega
  clear b1
  obtain ⟨pa0, pa1, pa2⟩ := blk3 M1.out.b0
  try simp only [World.size_alloc] at pa0 pa1 pa2
  go_wp2_with fail
  refine (s_IsVector _ _ lv _ M1.out.i0).mono ?_; rintro e wz ⟨rfl, rfl⟩
  go_wp2
  have hmd := Ints.of_own (Own.made w1 (B := w1.heap.size) 3 .i64 (Nat.le_refl _))
  go_ret2
  exact ⟨_, rfl, hmd.1, hmd.2.mono M1.out.bel.size, M1.out.bel.trans (((Below.refl _ w1).alloc (Nat.le_refl _) _).mono M1.out.bel.size)⟩

set_option maxRecDepth 100000 in
set_option maxHeartbeats 2000000 in
theorem s_ApplyMatrix_no2 (p : Int) (ra ca : Int) (va : Value) (la : List Int) (vv : Value) (lv : List Int) (w : World) (ha : Ints w va la) (hv : Ints w vv lv) (g0 : (isM p ra ca la) = true) (g1 : (isV p lv) = true) (g2 : (decide ((lv.length : Int) = ca)) = false) :
    Calls Try.prog 24 #[.int .i64 p, .agg #[.int .i64 ra, .int .i64 ca, va], vv] w (VecOK [] false w) := by
  have hlta := Lib.hid ha.lt
  have hltv := Lib.hid hv.lt
  obtain ⟨aa, capa, rfl, hlca, hcma⟩ := ha.shape
  obtain ⟨av, capv, rfl, hlcv, hcmv⟩ := hv.shape
  have M := Lib.hid ((((MB.start w).addI ha).addI hv).alloc #[.int .i64 ra, .int .i64 ca, .slice aa la.length capa] 26)
  clear ha hv
  have hb2 : ((lv.length : Int) != ca) = true := by have := g2; simp at this ⊢; omega
  clear g2
  go_enter Try.func24, Try.ntmps24
  go_wp2_with fail
  refine (s_IsMatrix _ _ _ _ la _ M.out.i1).mono ?_; rintro e w1 ⟨rfl, b1⟩
  have M1 := Lib.hid (M.out.call b1)
  have hsz1 : w.heap.size + 1 ≤ w1.heap.size := by have := b1.size; (try simp only [World.size_alloc] at this); omega
  clear b1
  obtain ⟨pa0, pa1, pa2⟩ := blk3 M1.out.b0
  try simp only [World.size_alloc] at pa0 pa1 pa2
  go_wp2_with fail
  refine (s_IsVector _ _ lv _ M1.out.i0).mono ?_; rintro e wz ⟨rfl, rfl⟩
  go_wp2
  have hmd := Ints.of_own (Own.made w1 (B := w1.heap.size) 3 .i64 (Nat.le_refl _))
  go_ret2
  exact ⟨_, rfl, hmd.1, hmd.2.mono M1.out.bel.size, M1.out.bel.trans (((Below.refl _ w1).alloc (Nat.le_refl _) _).mono M1.out.bel.size)⟩

set_option maxRecDepth 100000 in
set_option maxHeartbeats 2000000 in
theorem s_ApplyMatrix_yes (p : Int) (ra ca : Int) (va : Value) (la : List Int) (vv : Value) (lv : List Int) (w : World) (ha : Ints w va la) (hv : Ints w vv lv) (g0 : (isM p ra ca la) = true) (g1 : (isV p lv) = true) (g2 : (decide ((lv.length : Int) = ca)) = true) :
    Calls Try.prog 24 #[.int .i64 p, .agg #[.int .i64 ra, .int .i64 ca, va], vv] w (VecOK (appR p ra ca la lv) true w) := by
  have HG := Lib.hid (And.intro g0 (And.intro g1 (show (lv.length : Int) = ca by simpa using g2)))
  have hln : lv.length ≤ 8 := by have := isM_true g0; have := HG.out.2.2; omega
  have hlta := Lib.hid ha.lt
  have hltv := Lib.hid hv.lt
  obtain ⟨aa, capa, rfl, hlca, hcma⟩ := ha.shape
  obtain ⟨av, capv, rfl, hlcv, hcmv⟩ := hv.shape
  have M := Lib.hid ((((MB.start w).addI ha).addI hv).alloc #[.int .i64 ra, .int .i64 ca, .slice aa la.length capa] 26)
  clear ha hv
  have hb2 : ((lv.length : Int) != ca) = false := by have := g2; simp at this ⊢; omega
  clear g2
  go_enter Try.func24, Try.ntmps24
  go_wp2_with fail
  refine (s_IsMatrix _ _ _ _ la _ M.out.i1).mono ?_; rintro e w1 ⟨rfl, b1⟩
  have M1 := Lib.hid (M.out.call b1)
  have hsz1 : w.heap.size + 1 ≤ w1.heap.size := by have := b1.size; (try simp only [World.size_alloc] at this); omega
  clear b1
  obtain ⟨pa0, pa1, pa2⟩ := blk3 M1.out.b0
  try simp only [World.size_alloc] at pa0 pa1 pa2
  go_wp2_with fail
  refine (s_IsVector _ _ lv _ M1.out.i0).mono ?_; rintro e wz ⟨rfl, rfl⟩
  have HS := Lib.hid (fun (w' : World) (hb : Below w1.heap.size w1 w') => (show (w'.cell? ⟨w.heap.size, 0, none⟩ = some (.int .i64 ra) ∧ w'.cell? ⟨w.heap.size, 1, none⟩ = some (.int .i64 ca) ∧ w'.cell? ⟨w.heap.size, 2, none⟩ = some (.slice aa la.length capa)) from blk3 (M1.out.b0.below hb)))
  have hfld : ∀ (v : Value) (w' : World), Sem.run Try.prog (Instr.field 26 (.agg #[.int .i64 ra, .int .i64 1, v]) 2) w' = .ok v w' := fun _ _ => rfl
  go_upto_region 3 with fail
  go_region_held3 (fun w' => (w'.cell? ⟨w.heap.size, 0, none⟩ = some (.int .i64 ra) ∧ w'.cell? ⟨w.heap.size, 1, none⟩ = some (.int .i64 ca) ∧ w'.cell? ⟨w.heap.size, 2, none⟩ = some (.slice aa la.length capa)))
    (first
      | with_reducible exact HS.out _ ((Below.refl _ _).drew)
      | with_reducible exact HS.out _ (held_allocd (A := True) ⟨trivial, (Below.refl _ w1).drew⟩ _)
      | with_reducible exact HS.out _ hb8
      | with_reducible exact HS.out _ hb9)
    (first
      | (refine step_app_own w1 _ (by rfl) (.tmp 30) (.tmp 31) (by rfl) _ _ [] lv (by rfl) (by rfl) ?_ (Own.made w1 3 .i64 (Nat.le_refl _)).drew (held_allocd (A := True) ⟨trivial, (Below.refl _ w1).drew⟩ _) (by simp; omega) ?_; (exact M1.out.i0.below (held_allocd (A := True) ⟨trivial, (Below.refl _ w1).drew⟩ _)); intro v8 w8 hown8 hb8; have hq8 := Ints.of_own hown8; have hv8 := hq8.1; simp only [List.nil_append] at hv8; clear hq8 hown8; obtain ⟨a8, c8, rfl, _, _⟩ := hv8.shape)
      | (go_at_call 56; (with_reducible refine (s_l3MulV _ _ la lv _ (M1.out.i1.below hb8) hv8 HG.out.1 HG.out.2.1 HG.out.2.2).mono ?_); rintro e w9 ⟨v9, rfl, hv9, hf9, b9⟩; have hb9 := hb8.trans (b9.mono hb8.size)))
  clear pa0 pa1 pa2
  go_wp2
  go_ret2
  exact ⟨_, rfl, hv9, hf9.mono (Nat.le_trans M1.out.bel.size hb8.size), (M1.out.call hb9).bel⟩

theorem i_ApplyMatrix (p : Int) (ra ca : Int) (va : Value) (la : List Int) (vv : Value) (lv : List Int) (w : World) (ha : Ints w va la) (hv : Ints w vv lv) :
    Calls Try.prog 26 #[.int .i64 p, .agg #[.int .i64 ra, .int .i64 ca, va], vv] w (VecOK (appL p ra ca la lv) (appMOK p ra ca la lv) w) := by
  cases g0 : isM p ra ca la
  · exact (i_ApplyMatrix_no0 p ra ca va la vv lv w ha hv g0).mono fun _ _ h => h.of_eq (by simp [appL, appMOK, g0]) (by simp [appL, appMOK, g0])
  cases g1 : isV p lv
  · exact (i_ApplyMatrix_no1 p ra ca va la vv lv w ha hv g0 g1).mono fun _ _ h => h.of_eq (by simp [appL, appMOK, g0, g1]) (by simp [appL, appMOK, g0, g1])
  cases g2 : decide ((lv.length : Int) = ca)
  · exact (i_ApplyMatrix_no2 p ra ca va la vv lv w ha hv g0 g1 g2).mono fun _ _ h => h.of_eq (by simp [appL, appMOK, g0, g1, g2]) (by simp [appL, appMOK, g0, g1, g2])
  exact (i_ApplyMatrix_yes p ra ca va la vv lv w ha hv g0 g1 g2).mono fun _ _ h => h.of_eq (by simp [appL, appMOK, g0, g1, g2]) (by simp [appL, appMOK, g0, g1, g2])

theorem s_ApplyMatrix (p : Int) (ra ca : Int) (va : Value) (la : List Int) (vv : Value) (lv : List Int) (w : World) (ha : Ints w va la) (hv : Ints w vv lv) :
    Calls Try.prog 24 #[.int .i64 p, .agg #[.int .i64 ra, .int .i64 ca, va], vv] w (VecOK (appL p ra ca la lv) (appMOK p ra ca la lv) w) := by
  cases g0 : isM p ra ca la
  · exact (s_ApplyMatrix_no0 p ra ca va la vv lv w ha hv g0).mono fun _ _ h => h.of_eq (by simp [appL, appMOK, g0]) (by simp [appL, appMOK, g0])
  cases g1 : isV p lv
  · exact (s_ApplyMatrix_no1 p ra ca va la vv lv w ha hv g0 g1).mono fun _ _ h => h.of_eq (by simp [appL, appMOK, g0, g1]) (by simp [appL, appMOK, g0, g1])
  cases g2 : decide ((lv.length : Int) = ca)
  · exact (s_ApplyMatrix_no2 p ra ca va la vv lv w ha hv g0 g1 g2).mono fun _ _ h => h.of_eq (by simp [appL, appMOK, g0, g1, g2]) (by simp [appL, appMOK, g0, g1, g2])
  exact (s_ApplyMatrix_yes p ra ca va la vv lv w ha hv g0 g1 g2).mono fun _ _ h => h.of_eq (by simp [appL, appMOK, g0, g1, g2]) (by simp [appL, appMOK, g0, g1, g2])

end Go.Proofs.Ytcjjjejocnlhmaa
