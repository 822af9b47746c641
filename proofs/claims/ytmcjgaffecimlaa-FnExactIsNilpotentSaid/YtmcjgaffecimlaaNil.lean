/- IsNilpotent, of the program: a power and a test for zero. -/
import Derived.Test.YtmcjgaffecimlaaMat7
namespace Go.Proofs.Ytmcjgaffecimlaa
open Go.RowKit
set_option linter.unusedVariables false
set_option linter.unusedSimpArgs false

def zeroB (l : List Int) : Bool := !l.any fun x => x != 0
def nilM (p ra ca : Int) (la : List Int) : Bool := isM p ra ca la && decide (ra = ca) && zeroB (powM p ra.toNat la 8)
theorem enter_isZero1 : ∀ (args : Array Value) (w : World), (callFunc 71 args).run Try.prog w = .ok (.enter 71 args) w := fun args w => by kernel_rfl
set_option maxRecDepth 100000 in
set_option maxHeartbeats 400000 in
theorem i_isZero1 (x : Int) (w : World) : Calls Try.prog 71 #[.int .i64 x] w (BoolAns (x != 0) w) := by
  go_enter Try.func71, Try.ntmps71
  go_wp2
  go_ret
  exact ⟨rfl, rfl⟩
set_option maxRecDepth 100000 in
set_option maxHeartbeats 400000 in
theorem i_isZero (r c : Int) (v : Value) (l : List Int) (w : World) (hv : Ints w v l) :
    Calls Try.prog 39 #[.agg #[.int .i64 r, .int .i64 c, v]] w (BoolAnsB (zeroB l) w) := by
  obtain ⟨a, cap, rfl, hlc, hcm⟩ := hv.shape
  have hb : Below w.heap.size w (w.alloc (.cells #[.int .i64 r, .int .i64 c, .slice a l.length cap] 26)) := (Below.refl _ _).alloc (Nat.le_refl _) _
  have hv2 := hv.below hb
  have HC := Lib.hid (ContainsFunc_ints 71 #[] (fun x => x != 0) _ l _ hv2 enter_isZero1 (fun x => by simpa using i_isZero1 x _))
  have HB := Lib.hid hb
  obtain ⟨p0, p1, p2⟩ := blk3 (Blk.new w #[.int .i64 r, .int .i64 c, .slice a l.length cap] 26)
  clear hv hb hv2
  go_enter Try.func39, Try.ntmps39
  go_wp2_with fail
  refine HC.out.mono ?_; rintro e w' ⟨rfl, rfl⟩
  go_wp2
  go_ret
  exact ⟨rfl, HB.out⟩
set_option maxRecDepth 100000 in
set_option maxHeartbeats 2000000 in
theorem i_IsNilpotent (p ra ca : Int) (va : Value) (la : List Int) (w : World) (ha : Ints w va la) :
    Calls Try.prog 15 #[.int .i64 p, .agg #[.int .i64 ra, .int .i64 ca, va]] w (BoolAnsB (nilM p ra ca la) w) := by
  obtain ⟨a, cap, rfl, hlc, hcm⟩ := ha.shape
  have hb : Below w.heap.size w (w.alloc (.cells #[.int .i64 ra, .int .i64 ca, .slice a la.length cap] 26)) := (Below.refl _ _).alloc (Nat.le_refl _) _
  have HA := Lib.hid (ha.below hb)
  have P0 := Lib.hid (Blk.new w #[.int .i64 ra, .int .i64 ca, .slice a la.length cap] 26)
  have HB := Lib.hid hb
  clear ha hb
  obtain ⟨p0, p1, p2⟩ := blk3 P0.out
  go_enter Try.func15, Try.ntmps15
  go_wp2_with fail
  refine (i_IsMatrix _ _ _ _ la _ HA.out).mono ?_; rintro e w1 ⟨rfl, b1⟩
  have HB1 := Lib.hid (below_call HB.out b1 HB.out.size)
  have HA1 := Lib.hid (HA.out.below b1)
  have P1 := Lib.hid (P0.out.below b1)
  clear p0 p1 p2 b1
  obtain ⟨p0, p1, p2⟩ := blk3 P1.out
  cases hM : isM p ra ca la
  · have HR := Lib.hid (show nilM p ra ca la = false by simp [nilM, hM])
    go_wp2
    go_ret
    exact ⟨ret_bool HR.out.symm, HB1.out⟩
  by_cases hr : ra = ca
  · have hrb : (ra == ca) = true := by simpa using hr
    have HH := Lib.hid (And.intro hM hr)
    have HR := Lib.hid (show nilM p ra ca la = zeroB (powM p ra.toNat la 8) by unfold nilM; rw [hM, decide_eq_true hr]; simp)
    clear hM hr
    go_wp2_with fail
    refine (i_powerOfI _ la _ HA1.out HH.out.1 HH.out.2 (by decide) (by decide)).mono ?_; rintro e w2 ⟨v2, rfl, hv2, hf2, b2⟩
    have HB2 := Lib.hid (below_call HB1.out b2 HB1.out.size)
    have HV2 := Lib.hid hv2
    obtain ⟨a2, cap2, rfl, _, _⟩ := hv2.shape
    clear hv2 hf2 b2 p0 p1 p2
    go_wp2_with fail
    refine (i_isZero _ _ _ _ _ HV2.out).mono ?_; rintro e w3 ⟨rfl, b3⟩
    have HB3 := Lib.hid (below_call HB2.out b3 HB2.out.size)
    go_wp2
    go_ret
    exact ⟨ret_bool HR.out.symm, HB3.out⟩
  · have hrb : (ra == ca) = false := by simpa using hr
    have HR := Lib.hid (show nilM p ra ca la = false by simp [nilM, hr])
    clear hr
    go_wp2
    go_ret
    exact ⟨ret_bool HR.out.symm, HB1.out⟩
end Go.Proofs.Ytmcjgaffecimlaa
