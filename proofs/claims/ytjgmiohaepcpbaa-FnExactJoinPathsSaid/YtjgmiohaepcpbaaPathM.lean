/- markPath and heldPath of the law's text: the cells of a path's slice are marked, and read again. -/
import Derived.Test.YtjgmiohaepcpbaaPathV
import Derived.Test.YtjgmiohaepcpbaaQuiv
namespace Go.Proofs.Ytjgmiohaepcpbaa
open Go.RowKit

/-- markPath marks the path's slice -/
def MarkAnsP (v : Value) (l : List Int) (k : Int) (w : World) (e : Ending) (w' : World) : Prop :=
  e = .returned (.int .i64 (k + l.length)) ∧ Ints w' v (marks k l.length) ∧ Chg (fun b => blk v = some b) w w'
set_option maxRecDepth 100000 in
set_option maxHeartbeats 1000000 in
theorem l_markPath (s : Int) (v : Value) (l : List Int) (k : Int) (w : World) (hv : Ints w v l) (hk0 : 0 ≤ k) (hk1 : k + l.length ≤ 4611686018427387904) :
    Calls Try.prog 27 #[.agg #[.int .i64 s, v], .int .i64 k] w (MarkAnsP v l k w) := by
  have hlt := hv.lt
  obtain ⟨a, cap, rfl, hlc, hcm⟩ := hv.shape
  have h2 : Below w.heap.size w (w.alloc (.cells #[.int .i64 s, .slice a l.length cap] 39)) := (Below.refl _ w).alloc (Nat.le_refl _) _
  have HV := Lib.hid (hv.below h2)
  have H2 := Lib.hid h2
  clear hv h2 hlt
  go_enter Try.func27, Try.ntmps27
  go_wp2_with fail
  refine (l_markIntS _ l _ _ HV.out (by omega) (by omega)).mono ?_; rintro e w1 ⟨rfl, h1, c1⟩
  go_wp2
  go_ret
  exact ⟨rfl, h1, (Chg.of_below H2.out).trans c1⟩

set_option maxRecDepth 100000 in
set_option maxHeartbeats 1000000 in
theorem l_heldPath (s : Int) (v : Value) (n : Nat) (k : Int) (w : World) (hv : Ints w v (marks k n)) (hk0 : 0 ≤ k) (hk1 : k + n ≤ 4611686018427387904) :
    Calls Try.prog 28 #[.agg #[.int .i64 s, v], .int .i64 k] w (IntAnsC (k + n) w) := by
  obtain ⟨a, cap, rfl, hlc, hcm⟩ := hv.shape
  have h2 : Below w.heap.size w (w.alloc (.cells #[.int .i64 s, .slice a (marks k n).length cap] 39)) := (Below.refl _ w).alloc (Nat.le_refl _) _
  have HV := Lib.hid (hv.below h2)
  have H2 := Lib.hid h2
  clear hv h2
  go_enter Try.func28, Try.ntmps28
  go_wp2_with fail
  refine (l_heldIntS _ n _ _ HV.out (by omega) (by omega)).mono ?_; rintro e w1 ⟨rfl, rfl⟩
  go_wp2
  go_ret
  exact ⟨rfl, H2.out⟩

end Go.Proofs.Ytjgmiohaepcpbaa
