/- fromRows of the program: a matrix out of its rows. -/
import Derived.Test.YtmcjgaffecimlaaConcat
import Derived.Test.YtmcjgaffecimlaaMat
import Derived.Test.YtmcjgaffecimlaaMB
namespace Go.Proofs.Ytmcjgaffecimlaa
open Go.RowKit
set_option linter.unusedVariables false
set_option linter.unusedSimpArgs false

set_option maxRecDepth 100000 in
set_option maxHeartbeats 2000000 in
theorem i_fromRows (C : Int) (v : Value) (ll : List (List Int)) (w : World) (hv : Rws 0 w v ll) (hT : ll.flatten.length ≤ 1048576) (hn : ll.length ≤ 64) :
    Calls Try.prog 75 #[.int .i64 C, v] w (MatNew ll.length C ll.flatten w) := by
  have M := Lib.hid ((MB.start w).alloc #[.int .i64 0, .int .i64 0, .slice none 0 0] 26)
  have HV := Lib.hid (hv.below ((Below.refl _ w).alloc (Nat.le_refl _) (.cells #[.int .i64 0, .int .i64 0, .slice none 0 0] 26)))
  obtain ⟨av, cv, rfl, hlv, hmv⟩ := hv.shape
  clear hv
  obtain ⟨L, hL⟩ : ∃ L, L = ll.flatten := ⟨_, rfl⟩
  have HL := Lib.hid hL
  rw [← hL]
  clear hL
  go_enter Try.func75, Try.ntmps75
  go_wp2_with fail
  refine (Concat_ints 0 _ ll _ HV.out hT (by omega)).mono ?_; rintro e w9 ⟨v9, rfl, hv9, hf9, b9⟩
  rw [← HL.out] at hv9
  have M9 := Lib.hid (M.out.call b9)
  obtain ⟨a9, cap9, rfl, _, _⟩ := hv9.shape
  obtain ⟨q0, q1, q2⟩ := blk3 M9.out.b0
  obtain ⟨z0, z1, z2⟩ := frz3 M9.out.b0
  have HT0 := mat_end M9.out (by (try simp only [World.size_alloc]); omega) hv9 (fun q hq => by have := hf9 q hq; (try simp only [World.size_alloc] at this ⊢); omega) (.int .i64 ll.length) (.int .i64 C)
  try simp only [World.size_alloc] at HT0
  have HT := Lib.hid HT0
  clear HT0 hv9 hf9 b9
  go_wp2
  exact bodyPost_ret (v := .agg #[.int .i64 ll.length, .int .i64 C, .slice a9 L.length cap9]) (by simp [results, Try.results75, go_sem, HT.out.2.1, HT.out.2.2.1, HT.out.2.2.2]) rfl ⟨_, rfl, HT.out.1⟩

end Go.Proofs.Ytmcjgaffecimlaa
