/- The laws' comparison of two equal slices of paths. -/
import Derived.Test.YthlmggogeeedjaaPts
namespace Go.Proofs.Ythlmggogeeedjaa
open Go.RowKit
set_option linter.unusedVariables false
set_option linter.unusedSimpArgs false

set_option maxRecDepth 100000 in
set_option maxHeartbeats 2000000 in
theorem l_eqPathS (B B2 : Nat) (va vb : Value) (L : List Pt) (w : World) (ha : OwnP w B va L) (hb : OwnP w B2 vb L) (hsm : L.length ≤ 1048576) :
    Calls Try.prog 8 #[va, vb] w (BoolAnsB true w) := by
  obtain ⟨a, cap, rfl, hlc, hcm⟩ := ha.shape
  obtain ⟨b, cap', rfl, hlc', hcm'⟩ := hb.shape
  have HA := Lib.hid ha; have HB := Lib.hid hb
  have hnb : ((L.length : Int) != (L.length : Int)) = false := by simp
  clear ha hb
  go_enter Try.func8, Try.ntmps8
  go_wp2
  go_loopw [5] (fun i wr => ∃ k : Nat, k ≤ L.length ∧ i = .int .i64 k ∧ Below w.heap.size w wr) (fun i _ => L.length - (intOf i).toNat)
  case atStart => exact ⟨0, Nat.zero_le _, rfl, Below.refl _ _⟩
  case round =>
    obtain ⟨k, hk, rfl, hbel⟩ := hrel
    have HBel := Lib.hid hbel
    by_cases hlt : k < L.length
    · obtain ⟨g, x, rfl, _, hgs, hc0, hc1, hx, _⟩ := (HA.out.below hbel).cell hlt
      obtain ⟨g', y, rfl, _, hgs', hd0, hd1, hy, _⟩ := (HB.out.below hbel).cell hlt
      obtain ⟨st, hst⟩ : ∃ st, st = (L.getD k (0, [])).1 := ⟨_, rfl⟩
      obtain ⟨ar, har⟩ : ∃ ar, ar = (L.getD k (0, [])).2 := ⟨_, rfl⟩
      rw [← hst] at hc0 hd0
      rw [← har] at hx hy
      obtain ⟨aX, cX, rfl, _, _⟩ := hx.shape
      obtain ⟨aY, cY, rfl, _, _⟩ := hy.shape
      have HX := Lib.hid hx; have HY := Lib.hid hy
      have hk0 : (0 : Int) ≤ (k : Int) := by omega
      have hk1 : (k : Int) < (L.length : Int) := by omega
      clear hx hy hst har hbel
      go_wp2
      go_region_held3 (fun w' => (w'.cell? ⟨g, k * 2, none⟩ = some (.int .i64 st) ∧ w'.cell? ⟨g, k * 2 + 1, none⟩ = some (.slice aX ar.length cX)) ∧ w'.cell? ⟨g', k * 2, none⟩ = some (.int .i64 st) ∧ w'.cell? ⟨g', k * 2 + 1, none⟩ = some (.slice aY ar.length cY))
        (first
          | exact ⟨⟨hc0, hc1⟩, hd0, hd1⟩
          | exact ⟨⟨(b1.cell (p := ⟨g, k * 2, none⟩) hgs).trans hc0, (b1.cell (p := ⟨g, k * 2 + 1, none⟩) hgs).trans hc1⟩, (b1.cell (p := ⟨g', k * 2, none⟩) hgs').trans hd0, (b1.cell (p := ⟨g', k * 2 + 1, none⟩) hgs').trans hd1⟩)
        (first
          | (go_at_call 22; (with_reducible refine (l_eqPath st st _ _ ar ar _ HX.out.drew HY.out.drew).mono ?_); rintro e w1 ⟨rfl, b1⟩; rw [eqP_refl]))
      have HB1 := Lib.hid (HBel.out.trans ((below_of_drew b1).mono HBel.out.size))
      clear b1 hc0 hc1 hd0 hd1
      go_wp2
      go_roundw
      case rel => exact ⟨k + 1, by omega, by go_num, HB1.out⟩
      case measure => simp [intOf]; omega
    · clear hbel
      go_wp2
      go_ret
      exact ⟨rfl, HBel.out⟩
end Go.Proofs.Ythlmggogeeedjaa
