/- pathsBetween's closure; IndexFunc on a slice of paths. -/
import Derived.Test.YtndooeffjkofdaaDoorAllI
namespace Go.Proofs.YtndooeffjkofdaaDoor
open Go.RowKit
set_option linter.unusedVariables false
set_option linter.unusedSimpArgs false

theorem enter_between1 : ∀ (args : Array Value) (w : World), (callFunc 61 args).run Tryd.prog w = .ok (.enter 61 args) w := fun args w => by kernel_rfl
set_option maxRecDepth 100000 in
set_option maxHeartbeats 1000000 in
theorem i_between1 (n : Int) (vf vt : Value) (f t : List Int) (b : Int) (st : Int) (va : Value) (ar : List Int) (c1 c2 : Nat) (w : World) (hf : Ints w vf f) (ht : Ints w vt t) (ha : Ints w va ar) (hP : isP n f t st ar = true)
    (h1 : Blk w c1 #[.int .i64 n, vf, vt] 26) (h2 : Blk w c2 #[.int .i64 b] 3) :
    Calls Tryd.prog 61 #[.agg #[.int .i64 st, va], .pointer (some ⟨c1, 0, none⟩), .pointer (some ⟨c2, 0, none⟩)] w (BoolAnsB (curP t st ar ar.length != b) w) := by
  obtain ⟨a1, k1, rfl, hl1, hm1⟩ := hf.shape
  obtain ⟨a2, k2, rfl, hl2, hm2⟩ := ht.shape
  obtain ⟨a3, k3, rfl, hl3, hm3⟩ := ha.shape
  have hb : Below w.heap.size w (w.alloc (.cells #[.int .i64 st, .slice a3 ar.length k3] 28)) := (Below.refl _ w).alloc (Nat.le_refl _) _
  obtain ⟨W, hW⟩ : ∃ W, W = w.alloc (.cells #[.int .i64 st, .slice a3 ar.length k3] 28) := ⟨_, rfl⟩
  rw [← hW] at hb
  have HF := Lib.hid (hf.below hb); have HT := Lib.hid (ht.below hb); have HA := Lib.hid (ha.below hb)
  have P1 := Lib.hid (h1.below hb); have P2 := Lib.hid (h2.below hb)
  have P3 : Hid (Blk W w.heap.size #[.int .i64 st, .slice a3 ar.length k3] 28) := Lib.hid (by rw [hW]; exact Blk.new w _ _)
  have HB := Lib.hid hb; have HP := Lib.hid hP
  obtain ⟨e, he⟩ : ∃ e, e = curP t st ar ar.length := ⟨_, rfl⟩
  have HE := Lib.hid he
  have HW := Lib.hid hW
  rw [← he]
  clear hf ht ha hP h1 h2 hb he hW
  go_enter Tryd.func61, Tryd.ntmps61
  have p := blk3 P1.out
  have q := blk2 P3.out
  have r := P2.out.cell 0
  rw [HW.out] at p q r
  obtain ⟨p0, p1, p2⟩ := p
  obtain ⟨q0, q1⟩ := q
  go_wp2
  go_region_held3 (fun w' => (w'.cell? ⟨c1, 0, none⟩ = some (.int .i64 n) ∧ w'.cell? ⟨c1, 1, none⟩ = some (.slice a1 f.length k1) ∧ w'.cell? ⟨c1, 2, none⟩ = some (.slice a2 t.length k2)) ∧ (w'.cell? ⟨w.heap.size, 0, none⟩ = some (.int .i64 st) ∧ w'.cell? ⟨w.heap.size, 1, none⟩ = some (.slice a3 ar.length k3)) ∧ w'.cell? ⟨c2, 0, none⟩ = some (.int .i64 b))
    (first
      | exact ⟨⟨p0, p1, p2⟩, ⟨q0, q1⟩, r⟩
      | exact ⟨blk3 (P1.out.below hb3), blk2 (P3.out.below hb3), (P2.out.below hb3).cell 0⟩)
    (first
      | (go_at_call 34; (with_reducible refine (i_end _ _ _ _ _ f t ar _ (HW.out ▸ HF.out).drew (HW.out ▸ HT.out).drew (HW.out ▸ HA.out).drew HP.out).mono ?_); rintro ee w3 ⟨rfl, b3⟩; have hb3 : Below W.heap.size W w3 := by rw [HW.out]; exact below_of_drew b3))
  have HB3 := Lib.hid (HB.out.trans (hb3.mono HB.out.size))
  clear b3 hb3
  rw [← HE.out]
  go_wp2
  go_ret
  exact ⟨rfl, HB3.out⟩

/-- the first place that g finds -/
def fndP (g : Pt → Bool) (L : List Pt) (r : Int) : Prop := (r = -1 ∧ ∀ i, i < L.length → g (L.getD i (0, [])) = false) ∨ (∃ k : Nat, r = k ∧ k < L.length ∧ g (L.getD k (0, [])) = true ∧ ∀ i, i < k → g (L.getD i (0, [])) = false)
set_option maxRecDepth 100000 in
set_option maxHeartbeats 1000000 in
theorem IndexFunc_pts (K : FuncId) (cs : Array Value) (g : Pt → Bool) (B : Nat) (v : Value) (L : List Pt) (w : World) (hv : OwnP w B v L) (hsm : L.length ≤ 1048576)
    (hfn : ∀ args w, (callFunc K args).run Tryd.prog w = .ok (.enter K args) w)
    (hcall : ∀ i u w', i < L.length → Below w.heap.size w w' → Ints w' u (L.getD i (0, [])).2 → Calls Tryd.prog K (#[.agg #[.int .i64 (L.getD i (0, [])).1, u]] ++ cs) w' (BoolAnsB (g (L.getD i (0, []))) w')) :
    Calls Tryd.prog 70 #[v, .func (.func K) #[] cs] w (fun e w' => ∃ r, e = .returned (.int .i64 r) ∧ fndP g L r ∧ Below w.heap.size w w') := by
  obtain ⟨a, c, rfl, hlc, hcm⟩ := hv.shape
  have HV := Lib.hid hv; have HC := Lib.hid hcall
  clear hv hcall
  go_enter Tryd.func70, Tryd.ntmps70
  go_wp2
  go_loopw [8] (fun i wr => ∃ k : Nat, k ≤ L.length ∧ i = .int .i64 k ∧ Hid (∀ j, j < k → g (L.getD j (0, [])) = false) ∧ Below w.heap.size w wr) (fun i _ => L.length - (intOf i).toNat)
  case atStart => exact ⟨0, Nat.zero_le _, rfl, fun j hj => absurd hj (by omega), Below.refl _ _⟩
  case round =>
    obtain ⟨k, hk, rfl, HN, hbel⟩ := hrel
    by_cases hlt : k < L.length
    · obtain ⟨g0, u, rfl, _, hgs, hc0, hc1, hu, _⟩ := (HV.out.below hbel).cell hlt
      have HCk := Lib.hid (HC.out k u wr hlt hbel hu)
      obtain ⟨st, hst⟩ : ∃ st, st = (L.getD k (0, [])).1 := ⟨_, rfl⟩
      rw [← hst] at hc0 HCk
      obtain ⟨aU, cU, hue, _, _⟩ := hu.shape
      obtain ⟨m, hm⟩ : ∃ m, m = (L.getD k (0, [])).2.length := ⟨_, rfl⟩
      rw [← hm] at hue
      subst hue
      have HBel := Lib.hid hbel
      have hk0 : (0 : Int) ≤ (k : Int) := by omega
      have hk1 : (k : Int) < (L.length : Int) := by omega
      clear hu hst hm hbel
      cases hg : g (L.getD k (0, []))
      · rw [hg] at HCk
        have HN2 := Lib.hid (show ∀ j, j < k + 1 → g (L.getD j (0, [])) = false from fun j hj => by
          by_cases h : j = k
          · rw [h]; exact hg
          · exact HN.out j (by omega))
        clear hg
        go_wp2_with fail
        refine HCk.out.mono ?_; rintro e w1 ⟨rfl, b1⟩
        have HB1 := Lib.hid (HBel.out.trans (b1.mono HBel.out.size))
        clear b1
        go_wp2
        go_roundw
        case rel => exact ⟨k + 1, by omega, by go_num, HN2, HB1.out⟩
        case measure => simp [intOf]; omega
      · rw [hg] at HCk
        have HG := Lib.hid (show fndP g L k from .inr ⟨k, rfl, hlt, hg, HN.out⟩)
        clear hg
        go_wp2_with fail
        refine HCk.out.mono ?_; rintro e w1 ⟨rfl, b1⟩
        have HB1 := Lib.hid (HBel.out.trans (b1.mono HBel.out.size))
        clear b1
        go_wp2
        go_ret
        exact ⟨_, rfl, HG.out, HB1.out⟩
    · have HG := Lib.hid (show fndP g L (-1) from .inl ⟨rfl, fun i hi => HN.out i (by omega)⟩)
      have HBel := Lib.hid hbel
      clear hbel
      go_wp2
      go_ret
      exact ⟨_, rfl, HG.out, HBel.out⟩
end Go.Proofs.YtndooeffjkofdaaDoor
