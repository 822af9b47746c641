/- A quiver is copied: clone of the program, l6Copy of the reference; isSource and isSink. -/
import Derived.Test.YtjgmiohaepcpbaaOpp
import Derived.Test.YtjgmiohaepcpbaaIsPath
namespace Go.Proofs.Ytjgmiohaepcpbaa
open Go.RowKit
set_option linter.unusedVariables false
set_option linter.unusedSimpArgs false

set_option maxRecDepth 100000 in
set_option maxHeartbeats 2000000 in
theorem s_l6Copy (n : Int) (vf vt : Value) (lf lt : List Int) (w : World) (hf : Ints w vf lf) (ht : Ints w vt lt) (hl1 : lf.length ≤ 1048576) (hl2 : lt.length ≤ 1048576) :
    Calls Try.prog 52 #[.agg #[.int .i64 n, vf, vt]] w (QuivNew n lf lt w) := by
  have hk1 : lf.length ≤ 17592186044416 := by omega
  have hk2 : lt.length ≤ 17592186044416 := by omega
  have hltf := Lib.hid hf.lt; have hltt := Lib.hid ht.lt
  obtain ⟨a1, c1, rfl, _, _⟩ := hf.shape
  obtain ⟨a2, c2, rfl, _, _⟩ := ht.shape
  have M := Lib.hid ((((MB.start w).addI hf).addI ht).alloc #[.int .i64 n, .slice a1 lf.length c1, .slice a2 lt.length c2] 27)
  have M0 := Lib.hid (M.out.call ((Below.refl _ _).alloc (Nat.le_refl _) (.cells #[.int .i64 0, .slice none 0 0, .slice none 0 0] 27)))
  have R0 : Hid (Res3 ((w.alloc (.cells #[.int .i64 n, .slice a1 lf.length c1, .slice a2 lt.length c2] 27)).alloc (.cells #[.int .i64 0, .slice none 0 0, .slice none 0 0] 27)) (w.heap.size + 1) 27) := by
    have := Blk.new (w.alloc (.cells #[.int .i64 n, .slice a1 lf.length c1, .slice a2 lt.length c2] 27)) #[.int .i64 0, .slice none 0 0, .slice none 0 0] 27
    rw [World.size_alloc] at this
    exact ⟨_, _, _, this⟩
  clear hf ht
  go_enter Try.func52, Try.ntmps52
  go_upto_region 1 with fail
  go_cut [] (fun wx => QuivIn w (w.heap.size + 1) n lf lt wx)
  case first =>
    go_region_held3 (fun w' => (w'.cell? ⟨w.heap.size, 0, none⟩ = some (.int .i64 n) ∧ w'.cell? ⟨w.heap.size, 1, none⟩ = some (.slice a1 lf.length c1) ∧ w'.cell? ⟨w.heap.size, 2, none⟩ = some (.slice a2 lt.length c2)) ∧
        MB w [(.slice a2 lt.length c2, lt), (.slice a1 lf.length c1, lf)] [(w.heap.size, #[.int .i64 n, .slice a1 lf.length c1, .slice a2 lt.length c2], 27)] w' ∧ Res3 w' (w.heap.size + 1) 27)
      (first
        | with_reducible exact hold3 M0.out.drew (R0.out.below ((Below.refl _ _).drew))
        | with_reducible exact hold3_allocd ‹_ ∧ MB _ _ _ _ ∧ Res3 _ _ _› _
        | with_reducible exact hold3_alloc ‹_ ∧ MB _ _ _ _ ∧ Res3 _ _ _› _
        | with_reducible exact hold3_call ‹_ ∧ MB _ _ _ _ ∧ Res3 _ _ _› ‹Below _ _ _›
        | with_reducible exact hold3_store ‹_ ∧ MB _ _ _ _ ∧ Res3 _ _ _› (by omega) (by with_unfolding_all exact ⟨fun q hq => by have := hltt.out q hq; omega, fun q hq => by have := hltf.out q hq; omega, trivial⟩) (by with_unfolding_all exact ⟨by omega, trivial⟩) _ _ _)
      (first
        | (refine step_app_new _ (by rfl) (.tmp 5) (.tmp 7) (by rfl) _ _ lf (by rfl) (by rfl) ?_ hk1 ?_; (exact MB.i1 (And.left (And.right ‹_ ∧ MB _ _ _ _ ∧ Res3 _ _ _›))); intro v2 w2 hv2 hf2 b2; obtain ⟨a4, c4, rfl, _, _⟩ := hv2.shape; have hg2 := fun q hq => Nat.lt_of_lt_of_le (And.right (And.right ‹_ ∧ MB _ _ _ _ ∧ Res3 _ _ _›)).lt (hf2 q hq))
        | (refine step_app_new _ (by rfl) (.tmp 9) (.tmp 11) (by rfl) _ _ lt (by rfl) (by rfl) ?_ hk2 ?_; (exact MB.i0 (And.left (And.right ‹_ ∧ MB _ _ _ _ ∧ Res3 _ _ _›))); intro v3 w3 hv3 hf3 b3; obtain ⟨a5, c5, rfl, _, _⟩ := hv3.shape; have hR := (And.right (And.right ‹_ ∧ MB _ _ _ _ ∧ Res3 _ _ _›)).below b3; have hM := (And.left (And.right ‹_ ∧ MB _ _ _ _ ∧ Res3 _ _ _›)).call b3; have hg3 := fun q hq => Nat.lt_of_lt_of_le (And.right (And.right ‹_ ∧ MB _ _ _ _ ∧ Res3 _ _ _›)).lt (hf3 q hq); (have hv23 : Ints w3 (.slice a4 lf.length c4) lf := by first | exact hv2.below b3 | exact (hv2.below ((Below.refl _ _).alloc (Nat.le_refl _) _)).below b3); (have hd : ∀ k, blk (.slice a4 lf.length c4) = some k → ¬ blk (.slice a5 lt.length c5) = some k := fun k h h' => by have a := hv2.lt k h; have b := hf3 k h'; (try simp only [World.size_alloc] at b); omega); obtain ⟨x0, x1, x2, q0, q1, q2, f0, f1, f2⟩ := hR.open_; have HQ := Lib.hid (quiv_in n hR (by omega) hM hv23 hv3 hg2 hg3 hd); clear hR hM hg2 hg3 hv23 hv2 hv3 hf2 hf3 hd))
    all_goals (go_wp2_with fail; go_meet; exact HQ.out)
  case rest =>
    obtain ⟨v1, v2, hB, h1, h2, f1, f2, d, bel⟩ := hcut
    obtain ⟨a4, c4, rfl, _, _⟩ := h1.shape
    obtain ⟨a5, c5, rfl, _, _⟩ := h2.shape
    have HB := Lib.hid hB
    have HR := Lib.hid (And.intro h1 (And.intro h2 (And.intro f1 (And.intro f2 (And.intro d bel)))))
    clear hB h1 h2 f1 f2 d bel
    go_wp2
    exact bodyPost_ret (v := .agg #[.int .i64 n, .slice a4 lf.length c4, .slice a5 lt.length c5]) (by simp [results, Try.results52, go_sem, HB.out.cell 0, HB.out.cell 1, HB.out.cell 2]) rfl ⟨_, _, rfl, HR.out⟩

set_option maxRecDepth 100000 in
set_option maxHeartbeats 2000000 in
theorem i_cloneQ (n : Int) (vf vt : Value) (lf lt : List Int) (w : World) (hf : Ints w vf lf) (ht : Ints w vt lt) (hl1 : lf.length ≤ 1048576) (hl2 : lt.length ≤ 1048576) :
    Calls Try.prog 55 #[.agg #[.int .i64 n, vf, vt]] w (QuivNew n lf lt w) := by
  have hk1 : lf.length ≤ 17592186044416 := by omega
  have hk2 : lt.length ≤ 17592186044416 := by omega
  have hltf := Lib.hid hf.lt; have hltt := Lib.hid ht.lt
  obtain ⟨a1, c1, rfl, _, _⟩ := hf.shape
  obtain ⟨a2, c2, rfl, _, _⟩ := ht.shape
  have M := Lib.hid ((((MB.start w).addI hf).addI ht).alloc #[.int .i64 n, .slice a1 lf.length c1, .slice a2 lt.length c2] 27)
  have M0 := Lib.hid (M.out.call ((Below.refl _ _).alloc (Nat.le_refl _) (.cells #[.int .i64 0, .slice none 0 0, .slice none 0 0] 27)))
  have R0 : Hid (Res3 ((w.alloc (.cells #[.int .i64 n, .slice a1 lf.length c1, .slice a2 lt.length c2] 27)).alloc (.cells #[.int .i64 0, .slice none 0 0, .slice none 0 0] 27)) (w.heap.size + 1) 27) := by
    have := Blk.new (w.alloc (.cells #[.int .i64 n, .slice a1 lf.length c1, .slice a2 lt.length c2] 27)) #[.int .i64 0, .slice none 0 0, .slice none 0 0] 27
    rw [World.size_alloc] at this
    exact ⟨_, _, _, this⟩
  clear hf ht
  go_enter Try.func55, Try.ntmps55
  go_upto_region 1 with fail
  go_cut [] (fun wx => QuivIn w (w.heap.size + 1) n lf lt wx)
  case first =>
    go_region_held3 (fun w' => (w'.cell? ⟨w.heap.size, 0, none⟩ = some (.int .i64 n) ∧ w'.cell? ⟨w.heap.size, 1, none⟩ = some (.slice a1 lf.length c1) ∧ w'.cell? ⟨w.heap.size, 2, none⟩ = some (.slice a2 lt.length c2)) ∧
        MB w [(.slice a2 lt.length c2, lt), (.slice a1 lf.length c1, lf)] [(w.heap.size, #[.int .i64 n, .slice a1 lf.length c1, .slice a2 lt.length c2], 27)] w' ∧ Res3 w' (w.heap.size + 1) 27)
      (first
        | with_reducible exact hold3 M0.out.drew (R0.out.below ((Below.refl _ _).drew))
        | with_reducible exact hold3_allocd ‹_ ∧ MB _ _ _ _ ∧ Res3 _ _ _› _
        | with_reducible exact hold3_alloc ‹_ ∧ MB _ _ _ _ ∧ Res3 _ _ _› _
        | with_reducible exact hold3_call ‹_ ∧ MB _ _ _ _ ∧ Res3 _ _ _› ‹Below _ _ _›
        | with_reducible exact hold3_store ‹_ ∧ MB _ _ _ _ ∧ Res3 _ _ _› (by omega) (by with_unfolding_all exact ⟨fun q hq => by have := hltt.out q hq; omega, fun q hq => by have := hltf.out q hq; omega, trivial⟩) (by with_unfolding_all exact ⟨by omega, trivial⟩) _ _ _)
      (first
        | (go_at_call 47; (with_reducible refine (Clone_ints (.slice a1 lf.length c1) lf _ (MB.i1 (And.left (And.right ‹_ ∧ MB _ _ _ _ ∧ Res3 _ _ _›))) hl1).mono ?_); rintro e w2 ⟨v2, rfl, hv2, hf2, b2⟩; obtain ⟨a4, c4, rfl, _, _⟩ := hv2.shape; have hg2 := fun q hq => Nat.lt_of_lt_of_le (And.right (And.right ‹_ ∧ MB _ _ _ _ ∧ Res3 _ _ _›)).lt (hf2 q hq))
        | (go_at_call 47; (with_reducible refine (Clone_ints (.slice a2 lt.length c2) lt _ (MB.i0 (And.left (And.right ‹_ ∧ MB _ _ _ _ ∧ Res3 _ _ _›))) hl2).mono ?_); rintro e w3 ⟨v3, rfl, hv3, hf3, b3⟩; obtain ⟨a5, c5, rfl, _, _⟩ := hv3.shape; have hR := (And.right (And.right ‹_ ∧ MB _ _ _ _ ∧ Res3 _ _ _›)).below b3; have hM := (And.left (And.right ‹_ ∧ MB _ _ _ _ ∧ Res3 _ _ _›)).call b3; have hg3 := fun q hq => Nat.lt_of_lt_of_le (And.right (And.right ‹_ ∧ MB _ _ _ _ ∧ Res3 _ _ _›)).lt (hf3 q hq); (have hv23 : Ints w3 (.slice a4 lf.length c4) lf := by first | exact hv2.below b3 | exact (hv2.below ((Below.refl _ _).alloc (Nat.le_refl _) _)).below b3); (have hd : ∀ k, blk (.slice a4 lf.length c4) = some k → ¬ blk (.slice a5 lt.length c5) = some k := fun k h h' => by have a := hv2.lt k h; have b := hf3 k h'; (try simp only [World.size_alloc] at b); omega); obtain ⟨x0, x1, x2, q0, q1, q2, f0, f1, f2⟩ := hR.open_; have HQ := Lib.hid (quiv_in n hR (by omega) hM hv23 hv3 hg2 hg3 hd); clear hR hM hg2 hg3 hv23 hv2 hv3 hf2 hf3 hd))
    all_goals (go_wp2_with fail; go_meet; exact HQ.out)
  case rest =>
    obtain ⟨v1, v2, hB, h1, h2, f1, f2, d, bel⟩ := hcut
    obtain ⟨a4, c4, rfl, _, _⟩ := h1.shape
    obtain ⟨a5, c5, rfl, _, _⟩ := h2.shape
    have HB := Lib.hid hB
    have HR := Lib.hid (And.intro h1 (And.intro h2 (And.intro f1 (And.intro f2 (And.intro d bel)))))
    clear hB h1 h2 f1 f2 d bel
    go_wp2
    exact bodyPost_ret (v := .agg #[.int .i64 n, .slice a4 lf.length c4, .slice a5 lt.length c5]) (by simp [results, Try.results55, go_sem, HB.out.cell 0, HB.out.cell 1, HB.out.cell 2]) rfl ⟨_, _, rfl, HR.out⟩

end Go.Proofs.Ytjgmiohaepcpbaa
