/- OppositeOf, of the program and of the reference. -/
import Derived.Test.YtjgmiohaepcpbaaIsQuiv
import Derived.Test.YtjgmiohaepcpbaaAppN
namespace Go.Proofs.Ytjgmiohaepcpbaa
open Go.RowKit
set_option linter.unusedVariables false
set_option linter.unusedSimpArgs false

def oppN (n : Int) (f t : List Int) : Int := if isQ n f t = true then n else 0
def oppL (n : Int) (f t l : List Int) : List Int := if isQ n f t = true then l else []
theorem isQ_l6 {n : Int} {f t : List Int} (h : isQ n f t = true) : f.length = t.length ∧ f.length ≤ 6 := by
  unfold isQ at h
  simp only [Bool.and_eq_true, decide_eq_true_eq] at h
  exact ⟨h.1.1.1.2, h.1.1.2⟩
theorem QuivOK.of_eq {n n' : Int} {f f' t t' : List Int} {ok ok' : Bool} {w w' : World} {e : Ending} (h : QuivOK n f t ok w e w') (h0 : n = n') (h1 : f = f') (h2 : t = t') (h3 : ok = ok') : QuivOK n' f' t' ok' w e w' := by
  subst h0; subst h1; subst h2; subst h3; exact h

theorem opp_keep {w : World} {b c : Nat} {x y z : Value} {T : TypeId} (h : Blk w b #[x, y, z] T) (hb : b ≠ c) (y0 y1 y2 : Value) :
    (((w.setCell ⟨c, 0, none⟩ y0).setCell ⟨c, 1, none⟩ y1).setCell ⟨c, 2, none⟩ y2).cell? ⟨b, 0, none⟩ = some x ∧ (((w.setCell ⟨c, 0, none⟩ y0).setCell ⟨c, 1, none⟩ y1).setCell ⟨c, 2, none⟩ y2).cell? ⟨b, 1, none⟩ = some y ∧ (((w.setCell ⟨c, 0, none⟩ y0).setCell ⟨c, 1, none⟩ y1).setCell ⟨c, 2, none⟩ y2).cell? ⟨b, 2, none⟩ = some z :=
  blk3 (((h.setOther (p := ⟨c, 0, none⟩) hb y0).setOther (p := ⟨c, 1, none⟩) hb y1).setOther (p := ⟨c, 2, none⟩) hb y2)

set_option maxRecDepth 100000 in
set_option maxHeartbeats 2000000 in
theorem i_OppositeOf (n : Int) (vf vt : Value) (lf lt : List Int) (w : World) (hf : Ints w vf lf) (ht : Ints w vt lt) :
    Calls Try.prog 17 #[.agg #[.int .i64 n, vf, vt]] w (QuivOK (oppN n lf lt) (oppL n lf lt lt) (oppL n lf lt lf) (isQ n lf lt) w) := by
  obtain ⟨a1, c1, rfl, hl1, hm1⟩ := hf.shape
  obtain ⟨a2, c2, rfl, hl2, hm2⟩ := ht.shape
  have h1 : Below w.heap.size w (w.alloc (.cells #[.int .i64 n, .slice a1 lf.length c1, .slice a2 lt.length c2] 27)) := (Below.refl _ w).alloc (Nat.le_refl _) _
  have h2 : Below w.heap.size w ((w.alloc (.cells #[.int .i64 n, .slice a1 lf.length c1, .slice a2 lt.length c2] 27)).alloc (.cells #[.int .i64 0, .slice none 0 0, .slice none 0 0] 27)) :=
    h1.alloc (by simp) _
  have P0 := Lib.hid ((Blk.new w #[.int .i64 n, .slice a1 lf.length c1, .slice a2 lt.length c2] 27).below ((Below.refl _ _).alloc (Nat.le_refl _) (.cells #[.int .i64 0, .slice none 0 0, .slice none 0 0] 27)))
  have hr0 : Blk ((w.alloc (.cells #[.int .i64 n, .slice a1 lf.length c1, .slice a2 lt.length c2] 27)).alloc (.cells #[.int .i64 0, .slice none 0 0, .slice none 0 0] 27)) (w.heap.size + 1) #[.int .i64 0, .slice none 0 0, .slice none 0 0] 27 := by simpa using Blk.new (w.alloc (.cells #[.int .i64 n, .slice a1 lf.length c1, .slice a2 lt.length c2] 27)) #[.int .i64 0, .slice none 0 0, .slice none 0 0] 27
  have R0 := Lib.hid hr0
  have HF := Lib.hid (hf.below h2); have HT := Lib.hid (ht.below h2)
  have H2 := Lib.hid h2
  clear hf ht h1 h2 hr0
  go_enter Try.func17, Try.ntmps17
  obtain ⟨p0, p1, p2⟩ := blk3 P0.out
  go_wp2_with fail
  refine (i_IsQuiver _ _ _ lf lt _ HF.out HT.out).mono ?_; rintro e w1 ⟨rfl, b1⟩
  have HB1 := Lib.hid (below_call H2.out b1 H2.out.size)
  have P1 := Lib.hid (P0.out.below b1); have R1 := Lib.hid (R0.out.below b1)
  have HF1 := Lib.hid (HF.out.below b1); have HT1 := Lib.hid (HT.out.below b1)
  clear p0 p1 p2 b1
  obtain ⟨p0, p1, p2⟩ := blk3 P1.out
  obtain ⟨r0, r1, r2⟩ := blk3 R1.out
  have g0 := R1.out.frozen 0; have g1 := R1.out.frozen 1; have g2 := R1.out.frozen 2
  cases hQ : isQ n lf lt
  · have HS := Lib.hid (set3_blk R1.out (.int .i64 0) (.slice none 0 0) (.slice none 0 0))
    have hB := set3_below HB1.out (b := w.heap.size + 1) (by omega) (.int .i64 0) (.slice none 0 0) (.slice none 0 0)
    have HB := Lib.hid hB
    clear hB
    unfold set3 at HS HB
    go_wp2
    refine bodyPost_ret (v := .tuple #[.agg #[.int .i64 0, .slice none 0 0, .slice none 0 0], .bool false]) (by simp [results, Try.results17, go_sem, HS.out.cell 0, HS.out.cell 1, HS.out.cell 2]) rfl ?_
    exact QuivOK.of_eq ⟨_, _, rfl, Ints.nil _, Ints.nil _, FreshV.nil _, FreshV.nil _, fun k h => by simp [blk] at h, HB.out⟩ (by simp [oppN, hQ]) (by simp [oppL, hQ]) (by simp [oppL, hQ]) hQ.symm
  · obtain ⟨hlen, h6⟩ := isQ_l6 hQ
    have HL6 := Lib.hid (show lf.length ≤ 1048576 ∧ lt.length ≤ 1048576 by omega)
    clear hlen h6
    go_wp2
    go_region_held3 (fun w' => w'.cell? ⟨w.heap.size, 0, none⟩ = some (.int .i64 n) ∧ w'.cell? ⟨w.heap.size, 1, none⟩ = some (.slice a1 lf.length c1) ∧ w'.cell? ⟨w.heap.size, 2, none⟩ = some (.slice a2 lt.length c2))
      (first
        | go_keep
        | exact blk3 (P1.out.below (below_of_drew b2))
        | exact blk3 ((P1.out.below (below_of_drew b2)).below b3)
        | exact opp_keep ((P1.out.below (below_of_drew b2)).below b3) (by omega) _ _ _)
      (first
        | (go_at_call 47; (with_reducible refine (Clone_ints (.slice a2 lt.length c2) lt _ HT1.out.drew HL6.out.2).mono ?_); rintro e w2 ⟨v2, rfl, hv2, hf2, b2⟩; obtain ⟨a4, c4, rfl, hx4, hy4⟩ := hv2.shape)
        | (go_at_call 47; (with_reducible refine (Clone_ints (.slice a1 lf.length c1) lf _ (HF1.out.drew.below b2) HL6.out.1).mono ?_); rintro e w3 ⟨v3, rfl, hv3, hf3, b3⟩; obtain ⟨a5, c5, rfl, hx5, hy5⟩ := hv3.shape; obtain ⟨q0, q1, q2⟩ := blk3 ((R1.out.below (below_of_drew b2)).below b3); have f0 := ((R1.out.below (below_of_drew b2)).below b3).frozen 0; have f1 := ((R1.out.below (below_of_drew b2)).below b3).frozen 1; have f2 := ((R1.out.below (below_of_drew b2)).below b3).frozen 2))
    have R3 := (R1.out.below (below_of_drew b2)).below b3
    have hlt := R1.out.lt
    have hv2b := hv2.below b3
    have hds : w1.drew.heap.size = w1.heap.size := rfl
    have hne2 : ∀ k, blk (.slice a4 lt.length c4) = some k → k ≠ w.heap.size + 1 := fun k hk => by have := hf2 k hk; omega
    have hs2 := b2.size
    have hne3 : ∀ k, blk (.slice a5 lf.length c5) = some k → k ≠ w.heap.size + 1 := fun k hk => by have := hf3 k hk; omega
    have hS := set3_blk R3 (.int .i64 n) (.slice a4 lt.length c4) (.slice a5 lf.length c5)
    have hI2 := set3_ints hv2b hne2 (.int .i64 n) (.slice a4 lt.length c4) (.slice a5 lf.length c5)
    have hI3 := set3_ints hv3 hne3 (.int .i64 n) (.slice a4 lt.length c4) (.slice a5 lf.length c5)
    have hbb : Below w.heap.size w w3 := below_call (below_call HB1.out (below_of_drew b2) HB1.out.size) b3 (Nat.le_trans HB1.out.size (by simpa using hs2))
    have hB := set3_below hbb (b := w.heap.size + 1) (by omega) (.int .i64 n) (.slice a4 lt.length c4) (.slice a5 lf.length c5)
    have hdis : ∀ k, blk (.slice a4 lt.length c4) = some k → ¬ blk (.slice a5 lf.length c5) = some k := fun k hk h => by
      have a := hf3 k h; have b := hv2.lt k hk; omega
    have hfr2 : FreshV w.heap.size (.slice a4 lt.length c4) := hf2.mono (by have := HB1.out.size; simpa using this)
    have hfr3 : FreshV w.heap.size (.slice a5 lf.length c5) := hf3.mono (Nat.le_trans HB1.out.size (by simpa using hs2))
    unfold set3 at hS hI2 hI3 hB
    have HS := Lib.hid hS; have HI2 := Lib.hid hI2; have HI3 := Lib.hid hI3; have HB := Lib.hid hB
    have HX := Lib.hid (And.intro hfr2 (And.intro hfr3 hdis))
    clear R3 hds hlt hv2b hne2 hs2 hne3 hS hI2 hI3 hbb hB hdis hfr2 hfr3 hv2 hf2 b2 hv3 hf3 b3 q0 q1 q2 f0 f1 f2
    go_wp2
    refine bodyPost_ret (v := .tuple #[.agg #[.int .i64 n, .slice a4 lt.length c4, .slice a5 lf.length c5], .bool true]) (by simp [results, Try.results17, go_sem, HS.out.cell 0, HS.out.cell 1, HS.out.cell 2]) rfl ?_
    exact QuivOK.of_eq ⟨_, _, rfl, HI2.out, HI3.out, HX.out.1, HX.out.2.1, HX.out.2.2, HB.out⟩ (by simp [oppN, hQ]) (by simp [oppL, hQ]) (by simp [oppL, hQ]) hQ.symm

/-- what a quiver's result block holds behind the region -/
def QuivIn (w0 : World) (b : Nat) (n : Int) (lf lt : List Int) (w : World) : Prop :=
  ∃ vf vt, Blk w b #[.int .i64 n, vf, vt] 27 ∧ Ints w vf lf ∧ Ints w vt lt ∧ FreshV w0.heap.size vf ∧ FreshV w0.heap.size vt ∧ (∀ k, blk vf = some k → ¬ blk vt = some k) ∧ Below w0.heap.size w0 w
theorem quiv_in {w0 w : World} {b : Nat} {v1 v2 : Value} {l1 l2 : List Int} {ins bls} (n : Int) (r : Res3 w b 27) (hb : w0.heap.size ≤ b) (m : MB w0 ins bls w) (h1 : Ints w v1 l1) (h2 : Ints w v2 l2)
    (f1 : ∀ q, blk v1 = some q → b < q) (f2 : ∀ q, blk v2 = some q → b < q) (d : ∀ k, blk v1 = some k → ¬ blk v2 = some k) :
    QuivIn w0 b n l1 l2 (((w.setCell ⟨b, 0, none⟩ (.int .i64 n)).setCell ⟨b, 1, none⟩ v1).setCell ⟨b, 2, none⟩ v2) :=
  ⟨v1, v2, r.blk_set _ _ _, set3_ints h1 (fun q hq e => by have := f1 q hq; omega) _ _ _, set3_ints h2 (fun q hq e => by have := f2 q hq; omega) _ _ _,
    fun q hq => by have := f1 q hq; omega, fun q hq => by have := f2 q hq; omega, d, set3_below m.bel hb _ _ _⟩
set_option maxRecDepth 100000 in
set_option maxHeartbeats 2000000 in
theorem s_OppositeOf_yes (n : Int) (vf vt : Value) (lf lt : List Int) (w : World) (hf : Ints w vf lf) (ht : Ints w vt lt) (hQ : isQ n lf lt = true) :
    Calls Try.prog 16 #[.agg #[.int .i64 n, vf, vt]] w (QuivOK n lt lf true w) := by
  obtain ⟨hlen, h6⟩ := isQ_l6 hQ
  have hl1 : lf.length ≤ 17592186044416 := by omega
  have hl2 : lt.length ≤ 17592186044416 := by omega
  clear hlen h6
  have hltf := Lib.hid hf.lt; have hltt := Lib.hid ht.lt
  obtain ⟨a1, c1, rfl, _, _⟩ := hf.shape
  obtain ⟨a2, c2, rfl, _, _⟩ := ht.shape
  have M := Lib.hid ((((MB.start w).addI hf).addI ht).alloc #[.int .i64 n, .slice a1 lf.length c1, .slice a2 lt.length c2] 27)
  have M0 := Lib.hid (M.out.call ((Below.refl _ _).alloc (Nat.le_refl _) (.cells #[.int .i64 0, .slice none 0 0, .slice none 0 0] 27)))
  have R0 : Hid (Res3 ((w.alloc (.cells #[.int .i64 n, .slice a1 lf.length c1, .slice a2 lt.length c2] 27)).alloc (.cells #[.int .i64 0, .slice none 0 0, .slice none 0 0] 27)) (w.heap.size + 1) 27) := by
    have := Blk.new (w.alloc (.cells #[.int .i64 n, .slice a1 lf.length c1, .slice a2 lt.length c2] 27)) #[.int .i64 0, .slice none 0 0, .slice none 0 0] 27
    rw [World.size_alloc] at this
    exact ⟨_, _, _, this⟩
  clear hf ht
  go_enter Try.func16, Try.ntmps16
  go_wp2_with fail
  refine (s_IsQuiver _ _ _ lf lt _ M0.out.i1 M0.out.i0).mono ?_; rintro e w1 ⟨rfl, b1⟩
  have M1 := Lib.hid (M0.out.call b1); have R1 := Lib.hid (R0.out.below b1)
  have hs1 : w.heap.size + 2 ≤ w1.heap.size := by have := b1.size; simp only [World.size_alloc] at this; omega
  clear b1
  go_upto_region 3 with fail
  go_cut [3] (fun s3 wx => s3 = .bool true ∧ QuivIn w (w.heap.size + 1) n lt lf wx)
  case first =>
    go_region_held3 (fun w' => (w'.cell? ⟨w.heap.size, 0, none⟩ = some (.int .i64 n) ∧ w'.cell? ⟨w.heap.size, 1, none⟩ = some (.slice a1 lf.length c1) ∧ w'.cell? ⟨w.heap.size, 2, none⟩ = some (.slice a2 lt.length c2)) ∧
        MB w [(.slice a2 lt.length c2, lt), (.slice a1 lf.length c1, lf)] [(w.heap.size, #[.int .i64 n, .slice a1 lf.length c1, .slice a2 lt.length c2], 27)] w' ∧ Res3 w' (w.heap.size + 1) 27)
      (first
        | with_reducible exact hold3 M1.out.drew (R1.out.below ((Below.refl _ _).drew))
        | with_reducible exact hold3_allocd ‹_ ∧ MB _ _ _ _ ∧ Res3 _ _ _› _
        | with_reducible exact hold3_alloc ‹_ ∧ MB _ _ _ _ ∧ Res3 _ _ _› _
        | with_reducible exact hold3_call ‹_ ∧ MB _ _ _ _ ∧ Res3 _ _ _› ‹Below _ _ _›
        | with_reducible exact hold3_store ‹_ ∧ MB _ _ _ _ ∧ Res3 _ _ _› (by omega) (by with_unfolding_all exact ⟨fun q hq => by have := hltt.out q hq; omega, fun q hq => by have := hltf.out q hq; omega, trivial⟩) (by with_unfolding_all exact ⟨by omega, trivial⟩) _ _ _)
      (first
        | (refine step_app_new _ (by rfl) (.tmp 10) (.tmp 12) (by rfl) _ _ lt (by rfl) (by rfl) ?_ hl2 ?_; (exact MB.i0 (And.left (And.right ‹_ ∧ MB _ _ _ _ ∧ Res3 _ _ _›))); intro v2 w2 hv2 hf2 b2; obtain ⟨a4, c4, rfl, _, _⟩ := hv2.shape; have hg2 := fun q hq => Nat.lt_of_lt_of_le (And.right (And.right ‹_ ∧ MB _ _ _ _ ∧ Res3 _ _ _›)).lt (hf2 q hq))
        | (refine step_app_new _ (by rfl) (.tmp 14) (.tmp 16) (by rfl) _ _ lf (by rfl) (by rfl) ?_ hl1 ?_; (exact MB.i1 (And.left (And.right ‹_ ∧ MB _ _ _ _ ∧ Res3 _ _ _›))); intro v3 w3 hv3 hf3 b3; obtain ⟨a5, c5, rfl, _, _⟩ := hv3.shape; have hR := (And.right (And.right ‹_ ∧ MB _ _ _ _ ∧ Res3 _ _ _›)).below b3; have hM := (And.left (And.right ‹_ ∧ MB _ _ _ _ ∧ Res3 _ _ _›)).call b3; have hg3 := fun q hq => Nat.lt_of_lt_of_le (And.right (And.right ‹_ ∧ MB _ _ _ _ ∧ Res3 _ _ _›)).lt (hf3 q hq); (have hv23 : Ints w3 (.slice a4 lt.length c4) lt := by first | exact hv2.below b3 | exact (hv2.below ((Below.refl _ _).alloc (Nat.le_refl _) _)).below b3); (have hd : ∀ k, blk (.slice a4 lt.length c4) = some k → ¬ blk (.slice a5 lf.length c5) = some k := fun k h h' => by have a := hv2.lt k h; have b := hf3 k h'; (try simp only [World.size_alloc] at b); omega); obtain ⟨x0, x1, x2, q0, q1, q2, f0, f1, f2⟩ := hR.open_; have HQ := Lib.hid (quiv_in n hR (by omega) hM hv23 hv3 hg2 hg3 hd); clear hR hM hg2 hg3 hv23 hv2 hv3 hf2 hf3 hd))
    all_goals (go_wp2_with fail; go_meet; exact ⟨rfl, HQ.out⟩)
  case rest =>
    obtain ⟨rfl, v1, v2, hB, h1, h2, f1, f2, d, bel⟩ := hcut
    obtain ⟨a4, c4, rfl, _, _⟩ := h1.shape
    obtain ⟨a5, c5, rfl, _, _⟩ := h2.shape
    have HB := Lib.hid hB
    have HR := Lib.hid (And.intro h1 (And.intro h2 (And.intro f1 (And.intro f2 (And.intro d bel)))))
    clear hB h1 h2 f1 f2 d bel
    go_wp2
    exact bodyPost_ret (v := .tuple #[.agg #[.int .i64 n, .slice a4 lt.length c4, .slice a5 lf.length c5], .bool true]) (by simp [results, Try.results16, go_sem, HB.out.cell 0, HB.out.cell 1, HB.out.cell 2]) rfl ⟨_, _, rfl, HR.out⟩
set_option maxRecDepth 100000 in
set_option maxHeartbeats 2000000 in
theorem s_OppositeOf_no (n : Int) (vf vt : Value) (lf lt : List Int) (w : World) (hf : Ints w vf lf) (ht : Ints w vt lt) (hQ : isQ n lf lt = false) :
    Calls Try.prog 16 #[.agg #[.int .i64 n, vf, vt]] w (QuivOK 0 [] [] false w) := by
  obtain ⟨a1, c1, rfl, _, _⟩ := hf.shape
  obtain ⟨a2, c2, rfl, _, _⟩ := ht.shape
  have M := Lib.hid (((((MB.start w).addI hf).addI ht).alloc #[.int .i64 n, .slice a1 lf.length c1, .slice a2 lt.length c2] 27).alloc #[.int .i64 0, .slice none 0 0, .slice none 0 0] 27)
  clear hf ht
  go_enter Try.func16, Try.ntmps16
  go_wp2_with fail
  refine (s_IsQuiver _ _ _ lf lt _ M.out.i1 M.out.i0).mono ?_; rintro e w1 ⟨rfl, b1⟩
  have M1 := Lib.hid (M.out.call b1)
  clear b1
  obtain ⟨q0, q1, q2⟩ := blk3 M1.out.b0
  obtain ⟨f0, f1, f2⟩ := frz3 M1.out.b0
  simp only [World.size_alloc] at q0 q1 q2 f0 f1 f2
  have HZ := mat_zero M1.out (by (try simp only [World.size_alloc]); omega) (.int .i64 0) (.slice none 0 0) (.slice none 0 0)
  simp only [World.size_alloc] at HZ
  have HE := Lib.hid HZ
  clear HZ
  go_wp2
  exact bodyPost_ret (v := .tuple #[.agg #[.int .i64 0, .slice none 0 0, .slice none 0 0], .bool false]) (by simp [results, Try.results16, go_sem, HE.out.2.1, HE.out.2.2.1, HE.out.2.2.2]) rfl ⟨_, _, rfl, Ints.nil _, Ints.nil _, FreshV.nil _, FreshV.nil _, fun k h => by simp [blk] at h, HE.out.1⟩
theorem s_OppositeOf (n : Int) (vf vt : Value) (lf lt : List Int) (w : World) (hf : Ints w vf lf) (ht : Ints w vt lt) :
    Calls Try.prog 16 #[.agg #[.int .i64 n, vf, vt]] w (QuivOK (oppN n lf lt) (oppL n lf lt lt) (oppL n lf lt lf) (isQ n lf lt) w) := by
  cases hQ : isQ n lf lt
  · exact (s_OppositeOf_no n vf vt lf lt w hf ht hQ).mono fun _ _ h => h.of_eq (by simp [oppN, hQ]) (by simp [oppL, hQ]) (by simp [oppL, hQ]) rfl
  · exact (s_OppositeOf_yes n vf vt lf lt w hf ht hQ).mono fun _ _ h => h.of_eq (by simp [oppN, hQ]) (by simp [oppL, hQ]) (by simp [oppL, hQ]) rfl

end Go.Proofs.Ytjgmiohaepcpbaa
