/- Sums and multiples of matrices: clone, plus, AddMatrices, ScaleMatrix. -/
import Derived.Test.YtcjjjejocnlhmaaMat2
import Derived.Test.YtcjjjejocnlhmaaAddVec
import Derived.Test.YtcjjjejocnlhmaaScaleVec
import Derived.Test.YtcjjjejocnlhmaaMB
namespace Go.Proofs.Ytcjjjejocnlhmaa
open Go.RowKit
set_option linter.unusedVariables false
set_option linter.unusedSimpArgs false

theorem MatOK.of_eq {r r' c c' : Int} {l l' : List Int} {ok ok' : Bool} {w w' : World} {e : Ending} (h : MatOK r c l ok w e w') (h1 : r = r') (h2 : c = c') (h3 : l = l') (h4 : ok = ok') : MatOK r' c' l' ok' w e w' := by
  subst h1; subst h2; subst h3; subst h4; exact h

set_option maxRecDepth 100000 in
set_option maxHeartbeats 1000000 in
theorem i_cloneM (r c : Int) (v : Value) (l : List Int) (w : World) (hv : Ints w v l) (hl : l.length ≤ 1048576) :
    Calls Try.prog 92 #[.agg #[.int .i64 r, .int .i64 c, v]] w (MatNew r c l w) := by
  have hlt := Lib.hid hv.lt
  obtain ⟨a, cap, rfl, hlc, hcm⟩ := hv.shape
  have M := Lib.hid ((((MB.start w).addI hv).alloc #[.int .i64 r, .int .i64 c, .slice a l.length cap] 26).alloc #[.int .i64 0, .int .i64 0, .slice none 0 0] 26)
  clear hv
  go_enter Try.func92, Try.ntmps92
  go_wp2_with fail
  refine (Clone_ints _ l _ M.out.i0 hl).mono ?_; rintro e w1 ⟨v1, rfl, hv1, hf1, b1⟩
  have M1 := Lib.hid ((M.out.call b1).addI hv1)
  clear hv1 b1
  obtain ⟨p0, p1, p2⟩ := blk3 M1.out.b1
  obtain ⟨q0, q1, q2⟩ := blk3 M1.out.b0
  obtain ⟨f0, f1, f2⟩ := frz3 M1.out.b1
  obtain ⟨g0, g1, g2⟩ := frz3 M1.out.b0
  obtain ⟨a1, cap1, rfl, _, _⟩ := M1.out.i0.shape
  simp only [World.size_alloc] at p0 p1 p2 q0 q1 q2 f0 f1 f2 g0 g1 g2
  have HF := Lib.hid hf1
  have c2 : Chg (fun k => w.heap.size ≤ k ∧ k < w.heap.size + 2) w1 (w1.setCell ⟨w.heap.size, 2, none⟩ (.slice a1 l.length cap1)) := (Chg.refl _ w1).setCell (p := ⟨w.heap.size, 2, none⟩) ⟨Nat.le_refl _, by simp⟩ _
  have c3 := Lib.hid (((c2.setCell (p := ⟨w.heap.size + 1, 0, none⟩) ⟨by simp, by simp⟩ (.int .i64 r)).setCell (p := ⟨w.heap.size + 1, 1, none⟩) ⟨by simp, by simp⟩ (.int .i64 c)).setCell (p := ⟨w.heap.size + 1, 2, none⟩) ⟨by simp, by simp⟩ (.slice a1 l.length cap1))
  have hR := set3_blk (M1.out.b0.setOther (p := ⟨w.heap.size, 2, none⟩) (by simp) (.slice a1 l.length cap1)) (.int .i64 r) (.int .i64 c) (.slice a1 l.length cap1)
  simp only [World.size_alloc] at hR
  unfold set3 at hR
  have HR := Lib.hid hR
  clear c2 hf1 hR
  go_wp2
  refine bodyPost_ret (v := .agg #[.int .i64 r, .int .i64 c, .slice a1 l.length cap1]) (by simp [results, Try.results92, go_sem, HR.out.cell 0, HR.out.cell 1, HR.out.cell 2]) rfl ⟨_, rfl, ?_, ?_, ?_⟩
  · exact M1.out.i0.chg c3.out (fun q hq h => by have := HF.out q hq; simp at this; omega)
  · exact HF.out.mono (by simp; omega)
  · exact below_chg M1.out.bel c3.out M1.out.bel.size (fun k h => h.1)

set_option maxRecDepth 100000 in
set_option maxHeartbeats 2000000 in
theorem i_plus (p k r c r' c' : Int) (va vb : Value) (la lb : List Int) (w : World) (hp : 1 ≤ p) (hp5 : p ≤ 1000) (ha : Ints w va la) (hb : Ints w vb lb) (hla : la.length ≤ 1048576) (hlb : lb.length ≤ la.length)
    (hbd : ∀ j, j < lb.length → 0 ≤ la.getD j 0 ∧ la.getD j 0 ≤ 1000000 ∧ 0 ≤ k * lb.getD j 0 ∧ k * lb.getD j 0 ≤ 1000000) :
    Calls Try.prog 52 #[.int .i64 p, .agg #[.int .i64 r, .int .i64 c, va], .int .i64 k, .agg #[.int .i64 r', .int .i64 c', vb]] w (MatNew r c (addAt p la 0 k lb lb.length) w) := by
  have HBD := Lib.hid hbd; clear hbd
  have hltb := Lib.hid hb.lt; have hlta := Lib.hid ha.lt
  obtain ⟨a, cap, rfl, hlc, hcm⟩ := ha.shape
  obtain ⟨b, capb, rfl, hlcb, hcmb⟩ := hb.shape
  have M := Lib.hid ((((((MB.start w).addI ha).addI hb).alloc #[.int .i64 r, .int .i64 c, .slice a la.length cap] 26).alloc #[.int .i64 r', .int .i64 c', .slice b lb.length capb] 26).alloc #[.int .i64 0, .int .i64 0, .slice none 0 0] 26)
  clear ha hb
  go_enter Try.func52, Try.ntmps52
  go_wp2_with fail
  refine (i_cloneM _ _ _ la _ M.out.i1 hla).mono ?_; rintro e w1 ⟨v1, rfl, hv1, hf1, b1⟩
  have hs1 := b1.size
  have hfb : ∀ q, blk v1 = some q → w.heap.size + 3 ≤ q ∧ q < w1.heap.size := fun q h => by have a := hf1 q h; have b := hv1.lt q h; simp at a; omega
  have HFB := Lib.hid hfb
  obtain ⟨a1, cap1, rfl, hlc1, hcm1⟩ := hv1.shape
  have M2 := Lib.hid ((M.out.call b1).alloc #[.int .i64 r, .int .i64 c, .slice a1 la.length cap1] 26)
  have HV1 := Lib.hid (hv1.below ((Below.refl _ _).alloc (Nat.le_refl _) (.cells #[.int .i64 r, .int .i64 c, .slice a1 la.length cap1] 26)))
  simp only [World.size_alloc] at hs1
  have hs1' : w.heap.size + 3 ≤ w1.heap.size := by omega
  clear hv1 b1 hf1 hs1 hfb
  obtain ⟨p0, p1, p2⟩ := blk3 M2.out.b2
  simp only [World.size_alloc] at p0 p1 p2
  go_wp2_with fail
  refine (i_addMultiple_whole _ _ _ _ la lb _ hp hp5 HV1.out M2.out.i0 hlb (fun q hq h => by have := hltb.out q hq; have := HFB.out q h; omega) HBD.out).mono ?_; rintro e w3 ⟨rfl, hv3, c3⟩
  have M3 := Lib.hid (M2.out.chg c3 (fun q h => by have := HFB.out q h; omega)
    ⟨fun q hq h => by have := hltb.out q hq; have := HFB.out q h; omega, fun q hq h => by have := hlta.out q hq; have := HFB.out q h; omega, trivial⟩
    ⟨fun h => by have := HFB.out _ h; omega, fun h => by have := HFB.out _ h; simp only [World.size_alloc] at this; omega, fun h => by have := HFB.out _ h; simp only [World.size_alloc] at this; omega, fun h => by have := HFB.out _ h; simp only [World.size_alloc] at this; omega, trivial⟩)
  have HV3 := Lib.hid hv3
  clear hv3 c3 p0 p1 p2
  obtain ⟨p0, p1, p2⟩ := blk3 M3.out.b0
  obtain ⟨q0, q1, q2⟩ := blk3 M3.out.b1
  obtain ⟨g0, g1, g2⟩ := frz3 M3.out.b1
  simp only [World.size_alloc] at q0 q1 q2 g0 g1 g2
  have hR := set3_blk M3.out.b1 (.int .i64 r) (.int .i64 c) (.slice a1 la.length cap1)
  have hI := set3_ints HV3.out (b := w.heap.size + 1 + 1) (fun q h => by have := HFB.out q h; omega) (.int .i64 r) (.int .i64 c) (.slice a1 la.length cap1)
  have hB := set3_below M3.out.bel (b := w.heap.size + 1 + 1) (by omega) (.int .i64 r) (.int .i64 c) (.slice a1 la.length cap1)
  simp only [World.size_alloc] at hR
  unfold set3 at hR hI hB
  have HR := Lib.hid hR; have HI := Lib.hid hI; have HB := Lib.hid hB
  clear hR hI hB
  go_wp2
  refine bodyPost_ret (v := .agg #[.int .i64 r, .int .i64 c, .slice a1 la.length cap1]) (by simp [results, Try.results52, go_sem, HR.out.cell 0, HR.out.cell 1, HR.out.cell 2]) rfl ⟨_, rfl, HI.out, fun q h => by have := HFB.out q h; omega, HB.out⟩

end Go.Proofs.Ytcjjjejocnlhmaa
