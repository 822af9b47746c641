/- FormatQuiver, of the program and of the reference: their walks. -/
import Derived.Test.YtndooeffjkofdaaDoorMg5
import Derived.Test.YtndooeffjkofdaaDoorFp
namespace Go.Proofs.YtndooeffjkofdaaDoor
open Go.RowKit
set_option linter.unusedVariables false
set_option linter.unusedSimpArgs false
theorem Own.pair (w : World) {B : Nat} (c d : Int) (hB : B ≤ w.heap.size) : Own (w.alloc (.cells #[.int .i64 c, .int .i64 d] 3)) B 3 .i64 (.slice (some ⟨w.heap.size, 0, none⟩) 2 2) [c, d] :=
  World.ownsRow_lit (size := 1) (e := 3) (base := B) w #[.int .i64 c, .int .i64 d] 2 hB (by decide) rfl
set_option maxRecDepth 100000 in
set_option maxHeartbeats 4000000 in
theorem s_FormatQuiver (n : Int) (vf vt : Value) (lf lt : List Int) (w : World) (hf : Ints w vf lf) (ht : Ints w vt lt) :
    Calls Tryd.prog 73 #[.agg #[.int .i64 n, vf, vt]] w (StrAns (foQ n lf lt) w) := by
  obtain ⟨a1, c1, rfl, hl1, hm1⟩ := hf.shape
  obtain ⟨a2, c2, rfl, hl2, hm2⟩ := ht.shape
  have h2 : Below w.heap.size w (w.alloc (.cells #[.int .i64 n, .slice a1 lf.length c1, .slice a2 lt.length c2] 26)) := (Below.refl _ w).alloc (Nat.le_refl _) _
  have P0 := Lib.hid (Blk.new w #[.int .i64 n, .slice a1 lf.length c1, .slice a2 lt.length c2] 26)
  have HF := Lib.hid (hf.below h2); have HT := Lib.hid (ht.below h2)
  have H2 := Lib.hid h2
  clear hf ht h2
  go_enter Tryd.func73, Tryd.ntmps73
  obtain ⟨p0, p1, p2⟩ := blk3 P0.out
  go_wp2_with fail
  refine (s_IsQuiver _ _ _ lf lt _ HF.out HT.out).mono ?_; rintro e w1 ⟨rfl, b1⟩
  have HB1 := Lib.hid (below_call H2.out b1 H2.out.size)
  have P1 := Lib.hid (P0.out.below b1)
  have HT1 := Lib.hid (HT.out.below b1); have HF1 := Lib.hid (HF.out.below b1)
  clear p0 p1 p2 b1
  obtain ⟨p0, p1, p2⟩ := blk3 P1.out
  cases hQ : isQ n lf lt
  · have HR := Lib.hid (foQ_no hQ)
    go_wp2
    go_ret
    exact ⟨by rw [HR.out]; rfl, HB1.out⟩
  have HE := Lib.hid (foQ_ok hQ)
  have HSZ := Lib.hid (fqS_sz hQ)
  obtain ⟨hlen, h6, ⟨n1, n5⟩, hka, hkt⟩ := fq_parts hQ
  have HKA := Lib.hid hka; have HKT := Lib.hid hkt; have HLEN := Lib.hid hlen
  have hcF := Lib.hid (fun (d : Int) (h0 : 0 ≤ d) (h9 : d ≤ 21) wq (b : Below w.heap.size w wq) => (s_FormatInt d (by omega) (by omega) wq))
  clear hQ hka hkt hlen
  have hc0 := Lib.hid (fun wq b => hcF.out n (by omega) (by omega) wq b)
  unfold FmAns at hc0
  have HS0 := Lib.hid (show fqS n lf lt 0 = fmS n ++ ⟨#[58]⟩ from rfl)
  have z0 := fmS_sz (d := n) (by omega) (by omega)
  have e0 : (⟨#[58]⟩ : ByteArray).size = 1 := rfl
  generalize fmS n = F0 at hc0 HS0 z0
  have t0 : ∀ wx : World, (Op.stringOp .add F0 ⟨#[58]⟩).run Tryd.prog wx = .ok (.string (F0 ++ ⟨#[58]⟩)) wx := fun wx => run_string_add_sum _ _ _ (by omega)
  clear e0 z0
  go_wp2_with fail
  refine (hc0.out _ HB1.out).mono ?_; rintro e w2 ⟨rfl, b2⟩
  have HB2 := Lib.hid (below_call HB1.out b2 HB1.out.size)
  have P2 := Lib.hid (P1.out.below b2)
  have HT2 := Lib.hid (HT1.out.below b2); have HF2 := Lib.hid (HF1.out.below b2)
  clear p0 p1 p2 b2 hc0 P0 P1 HF HT HF1 HT1
  obtain ⟨p0, p1, p2⟩ := blk3 P2.out
  go_wp2
  clear t0
  go_loopw [3, 4] (fun x y wr => ∃ (k : Nat) (S : ByteArray), k ≤ lf.length ∧ x = .string S ∧ y = .int .i64 k ∧ Hid (S = fqS n lf lt k) ∧ Hid (Below w2.heap.size w2 wr)) (fun x y _ => lf.length - (intOf y).toNat)
  case atStart => exact ⟨0, _, Nat.zero_le _, rfl, rfl, HS0.out.symm, Below.refl _ _⟩
  case round =>
    obtain ⟨k, S, hk, rfl, rfl, HS, HBW⟩ := hrel
    clear p0 p1 p2
    have P3 := Lib.hid (P2.out.below HBW.out)
    obtain ⟨p0, p1, p2⟩ := blk3 P3.out
    by_cases hlt : k < lf.length
    · obtain ⟨x0, x4⟩ := HKA.out k hlt
      have hF3 := HF2.out.below HBW.out
      have hT3 := HT2.out.below HBW.out
      have hlt2 : k < lt.length := by have := HLEN.out; omega
      obtain ⟨g, off, rfl, hgs, hc, _⟩ := hF3.cell hlt
      obtain ⟨x, hx⟩ := elem_name lf k
      rw [hx] at hc x0 x4
      obtain ⟨gt, ot, rfl, hgt, hct, _⟩ := hT3.cell hlt2
      obtain ⟨y0, y4⟩ := HKT.out k hlt2
      obtain ⟨z, hz⟩ := elem_name lt k
      rw [hz] at hct y0 y4
      have hsz := HSZ.out k (by omega)
      rw [← HS.out] at hsz
      have z1 := fmS_sz (d := x) (by omega) (by omega)
      have z2 := fmS_sz (d := z) (by omega) (by omega)
      have HN := Lib.hid (show fqS n lf lt (k + 1) = S ++ (⟨#[32]⟩ ++ (fmS x ++ fmS z)) by simp only [fqS, fqP]; rw [hx, hz, HS.out])
      have HW := Lib.hid (below_call HB2.out HBW.out HB2.out.size)
      have hk0 : (0 : Int) ≤ (k : Int) := by omega
      have hk1 : (k : Int) < (lf.length : Int) := by omega
      have hk2 : (k : Int) < (lt.length : Int) := by omega
      have e1 : (⟨#[32]⟩ : ByteArray).size = 1 := rfl
      clear hx hz
      have hc1 := Lib.hid (fun wq b => hcF.out x (by omega) (by omega) wq b)
      have hc2 := Lib.hid (fun wq b => hcF.out z (by omega) (by omega) wq b)
      unfold FmAns at hc1 hc2
      have HSx := Lib.hid (fun (w' : World) (hb : Below wr.heap.size wr w') => (show (w'.cell? ⟨w.heap.size, 0, none⟩ = some (.int .i64 n) ∧ w'.cell? ⟨w.heap.size, 1, none⟩ = some (.slice (some ⟨g, off, none⟩) lf.length c1) ∧ w'.cell? ⟨w.heap.size, 2, none⟩ = some (.slice (some ⟨gt, ot, none⟩) lt.length c2)) ∧ w'.cell? ⟨g, off + k, none⟩ = some (.int .i64 x) ∧ w'.cell? ⟨gt, ot + k, none⟩ = some (.int .i64 z)
        from ⟨⟨(P3.out.below hb).cell 0, (P3.out.below hb).cell 1, (P3.out.below hb).cell 2⟩, (hb.cell (p := ⟨g, off + k, none⟩) hgs).trans hc, (hb.cell (p := ⟨gt, ot + k, none⟩) hgt).trans hct⟩))
      generalize hF1 : fmS x = F1 at hc1 z1 HN
      generalize hF2 : fmS z = F2 at hc2 z2 HN
      have HF1 := Lib.hid hF1; have HF2' := Lib.hid hF2
      clear hF1 hF2
      have t1 : ∀ wx : World, (Op.stringOp .add S ⟨#[32]⟩).run Tryd.prog wx = .ok (.string (S ++ ⟨#[32]⟩)) wx := fun wx => run_string_add_sum _ _ _ (by omega)
      have t2 : ∀ wx : World, (Op.stringOp .add (S ++ ⟨#[32]⟩) F1).run Tryd.prog wx = .ok (.string (S ++ ⟨#[32]⟩ ++ F1)) wx := fun wx => run_string_add_sum _ _ _ (by rw [ByteArray.size_append]; omega)
      have t3 : ∀ (F : ByteArray) (wx : World), F.size ≤ 21 → (Op.stringOp .add (S ++ ⟨#[32]⟩ ++ F1) F).run Tryd.prog wx = .ok (.string (S ++ ⟨#[32]⟩ ++ F1 ++ F)) wx := fun F wx hF => run_string_add_sum _ _ _ (by rw [ByteArray.size_append, ByteArray.size_append]; omega)
      have t4 := fun wx => t3 F2 wx z2
      clear z1 z2 t3
      clear e1 hsz
      go_wp2
      go_region_held3 (fun w' => (w'.cell? ⟨w.heap.size, 0, none⟩ = some (.int .i64 n) ∧ w'.cell? ⟨w.heap.size, 1, none⟩ = some (.slice (some ⟨g, off, none⟩) lf.length c1) ∧ w'.cell? ⟨w.heap.size, 2, none⟩ = some (.slice (some ⟨gt, ot, none⟩) lt.length c2)) ∧ w'.cell? ⟨g, off + k, none⟩ = some (.int .i64 x) ∧ w'.cell? ⟨gt, ot + k, none⟩ = some (.int .i64 z))
        (first
          | exact HSx.out _ (Below.refl _ _)
          | exact HSx.out _ (Below.refl _ wr).drew
          | exact HSx.out _ (hb3.trans (hb4.mono hb3.size))
          | exact HSx.out _ hb3
          | go_keep)
        (first
          | (go_at_call 48; (with_reducible refine (hc1.out _ HW.out.drew).mono ?_); rintro e w3 ⟨rfl, hb3⟩; replace hb3 := below_of_drew hb3)
          | (go_at_call 48; (with_reducible refine (hc2.out _ (below_call HW.out hb3 HW.out.size)).mono ?_); rintro e w4 ⟨rfl, hb4⟩))
      have HBN := Lib.hid (HBW.out.trans ((hb3.trans (hb4.mono hb3.size)).mono HBW.out.size))
      clear hb3 hb4 hc1 hc2 HSx
      go_wp2
      go_roundw
      case rel => exact ⟨k + 1, _, by omega, rfl, by go_num, (by unfold Hid; rw [HN.out]; simp only [ba_app]), HBN⟩
      case measure => simp [intOf]; omega
    · have hke : k = lf.length := by omega
      have HFIN := Lib.hid (show foQ n lf lt = S by rw [HE.out, HS.out, hke])
      have hdk : decide (k < lf.length) = false := by simpa using hlt
      clear hke
      go_wp2
      go_ret
      exact ⟨by rw [HFIN.out]; rfl, HB2.out.trans (HBW.out.mono HB2.out.size)⟩
end Go.Proofs.YtndooeffjkofdaaDoor
