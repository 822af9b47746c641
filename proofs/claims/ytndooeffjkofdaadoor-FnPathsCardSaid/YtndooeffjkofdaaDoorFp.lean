/- FormatPath, of the program and of the reference: their walks. -/
import Derived.Test.YtndooeffjkofdaaDoorMg5
namespace Go.Proofs.YtndooeffjkofdaaDoor
open Go.RowKit
set_option linter.unusedVariables false
set_option linter.unusedSimpArgs false
def StrAns (s : ByteArray) (w : World) (e : Ending) (w' : World) : Prop := e = .returned (.string s) ∧ Below w.heap.size w w'
theorem ba_app (a b c : ByteArray) : a ++ b ++ c = a ++ (b ++ c) := ByteArray.append_assoc
set_option maxRecDepth 100000 in
set_option maxHeartbeats 4000000 in
theorem i_FormatPath (n : Int) (vf vt : Value) (s : Int) (va : Value) (lf lt la : List Int) (w : World) (hf : Ints w vf lf) (ht : Ints w vt lt) (ha : Ints w va la) (hp : PowTab w) :
    Calls Tryd.prog 24 #[.agg #[.int .i64 n, vf, vt], .agg #[.int .i64 s, va]] w (StrAns (foP n lf lt s la) w) := by
  obtain ⟨a1, c1, rfl, hl1, hm1⟩ := hf.shape
  obtain ⟨a2, c2, rfl, hl2, hm2⟩ := ht.shape
  obtain ⟨a3, c3, rfl, hl3, hm3⟩ := ha.shape
  have HLA := Lib.hid ha.lt; have HLT := Lib.hid ht.lt
  have h2 : Below w.heap.size w ((w.alloc (.cells #[.int .i64 n, .slice a1 lf.length c1, .slice a2 lt.length c2] 26)).alloc (.cells #[.int .i64 s, .slice a3 la.length c3] 28)) :=
    ((Below.refl _ w).alloc (Nat.le_refl _) _).alloc (by simp) _
  have P0 := Lib.hid ((Blk.new w #[.int .i64 n, .slice a1 lf.length c1, .slice a2 lt.length c2] 26).below ((Below.refl _ _).alloc (Nat.le_refl _) (.cells #[.int .i64 s, .slice a3 la.length c3] 28)))
  have hq0 : Blk ((w.alloc (.cells #[.int .i64 n, .slice a1 lf.length c1, .slice a2 lt.length c2] 26)).alloc (.cells #[.int .i64 s, .slice a3 la.length c3] 28)) (w.heap.size + 1) #[.int .i64 s, .slice a3 la.length c3] 28 := by simpa using Blk.new (w.alloc (.cells #[.int .i64 n, .slice a1 lf.length c1, .slice a2 lt.length c2] 26)) #[.int .i64 s, .slice a3 la.length c3] 28
  have Q0 := Lib.hid hq0
  have HF := Lib.hid (hf.below h2); have HT := Lib.hid (ht.below h2); have HA := Lib.hid (ha.below h2)
  have H2 := Lib.hid h2
  have HPT := Lib.hid hp
  clear hp
  clear hf ht ha h2 hq0
  go_enter Tryd.func24, Tryd.ntmps24
  obtain ⟨p0, p1, p2⟩ := blk3 P0.out
  obtain ⟨p3, p4⟩ := blk2 Q0.out
  go_wp2_with fail
  refine (i_IsPath _ _ _ _ _ lf lt la _ HF.out HT.out HA.out).mono ?_; rintro e w1 ⟨rfl, b1⟩
  have HB1 := Lib.hid (below_call H2.out b1 H2.out.size)
  have P1 := Lib.hid (P0.out.below b1); have Q1 := Lib.hid (Q0.out.below b1)
  have HT1 := Lib.hid (HT.out.below b1); have HA1 := Lib.hid (HA.out.below b1)
  clear p0 p1 p2 p3 p4 b1
  obtain ⟨p0, p1, p2⟩ := blk3 P1.out
  obtain ⟨p3, p4⟩ := blk2 Q1.out
  cases hP : isP n lf lt s la
  · have HR := Lib.hid (foP_no hP)
    go_wp2
    go_ret
    exact ⟨by rw [HR.out]; rfl, HB1.out⟩
  have HE := Lib.hid (foP_ok hP)
  have HSZ := Lib.hid (fpS_sz hP)
  obtain ⟨hlen, h20, ⟨s0, s4⟩, hka, hkt⟩ := fp_parts hP
  have HKA := Lib.hid hka; have HKT := Lib.hid hkt
  have H6 := Lib.hid (show lt.length ≤ 6 by have := (isQ_parts (isP_parts hP).1).2.2; omega)
  have hcF := Lib.hid (fun (d : Int) (h0 : 0 ≤ d) (h9 : d ≤ 21) wq (b : Below w.heap.size w wq) => (i_FormatInt d (by omega) (by omega) wq (HPT.out.below b)))
  clear hP hka hkt hlen
  have hc0 := Lib.hid (fun wq b => hcF.out s (by omega) (by omega) wq b)
  unfold FmAns at hc0
  have HS0 := Lib.hid (show fpS lt s la 0 = fmS s from rfl)
  go_wp2_with fail
  refine (hc0.out _ HB1.out).mono ?_; rintro e w2 ⟨rfl, b2⟩
  have HB2 := Lib.hid (below_call HB1.out b2 HB1.out.size)
  have P2 := Lib.hid (P1.out.below b2); have Q2 := Lib.hid (Q1.out.below b2)
  have HT2 := Lib.hid (HT1.out.below b2); have HA2 := Lib.hid (HA1.out.below b2)
  clear p0 p1 p2 p3 p4 b2 hc0 P0 Q0 P1 Q1 HF HT HA HT1 HA1
  generalize fmS s = S0 at HS0 ⊢
  obtain ⟨p0, p1, p2⟩ := blk3 P2.out
  obtain ⟨p3, p4⟩ := blk2 Q2.out
  go_wp2
  go_loopw [5, 18] (fun x y wr => ∃ (k : Nat) (S : ByteArray), k ≤ la.length ∧ x = .string S ∧ y = .int .i64 k ∧ Hid (S = fpS lt s la k) ∧ Hid (Below w2.heap.size w2 wr)) (fun x y _ => la.length - (intOf y).toNat)
  case atStart => exact ⟨0, S0, Nat.zero_le _, rfl, rfl, HS0.out.symm, Below.refl _ _⟩
  case round =>
    obtain ⟨k, S, hk, rfl, rfl, HS, HBW⟩ := hrel
    clear p0 p1 p2 p3 p4
    have P3 := Lib.hid (P2.out.below HBW.out); have Q3 := Lib.hid (Q2.out.below HBW.out)
    obtain ⟨p0, p1, p2⟩ := blk3 P3.out
    obtain ⟨p3, p4⟩ := blk2 Q3.out
    by_cases hlt : k < la.length
    · obtain ⟨x0, x1⟩ := HKA.out k hlt
      have hA3 := HA2.out.below HBW.out
      have hT3 := HT2.out.below HBW.out
      obtain ⟨g, off, rfl, hgs, hc, _⟩ := hA3.cell hlt
      obtain ⟨x, hx⟩ := elem_name la k
      rw [hx] at hc x0 x1
      obtain ⟨X, rfl⟩ := Int.eq_ofNat_of_zero_le x0
      have hXt : X < lt.length := by omega
      obtain ⟨gt, ot, rfl, hgt, hct, _⟩ := hT3.cell hXt
      obtain ⟨y0, y4⟩ := HKT.out X hXt
      obtain ⟨z, hz⟩ := elem_name lt X
      rw [hz] at hct y0 y4
      have HX := Lib.hid hx; have HZ := Lib.hid hz
      have hX20 : (X : Int) ≤ 21 := by have := H6.out; omega
      have hsz := HSZ.out k (by omega)
      rw [← HS.out] at hsz
      have z1 := fmS_sz (d := (X : Int)) (by omega) (by omega)
      have z2 := fmS_sz (d := z) (by omega) (by omega)
      have HN := Lib.hid (show fpS lt s la (k + 1) = S ++ (⟨#[45]⟩ ++ fmS (X : Int) ++ ⟨#[62]⟩ ++ fmS z) by simp only [fpS, fpP]; rw [hx, Int.toNat_natCast, hz, HS.out])
      have hc1 := Lib.hid (fun wq b => hcF.out (X : Int) (by omega) hX20 wq b)
      have hc2 := Lib.hid (fun wq b => hcF.out z (by omega) (by omega) wq b)
      unfold FmAns at hc1 hc2
      clear hx hz
      generalize fmS (X : Int) = F1 at hc1 z1 HN
      generalize fmS z = F2 at hc2 z2 HN
      have e1 : (⟨#[45]⟩ : ByteArray).size = 1 := rfl
      have e2 : (⟨#[62]⟩ : ByteArray).size = 1 := rfl
      have t1 : ∀ wx : World, (Op.stringOp .add ⟨#[45]⟩ F1).run Tryd.prog wx = .ok (.string (⟨#[45]⟩ ++ F1)) wx := fun wx => run_string_add_sum _ _ _ (by omega)
      have t2 : ∀ wx : World, (Op.stringOp .add (⟨#[45]⟩ ++ F1) ⟨#[62]⟩).run Tryd.prog wx = .ok (.string (⟨#[45]⟩ ++ F1 ++ ⟨#[62]⟩)) wx := fun wx => run_string_add_sum _ _ _ (by rw [ByteArray.size_append]; omega)
      have t3 : ∀ wx : World, (Op.stringOp .add (⟨#[45]⟩ ++ F1 ++ ⟨#[62]⟩) F2).run Tryd.prog wx = .ok (.string (⟨#[45]⟩ ++ F1 ++ ⟨#[62]⟩ ++ F2)) wx := fun wx => run_string_add_sum _ _ _ (by rw [ByteArray.size_append, ByteArray.size_append]; omega)
      have t4 : ∀ wx : World, (Op.stringOp .add S (⟨#[45]⟩ ++ F1 ++ ⟨#[62]⟩ ++ F2)).run Tryd.prog wx = .ok (.string (S ++ (⟨#[45]⟩ ++ F1 ++ ⟨#[62]⟩ ++ F2))) wx := fun wx => run_string_add_sum _ _ _ (by rw [ByteArray.size_append, ByteArray.size_append, ByteArray.size_append]; omega)
      have HW := Lib.hid (below_call HB2.out HBW.out HB2.out.size)
      have HSx := Lib.hid (fun (w' : World) (hb : Below wr.heap.size wr w') => (show (w'.cell? ⟨w.heap.size, 0, none⟩ = some (.int .i64 n) ∧ w'.cell? ⟨w.heap.size, 1, none⟩ = some (.slice a1 lf.length c1) ∧ w'.cell? ⟨w.heap.size, 2, none⟩ = some (.slice (some ⟨gt, ot, none⟩) lt.length c2)) ∧ (w'.cell? ⟨w.heap.size + 1, 0, none⟩ = some (.int .i64 s) ∧ w'.cell? ⟨w.heap.size + 1, 1, none⟩ = some (.slice (some ⟨g, off, none⟩) la.length c3)) ∧ w'.cell? ⟨g, off + k, none⟩ = some (.int .i64 X) ∧ w'.cell? ⟨gt, ot + X, none⟩ = some (.int .i64 z)
        from ⟨⟨(P3.out.below hb).cell 0, (P3.out.below hb).cell 1, (P3.out.below hb).cell 2⟩, ⟨(Q3.out.below hb).cell 0, (Q3.out.below hb).cell 1⟩, (hb.cell (p := ⟨g, off + k, none⟩) hgs).trans hc, (hb.cell (p := ⟨gt, ot + X, none⟩) hgt).trans hct⟩))
      have hk0 : (0 : Int) ≤ (k : Int) := by omega
      have hk1 : (k : Int) < (la.length : Int) := by omega
      have hX0 : (0 : Int) ≤ (X : Int) := by omega
      have hX1 : (X : Int) < (lt.length : Int) := by omega
      clear e1 e2 z1 z2 hsz
      go_wp2
      go_region_held3 (fun w' => (w'.cell? ⟨w.heap.size, 0, none⟩ = some (.int .i64 n) ∧ w'.cell? ⟨w.heap.size, 1, none⟩ = some (.slice a1 lf.length c1) ∧ w'.cell? ⟨w.heap.size, 2, none⟩ = some (.slice (some ⟨gt, ot, none⟩) lt.length c2)) ∧ (w'.cell? ⟨w.heap.size + 1, 0, none⟩ = some (.int .i64 s) ∧ w'.cell? ⟨w.heap.size + 1, 1, none⟩ = some (.slice (some ⟨g, off, none⟩) la.length c3)) ∧ w'.cell? ⟨g, off + k, none⟩ = some (.int .i64 X) ∧ w'.cell? ⟨gt, ot + X, none⟩ = some (.int .i64 z))
        (first
          | exact HSx.out _ (Below.refl _ _)
          | exact HSx.out _ (Below.refl _ wr).drew
          | exact HSx.out _ (hb3.trans (hb4.mono hb3.size))
          | exact HSx.out _ hb3
          | go_keep)
        (first
          | (go_at_call 47; (with_reducible refine (hc1.out _ HW.out.drew).mono ?_); rintro e w3 ⟨rfl, hb3⟩; replace hb3 := below_of_drew hb3)
          | (go_at_call 47; (with_reducible refine (hc2.out _ (below_call HW.out hb3 HW.out.size)).mono ?_); rintro e w4 ⟨rfl, hb4⟩))
      have HBN := Lib.hid (HBW.out.trans ((hb3.trans (hb4.mono hb3.size)).mono HBW.out.size))
      clear hb3 hb4 hc1 hc2 HSx
      go_wp2
      go_roundw
      case rel => exact ⟨k + 1, _, by omega, rfl, by go_num, HN.out.symm, HBN⟩
      case measure => simp [intOf]; omega
    · have hke : k = la.length := by omega
      have HFIN := Lib.hid (show foP n lf lt s la = S by rw [HE.out, HS.out, hke])
      have hdk : decide (k < la.length) = false := by simpa using hlt
      clear hke
      go_wp2
      go_ret
      exact ⟨by rw [HFIN.out]; rfl, HB2.out.trans (HBW.out.mono HB2.out.size)⟩
set_option maxRecDepth 100000 in
set_option maxHeartbeats 4000000 in
theorem s_FormatPath (n : Int) (vf vt : Value) (s : Int) (va : Value) (lf lt la : List Int) (w : World) (hf : Ints w vf lf) (ht : Ints w vt lt) (ha : Ints w va la) :
    Calls Tryd.prog 25 #[.agg #[.int .i64 n, vf, vt], .agg #[.int .i64 s, va]] w (StrAns (foP n lf lt s la) w) := by
  obtain ⟨a1, c1, rfl, hl1, hm1⟩ := hf.shape
  obtain ⟨a2, c2, rfl, hl2, hm2⟩ := ht.shape
  obtain ⟨a3, c3, rfl, hl3, hm3⟩ := ha.shape
  have HLA := Lib.hid ha.lt; have HLT := Lib.hid ht.lt
  have h2 : Below w.heap.size w ((w.alloc (.cells #[.int .i64 n, .slice a1 lf.length c1, .slice a2 lt.length c2] 26)).alloc (.cells #[.int .i64 s, .slice a3 la.length c3] 28)) :=
    ((Below.refl _ w).alloc (Nat.le_refl _) _).alloc (by simp) _
  have P0 := Lib.hid ((Blk.new w #[.int .i64 n, .slice a1 lf.length c1, .slice a2 lt.length c2] 26).below ((Below.refl _ _).alloc (Nat.le_refl _) (.cells #[.int .i64 s, .slice a3 la.length c3] 28)))
  have hq0 : Blk ((w.alloc (.cells #[.int .i64 n, .slice a1 lf.length c1, .slice a2 lt.length c2] 26)).alloc (.cells #[.int .i64 s, .slice a3 la.length c3] 28)) (w.heap.size + 1) #[.int .i64 s, .slice a3 la.length c3] 28 := by simpa using Blk.new (w.alloc (.cells #[.int .i64 n, .slice a1 lf.length c1, .slice a2 lt.length c2] 26)) #[.int .i64 s, .slice a3 la.length c3] 28
  have Q0 := Lib.hid hq0
  have HF := Lib.hid (hf.below h2); have HT := Lib.hid (ht.below h2); have HA := Lib.hid (ha.below h2)
  have H2 := Lib.hid h2
  clear hf ht ha h2 hq0
  go_enter Tryd.func25, Tryd.ntmps25
  obtain ⟨p0, p1, p2⟩ := blk3 P0.out
  obtain ⟨p3, p4⟩ := blk2 Q0.out
  go_wp2_with fail
  refine (s_IsPath _ _ _ _ _ lf lt la _ HF.out HT.out HA.out).mono ?_; rintro e w1 ⟨rfl, b1⟩
  have HB1 := Lib.hid (below_call H2.out b1 H2.out.size)
  have P1 := Lib.hid (P0.out.below b1); have Q1 := Lib.hid (Q0.out.below b1)
  have HT1 := Lib.hid (HT.out.below b1); have HA1 := Lib.hid (HA.out.below b1)
  clear p0 p1 p2 p3 p4 b1
  obtain ⟨p0, p1, p2⟩ := blk3 P1.out
  obtain ⟨p3, p4⟩ := blk2 Q1.out
  cases hP : isP n lf lt s la
  · have HR := Lib.hid (foP_no hP)
    go_wp2
    go_ret
    exact ⟨by rw [HR.out]; rfl, HB1.out⟩
  have HE := Lib.hid (foP_ok hP)
  have HSZ := Lib.hid (fpS_sz hP)
  obtain ⟨hlen, h20, ⟨s0, s4⟩, hka, hkt⟩ := fp_parts hP
  have HKA := Lib.hid hka; have HKT := Lib.hid hkt
  have H6 := Lib.hid (show lt.length ≤ 6 by have := (isQ_parts (isP_parts hP).1).2.2; omega)
  have hcF := Lib.hid (fun (d : Int) (h0 : 0 ≤ d) (h9 : d ≤ 21) wq (b : Below w.heap.size w wq) => (s_FormatInt d (by omega) (by omega) wq))
  clear hP hka hkt hlen
  have hc0 := Lib.hid (fun wq b => hcF.out s (by omega) (by omega) wq b)
  unfold FmAns at hc0
  have HS0 := Lib.hid (show fpS lt s la 0 = fmS s from rfl)
  go_wp2_with fail
  refine (hc0.out _ HB1.out).mono ?_; rintro e w2 ⟨rfl, b2⟩
  have HB2 := Lib.hid (below_call HB1.out b2 HB1.out.size)
  have P2 := Lib.hid (P1.out.below b2); have Q2 := Lib.hid (Q1.out.below b2)
  have HT2 := Lib.hid (HT1.out.below b2); have HA2 := Lib.hid (HA1.out.below b2)
  clear p0 p1 p2 p3 p4 b2 hc0 P0 Q0 P1 Q1 HF HT HA HT1 HA1
  generalize fmS s = S0 at HS0 ⊢
  obtain ⟨p0, p1, p2⟩ := blk3 P2.out
  obtain ⟨p3, p4⟩ := blk2 Q2.out
  go_wp2
  go_loopw [5, 6] (fun x y wr => ∃ (k : Nat) (S : ByteArray), k ≤ la.length ∧ x = .string S ∧ y = .int .i64 k ∧ Hid (S = fpS lt s la k) ∧ Hid (Below w2.heap.size w2 wr)) (fun x y _ => la.length - (intOf y).toNat)
  case atStart => exact ⟨0, S0, Nat.zero_le _, rfl, rfl, HS0.out.symm, Below.refl _ _⟩
  case round =>
    obtain ⟨k, S, hk, rfl, rfl, HS, HBW⟩ := hrel
    clear p0 p1 p2 p3 p4
    have P3 := Lib.hid (P2.out.below HBW.out); have Q3 := Lib.hid (Q2.out.below HBW.out)
    obtain ⟨p0, p1, p2⟩ := blk3 P3.out
    obtain ⟨p3, p4⟩ := blk2 Q3.out
    by_cases hlt : k < la.length
    · obtain ⟨x0, x1⟩ := HKA.out k hlt
      have hA3 := HA2.out.below HBW.out
      have hT3 := HT2.out.below HBW.out
      obtain ⟨g, off, rfl, hgs, hc, _⟩ := hA3.cell hlt
      obtain ⟨x, hx⟩ := elem_name la k
      rw [hx] at hc x0 x1
      obtain ⟨X, rfl⟩ := Int.eq_ofNat_of_zero_le x0
      have hXt : X < lt.length := by omega
      obtain ⟨gt, ot, rfl, hgt, hct, _⟩ := hT3.cell hXt
      obtain ⟨y0, y4⟩ := HKT.out X hXt
      obtain ⟨z, hz⟩ := elem_name lt X
      rw [hz] at hct y0 y4
      have HX := Lib.hid hx; have HZ := Lib.hid hz
      have hX20 : (X : Int) ≤ 21 := by have := H6.out; omega
      have hsz := HSZ.out k (by omega)
      rw [← HS.out] at hsz
      have z1 := fmS_sz (d := (X : Int)) (by omega) (by omega)
      have z2 := fmS_sz (d := z) (by omega) (by omega)
      have HN := Lib.hid (show fpS lt s la (k + 1) = S ++ (⟨#[45]⟩ ++ fmS (X : Int) ++ ⟨#[62]⟩ ++ fmS z) by simp only [fpS, fpP]; rw [hx, Int.toNat_natCast, hz, HS.out])
      have hc1 := Lib.hid (fun wq b => hcF.out (X : Int) (by omega) hX20 wq b)
      have hc2 := Lib.hid (fun wq b => hcF.out z (by omega) (by omega) wq b)
      unfold FmAns at hc1 hc2
      clear hx hz
      generalize fmS (X : Int) = F1 at hc1 z1 HN
      generalize fmS z = F2 at hc2 z2 HN
      have e1 : (⟨#[45]⟩ : ByteArray).size = 1 := rfl
      have e2 : (⟨#[62]⟩ : ByteArray).size = 1 := rfl
      have t1 : ∀ wx : World, (Op.stringOp .add S ⟨#[45]⟩).run Tryd.prog wx = .ok (.string (S ++ ⟨#[45]⟩)) wx := fun wx => run_string_add_sum _ _ _ (by omega)
      have t2 : ∀ wx : World, (Op.stringOp .add (S ++ ⟨#[45]⟩) F1).run Tryd.prog wx = .ok (.string (S ++ ⟨#[45]⟩ ++ F1)) wx := fun wx => run_string_add_sum _ _ _ (by rw [ByteArray.size_append]; omega)
      have t3 : ∀ wx : World, (Op.stringOp .add (S ++ ⟨#[45]⟩ ++ F1) ⟨#[62]⟩).run Tryd.prog wx = .ok (.string (S ++ ⟨#[45]⟩ ++ F1 ++ ⟨#[62]⟩)) wx := fun wx => run_string_add_sum _ _ _ (by rw [ByteArray.size_append, ByteArray.size_append]; omega)
      have t4 : ∀ wx : World, (Op.stringOp .add (S ++ ⟨#[45]⟩ ++ F1 ++ ⟨#[62]⟩) F2).run Tryd.prog wx = .ok (.string (S ++ ⟨#[45]⟩ ++ F1 ++ ⟨#[62]⟩ ++ F2)) wx := fun wx => run_string_add_sum _ _ _ (by rw [ByteArray.size_append, ByteArray.size_append, ByteArray.size_append]; omega)
      have HW := Lib.hid (below_call HB2.out HBW.out HB2.out.size)
      have HSx := Lib.hid (fun (w' : World) (hb : Below wr.heap.size wr w') => (show (w'.cell? ⟨w.heap.size, 0, none⟩ = some (.int .i64 n) ∧ w'.cell? ⟨w.heap.size, 1, none⟩ = some (.slice a1 lf.length c1) ∧ w'.cell? ⟨w.heap.size, 2, none⟩ = some (.slice (some ⟨gt, ot, none⟩) lt.length c2)) ∧ (w'.cell? ⟨w.heap.size + 1, 0, none⟩ = some (.int .i64 s) ∧ w'.cell? ⟨w.heap.size + 1, 1, none⟩ = some (.slice (some ⟨g, off, none⟩) la.length c3)) ∧ w'.cell? ⟨g, off + k, none⟩ = some (.int .i64 X) ∧ w'.cell? ⟨gt, ot + X, none⟩ = some (.int .i64 z)
        from ⟨⟨(P3.out.below hb).cell 0, (P3.out.below hb).cell 1, (P3.out.below hb).cell 2⟩, ⟨(Q3.out.below hb).cell 0, (Q3.out.below hb).cell 1⟩, (hb.cell (p := ⟨g, off + k, none⟩) hgs).trans hc, (hb.cell (p := ⟨gt, ot + X, none⟩) hgt).trans hct⟩))
      have hk0 : (0 : Int) ≤ (k : Int) := by omega
      have hk1 : (k : Int) < (la.length : Int) := by omega
      have hX0 : (0 : Int) ≤ (X : Int) := by omega
      have hX1 : (X : Int) < (lt.length : Int) := by omega
      clear e1 e2 z1 z2 hsz
      go_wp2
      go_region_held3 (fun w' => (w'.cell? ⟨w.heap.size, 0, none⟩ = some (.int .i64 n) ∧ w'.cell? ⟨w.heap.size, 1, none⟩ = some (.slice a1 lf.length c1) ∧ w'.cell? ⟨w.heap.size, 2, none⟩ = some (.slice (some ⟨gt, ot, none⟩) lt.length c2)) ∧ (w'.cell? ⟨w.heap.size + 1, 0, none⟩ = some (.int .i64 s) ∧ w'.cell? ⟨w.heap.size + 1, 1, none⟩ = some (.slice (some ⟨g, off, none⟩) la.length c3)) ∧ w'.cell? ⟨g, off + k, none⟩ = some (.int .i64 X) ∧ w'.cell? ⟨gt, ot + X, none⟩ = some (.int .i64 z))
        (first
          | exact HSx.out _ (Below.refl _ _)
          | exact HSx.out _ (Below.refl _ wr).drew
          | exact HSx.out _ (hb3.trans (hb4.mono hb3.size))
          | exact HSx.out _ hb3
          | go_keep)
        (first
          | (go_at_call 48; (with_reducible refine (hc1.out _ HW.out.drew).mono ?_); rintro e w3 ⟨rfl, hb3⟩; replace hb3 := below_of_drew hb3)
          | (go_at_call 48; (with_reducible refine (hc2.out _ (below_call HW.out hb3 HW.out.size)).mono ?_); rintro e w4 ⟨rfl, hb4⟩))
      have HBN := Lib.hid (HBW.out.trans ((hb3.trans (hb4.mono hb3.size)).mono HBW.out.size))
      clear hb3 hb4 hc1 hc2 HSx
      go_wp2
      go_roundw
      case rel => exact ⟨k + 1, _, by omega, rfl, by go_num, (by unfold Hid; rw [HN.out]; simp only [ba_app]), HBN⟩
      case measure => simp [intOf]; omega
    · have hke : k = la.length := by omega
      have HFIN := Lib.hid (show foP n lf lt s la = S by rw [HE.out, HS.out, hke])
      have hdk : decide (k < la.length) = false := by simpa using hlt
      clear hke
      go_wp2
      go_ret
      exact ⟨by rw [HFIN.out]; rfl, HB2.out.trans (HBW.out.mono HB2.out.size)⟩
end Go.Proofs.YtndooeffjkofdaaDoor
