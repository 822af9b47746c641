/- FormatMatrix of the reference: its walk. -/
import Derived.Test.YtdmjikfjmimfmaaDoorFmL
import Derived.Test.YtdmjikfjmimfmaaDoorAddVec
import Derived.Test.YtdmjikfjmimfmaaDoorFp
import Derived.Test.YtdmjikfjmimfmaaDoorMB
import Derived.Test.YtdmjikfjmimfmaaDoorCut
namespace Go.Proofs.YtdmjikfjmimfmaaDoor
open Go.RowKit
set_option linter.unusedVariables false
set_option linter.unusedSimpArgs false
theorem cell_dig {p R C : Int} {l : List Int} (h : isM p R C l = true) : ∀ k, k < l.length → 0 ≤ l.getD k 0 ∧ l.getD k 0 ≤ 4 := by
  intro k hk
  obtain ⟨_, _, _, _, _, hV⟩ := isM_true h
  have hp : p ≤ 5 := by have := isF_cases (isV_F hV); omega
  obtain ⟨a, b⟩ := isV_elem hV hk
  exact ⟨a, by omega⟩
def preM (R C : Int) : List UInt8 := [dgB R, 120, dgB C, 58]
theorem str_app (a b : List UInt8) : (⟨a.toArray⟩ : ByteArray) ++ ⟨b.toArray⟩ = ⟨(a ++ b).toArray⟩ := ByteArray.mk_append_mk a b
theorem str_size (a : List UInt8) : (⟨a.toArray⟩ : ByteArray).size = a.length := by show a.toArray.size = _; simp
theorem run_add (a b : List UInt8) (h : a.length + b.length ≤ 1000000) (wx : World) : (Op.stringOp .add ⟨a.toArray⟩ ⟨b.toArray⟩).run Tryd.prog wx = .ok (.string ⟨(a ++ b).toArray⟩) wx := by
  rw [run_string_add_sum _ _ _ (by rw [str_size, str_size]; omega), str_app]
set_option maxRecDepth 100000 in
set_option maxHeartbeats 1000000 in
theorem s_FormatMatrix (p R C : Int) (v : Value) (l : List Int) (w : World) (hv : Ints w v l) :
    Calls Tryd.prog 20 #[.int .i64 p, .agg #[.int .i64 R, .int .i64 C, v]] w (StrAns (foM p R C l) w) := by
  obtain ⟨a, cap, rfl, hl1, hm1⟩ := hv.shape
  have h2 : Below w.heap.size w (w.alloc (.cells #[.int .i64 R, .int .i64 C, .slice a l.length cap] 43)) := (Below.refl _ w).alloc (Nat.le_refl _) _
  have P0 := Lib.hid (Blk.new w #[.int .i64 R, .int .i64 C, .slice a l.length cap] 43)
  have HV := Lib.hid (hv.below h2)
  have H2 := Lib.hid h2
  clear hv h2
  go_enter Tryd.func20, Tryd.ntmps20
  obtain ⟨p0, p1, p2⟩ := blk3 P0.out
  go_wp2_with fail
  refine (s_IsMatrix _ _ _ _ l _ HV.out).mono ?_; rintro e w1 ⟨rfl, b1⟩
  have HB1 := Lib.hid (below_call H2.out b1 H2.out.size)
  have P1 := Lib.hid (P0.out.below b1)
  have HV1 := Lib.hid (HV.out.below b1)
  clear p0 p1 p2 b1
  obtain ⟨p0, p1, p2⟩ := blk3 P1.out
  cases hM : isM p R C l
  · have HR := Lib.hid (foM_no hM)
    go_wp2
    go_ret
    exact ⟨by rw [HR.out]; rfl, HB1.out⟩
  obtain ⟨r0, r8, c0, c8, hlm, hV⟩ := isM_true hM
  have HCD := Lib.hid (cell_dig hM)
  have HE := Lib.hid (foM_ok hM)
  obtain ⟨rr, rfl⟩ := Int.eq_ofNat_of_zero_le r0
  obtain ⟨c, rfl⟩ := Int.eq_ofNat_of_zero_le c0
  have hlen : l.length = rr * c := by rw [← Int.natCast_mul] at hlm; omega
  have hl64 : l.length ≤ 64 := by rw [hlen]; have : rr * c ≤ 8 * 8 := Nat.mul_le_mul (by omega) (by omega); omega
  have HLEN := Lib.hid hlen
  have HF1 := Lib.hid (fmS_dig (a := (rr : Int)) (by omega) (by omega))
  have HF2 := Lib.hid (fmS_dig (a := (c : Int)) (by omega) (by omega))
  have hc1 := Lib.hid (fun wq => s_FormatInt (rr : Int) (by omega) (by omega) wq)
  have hc2 := Lib.hid (fun wq => s_FormatInt (c : Int) (by omega) (by omega) wq)
  unfold FmAns at hc1 hc2
  rw [HF1.out] at hc1
  rw [HF2.out] at hc2
  have t1 : ∀ wx : World, (Op.stringOp .add ⟨#[dgB (rr : Int)]⟩ ⟨#[120]⟩).run Tryd.prog wx = .ok (.string ⟨#[dgB (rr : Int), 120]⟩) wx := run_add [dgB (rr : Int)] [120] (by simp)
  have t2 : ∀ wx : World, (Op.stringOp .add ⟨#[dgB (rr : Int), 120]⟩ ⟨#[dgB (c : Int)]⟩).run Tryd.prog wx = .ok (.string ⟨#[dgB (rr : Int), 120, dgB (c : Int)]⟩) wx := run_add [dgB (rr : Int), 120] [dgB (c : Int)] (by simp)
  have t3 : ∀ wx : World, (Op.stringOp .add ⟨#[dgB (rr : Int), 120, dgB (c : Int)]⟩ ⟨#[58]⟩).run Tryd.prog wx = .ok (.string ⟨(preM rr c).toArray⟩) wx := run_add [dgB (rr : Int), 120, dgB (c : Int)] [58] (by simp)
  have HSx := Lib.hid (fun (w' : World) (hb : Below w1.heap.size w1 w') => (show w'.cell? ⟨w.heap.size, 0, none⟩ = some (.int .i64 rr) ∧ w'.cell? ⟨w.heap.size, 1, none⟩ = some (.int .i64 c) ∧ w'.cell? ⟨w.heap.size, 2, none⟩ = some (.slice a l.length cap) from ⟨(P1.out.below hb).cell 0, (P1.out.below hb).cell 1, (P1.out.below hb).cell 2⟩))
  clear hM hlm hV hlen
  go_wp2
  go_region_held3 (fun w' => w'.cell? ⟨w.heap.size, 0, none⟩ = some (.int .i64 rr) ∧ w'.cell? ⟨w.heap.size, 1, none⟩ = some (.int .i64 c) ∧ w'.cell? ⟨w.heap.size, 2, none⟩ = some (.slice a l.length cap))
    (first
      | exact HSx.out _ (Below.refl _ _)
      | exact HSx.out _ (Below.refl _ w1).drew
      | exact HSx.out _ (hb3.trans (hb4.mono hb3.size))
      | exact HSx.out _ hb3
      | go_keep)
    (first
      | (go_at_call 36; (with_reducible refine (hc1.out _).mono ?_); rintro e w3 ⟨rfl, hb3⟩; replace hb3 := below_of_drew hb3)
      | (go_at_call 36; (with_reducible refine (hc2.out _).mono ?_); rintro e w4 ⟨rfl, hb4⟩))
  have b4 := hb3.trans (hb4.mono hb3.size)
  have HB4 := Lib.hid (below_call HB1.out b4 HB1.out.size)
  have P4 := Lib.hid (P1.out.below b4)
  have HV4 := Lib.hid (HV1.out.below b4)
  clear hb3 hb4 hc1 hc2 HSx b4 t1 t2 t3 p0 p1 p2
  go_wp2
  go_loopw [5, 6] (fun sv iv wr => ∃ (k : Nat) (S : List UInt8), iv = .int .i64 k ∧ k ≤ l.length ∧ sv = strV S ∧ Hid (S = preM rr c ++ mtC c l k) ∧ Hid (Below w4.heap.size w4 wr)) (fun _ iv _ => l.length - (intOf iv).toNat)
  case atStart => exact ⟨0, preM rr c, rfl, by omega, rfl, by unfold Hid; simp [mtC], Below.refl _ _⟩
  case round =>
    obtain ⟨k, S, rfl, hk, rfl, HS, HBW⟩ := hrel
    have P5 := Lib.hid (P4.out.below HBW.out)
    have HV5 := Lib.hid (HV4.out.below HBW.out)
    obtain ⟨p0, p1, p2⟩ := blk3 P5.out
    have hSl : S.length ≤ 4 + 2 * k := by rw [HS.out, List.length_append]; have := mtC_len c l k; simp [preM]; omega
    by_cases hlt : k < l.length
    · obtain ⟨g, off, rfl, hgs, hc, _⟩ := HV5.out.cell hlt
      obtain ⟨x0, x4⟩ := HCD.out k hlt
      obtain ⟨x, hx⟩ := elem_name l k
      rw [hx] at hc x0 x4
      have hcpos : 0 < c := by
        rcases Nat.eq_zero_or_pos c with h0 | h0
        · have := HLEN.out; rw [h0, Nat.mul_zero] at this; omega
        · exact h0
      have hi0 : (0 : Int) ≤ (k : Int) := by omega
      have hi1 : (k : Int) < (l.length : Int) := by omega
      have HFx := Lib.hid (fmS_dig (a := x) x0 (by omega))
      have hcx := Lib.hid (fun wq => s_FormatInt x (by omega) (by omega) wq)
      unfold FmAns at hcx
      rw [HFx.out] at hcx
      have HN := Lib.hid (mtC_succ c l k)
      rw [hx] at HN
      have HX := Lib.hid hx
      clear hx
      rcases Nat.eq_zero_or_pos k with hk0 | hk0
      · have hg0 : decide (0 < k) = false := by simp; omega
        have tt : ∀ wx : World, (Op.stringOp .add ⟨S.toArray⟩ ⟨#[dgB x]⟩).run Tryd.prog wx = .ok (.string ⟨(S ++ [dgB x]).toArray⟩) wx := run_add S [dgB x] (by simp; omega)
        have HS2 : Hid (S ++ [dgB x] = preM rr c ++ mtC c l (k + 1)) := by unfold Hid; rw [HN.out, HS.out, if_neg (fun h => by omega)]; simp
        clear hk0
        unfold strV
        go_wp2_with fail
        refine (hcx.out _).mono ?_; rintro e w5 ⟨rfl, b5⟩
        have HB5 := Lib.hid (HBW.out.trans (b5.mono HBW.out.size))
        clear b5 hcx
        go_wp2
        go_roundw
        case rel => exact ⟨k + 1, _, by go_num, by omega, rfl, HS2, HB5⟩
        case measure => simp [intOf]; omega
      · have hg0 : decide (0 < k) = true := by simpa using hk0
        by_cases hmod : k % c = 0
        · have hmd : ((k : Int) % (c : Int) == 0) = true := by rw [← Int.natCast_emod, hmod]; rfl
          have tu : ∀ wx : World, (Op.stringOp .add ⟨S.toArray⟩ ⟨#[47]⟩).run Tryd.prog wx = .ok (.string ⟨(S ++ [47]).toArray⟩) wx := run_add S [47] (by simp; omega)
          have tt : ∀ wx : World, (Op.stringOp .add ⟨(S ++ [47]).toArray⟩ ⟨#[dgB x]⟩).run Tryd.prog wx = .ok (.string ⟨(S ++ [47, dgB x]).toArray⟩) wx := fun wx => by
            have := run_add (S ++ [47]) [dgB x] (by simp; omega) wx
            rw [List.append_assoc] at this; exact this
          have HS2 : Hid (S ++ [47, dgB x] = preM rr c ++ mtC c l (k + 1)) := by unfold Hid; rw [HN.out, HS.out, if_pos ⟨hk0, hmod⟩]; simp
          clear hk0 hmod
          unfold strV
          go_wp2_with fail
          refine (hcx.out _).mono ?_; rintro e w5 ⟨rfl, b5⟩
          have HB5 := Lib.hid (HBW.out.trans (b5.mono HBW.out.size))
          clear b5 hcx
          go_wp2
          go_roundw
          case rel => exact ⟨k + 1, _, by go_num, by omega, rfl, HS2, HB5⟩
          case measure => simp [intOf]; omega
        · have hmd : ((k : Int) % (c : Int) == 0) = false := by
            rw [← Int.natCast_emod]; simp; omega
          have tt : ∀ wx : World, (Op.stringOp .add ⟨S.toArray⟩ ⟨#[dgB x]⟩).run Tryd.prog wx = .ok (.string ⟨(S ++ [dgB x]).toArray⟩) wx := run_add S [dgB x] (by simp; omega)
          have HS2 : Hid (S ++ [dgB x] = preM rr c ++ mtC c l (k + 1)) := by unfold Hid; rw [HN.out, HS.out, if_neg (fun h => hmod h.2)]; simp
          clear hk0 hmod
          unfold strV
          go_wp2_with fail
          refine (hcx.out _).mono ?_; rintro e w5 ⟨rfl, b5⟩
          have HB5 := Lib.hid (HBW.out.trans (b5.mono HBW.out.size))
          clear b5 hcx
          go_wp2
          go_roundw
          case rel => exact ⟨k + 1, _, by go_num, by omega, rfl, HS2, HB5⟩
          case measure => simp [intOf]; omega
    · have hkl : k = l.length := by omega
      have hdk : decide (k < l.length) = false := by simpa using hlt
      have HFIN := Lib.hid (show foM p rr c l = ⟨S.toArray⟩ by rw [HE.out, HS.out, hkl]; rfl)
      have HBB := Lib.hid (HB4.out.trans (HBW.out.mono HB4.out.size))
      clear hkl
      unfold strV
      go_wp2
      go_ret
      exact ⟨by rw [HFIN.out]; rfl, HBB.out⟩
end Go.Proofs.YtdmjikfjmimfmaaDoor
