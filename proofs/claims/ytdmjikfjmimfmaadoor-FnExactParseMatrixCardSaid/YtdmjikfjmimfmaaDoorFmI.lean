/- FormatMatrix of the program: its walk. -/
import Derived.Test.YtdmjikfjmimfmaaDoorFm
import Derived.Test.YtdmjikfjmimfmaaDoorFq
import Derived.Test.YtdmjikfjmimfmaaDoorCols
namespace Go.Proofs.YtdmjikfjmimfmaaDoor
open Go.RowKit
set_option linter.unusedVariables false
set_option linter.unusedSimpArgs false
theorem OwnT.nil (w : World) (B : Nat) : OwnT w B (.slice none 0 0) [] := World.ownsRow_nil w B _ 1
theorem OwnT.shape {w : World} {B : Nat} {v : Value} {p : List (List UInt8)} (h : OwnT w B v p) : ∃ a n c, v = .slice a n c := by
  rcases h.2 with ⟨e, _⟩ | ⟨g, cap, cur, e, _⟩ <;> exact ⟨_, _, _, e⟩
theorem rowsK_M (c : Nat) (l : List Int) (k : Nat) : rowsK c l k = rowsM c l k := rfl
theorem rowsM_get {c k i : Nat} {l : List Int} (h : i < k) : (rowsM c l k).getD i [] = rowL c i l := by simp [rowsM, List.getD, h]
theorem rowsM_succ (c : Nat) (l : List Int) (k : Nat) : rowsM c l (k + 1) = rowsM c l k ++ [rowL c k l] := by simp [rowsM, List.range_succ]
theorem rowsM_len (c : Nat) (l : List Int) (k : Nat) : (rowsM c l k).length = k := by simp [rowsM]
theorem join_texts (p : List (List UInt8)) (a : Option Addr) (n c : Nat) (sep : List UInt8) (w : World) (B : Nat) (ho : OwnT w B (.slice a n c) p) (hN : p.length ≤ 1000) (hJ : (Lib.join p sep).length ≤ 1000000) :
    Calls Tryd.prog 47 #[.slice a n c, .string ⟨sep.toArray⟩] w fun e w' => e = .returned (.string ⟨(Lib.join p sep).toArray⟩) ∧ Below w.heap.size w w' := by
  obtain ⟨rfl, hc, hm, hat⟩ := ho.at
  by_cases h0 : p = []
  · subst h0
    refine (Tryd.strings_Join_none a c ⟨sep.toArray⟩ w).mono ?_
    rintro e w' ⟨rfl, rfl⟩
    exact ⟨rfl, Below.refl _ _⟩
  · have hp : 0 < p.length := List.length_pos_iff.2 h0
    obtain ⟨g, rfl, hg, _, _⟩ := hat 0 hp
    have e1 : ((p.map fun b => (⟨b.toArray⟩ : ByteArray)).map (·.data.toList)) = p := by rw [List.map_map]; simp [Function.comp_def]
    have hlen : p.length ≤ c := hc
    have hcells : ∀ (j : Nat) x, (p.map fun b => (⟨b.toArray⟩ : ByteArray))[j]? = some x → w.cell? ⟨g, 0 + j, none⟩ = some (.string x) := by
      intro j x hx
      rw [List.getElem?_map] at hx
      cases hpj : p[j]? with
      | none => rw [hpj] at hx; simp at hx
      | some b =>
        rw [hpj] at hx
        simp only [Option.map_some, Option.some.injEq] at hx
        have hj : j < p.length := by
          rcases Nat.lt_or_ge j p.length with h | h
          · exact h
          · rw [List.getElem?_eq_none h] at hpj; cases hpj
        obtain ⟨g', e, _, _, h⟩ := hat j hj
        simp only [Option.some.injEq, Addr.mk.injEq, and_true] at e
        rw [Nat.zero_add, e, h, List.getD_eq_getElem?_getD, hpj, ← hx]
        rfl
    have h := Tryd.strings_Join g 0 c (p.map fun b => (⟨b.toArray⟩ : ByteArray)) ⟨sep.toArray⟩ w hcells hg (by rw [List.length_map]; omega) (by rw [List.length_map]; exact hlen) (by rw [e1]; simpa using (by omega : (Lib.join p sep).length ≤ 140737488355328))
    rw [List.length_map, e1] at h
    simpa using h
set_option maxRecDepth 100000 in
set_option maxHeartbeats 1000000 in
theorem i_FormatMatrix (p R C : Int) (v : Value) (l : List Int) (w : World) (hv : Ints w v l) (hp : PowTab w) :
    Calls Tryd.prog 22 #[.int .i64 p, .agg #[.int .i64 R, .int .i64 C, v]] w (StrAns (foM p R C l) w) := by
  obtain ⟨a, cap, rfl, hl1, hm1⟩ := hv.shape
  have h2 : Below w.heap.size w (w.alloc (.cells #[.int .i64 R, .int .i64 C, .slice a l.length cap] 43)) := (Below.refl _ w).alloc (Nat.le_refl _) _
  have P0 := Lib.hid (Blk.new w #[.int .i64 R, .int .i64 C, .slice a l.length cap] 43)
  have HV := Lib.hid (hv.below h2)
  have H2 := Lib.hid h2
  have HPT := Lib.hid hp
  clear hv h2 hp
  go_enter Tryd.func22, Tryd.ntmps22
  obtain ⟨p0, p1, p2⟩ := blk3 P0.out
  go_wp2_with fail
  refine (i_IsMatrix _ _ _ _ l _ HV.out).mono ?_; rintro e w1 ⟨rfl, b1⟩
  have HB1 := Lib.hid (below_call H2.out b1 H2.out.size)
  have P1 := Lib.hid (P0.out.below b1)
  have HV1 := Lib.hid (HV.out.below b1)
  clear p0 p1 p2 b1
  obtain ⟨p0, p1, p2⟩ := blk3 P1.out
  cases hM : isM p R C l
  · have HR := Lib.hid (foM_no hM)
    go_wp2
    go_ret
    exact ⟨by rw [HR.out]; rfl, HB1.out⟩
  obtain ⟨r0, r8, c0, c8, hlm, hV⟩ := isM_true hM
  have HCD := Lib.hid (cell_dig hM)
  have HE := Lib.hid (foM_ok hM)
  obtain ⟨rr, rfl⟩ := Int.eq_ofNat_of_zero_le r0
  obtain ⟨c, rfl⟩ := Int.eq_ofNat_of_zero_le c0
  have hlen : l.length = rr * c := by rw [← Int.natCast_mul] at hlm; omega
  have hl64 : l.length ≤ 64 := by rw [hlen]; have : rr * c ≤ 8 * 8 := Nat.mul_le_mul (by omega) (by omega); omega
  have hr8 : rr ≤ 8 := by omega
  have hc8 : c ≤ 8 := by omega
  have HLEN := Lib.hid hlen
  have HF1 := Lib.hid (fmS_dig (a := (rr : Int)) (by omega) (by omega))
  have HF2 := Lib.hid (fmS_dig (a := (c : Int)) (by omega) (by omega))
  clear hM hlm hV hlen r8 c8
  go_wp2_with fail
  refine (i_rows rr c _ l w1 HV1.out HLEN.out (by omega) (by omega)).mono ?_; rintro e w2 ⟨vr, rfl, hvr, b2⟩
  have HB2 := Lib.hid (below_call HB1.out b2 HB1.out.size)
  have P2 := Lib.hid (P1.out.below b2)
  obtain ⟨ar, cr, rfl, hlr, hcr⟩ := hvr.shape
  rw [rowsK_len] at hvr hlr ⊢
  have HVR : Hid (Rws w1.heap.size w2 (.slice ar rr cr) (rowsM c l rr)) := hvr
  clear p0 p1 p2 b2 hvr
  obtain ⟨p0, p1, p2⟩ := blk3 P2.out
  go_wp2
  go_loopw [5, 16] (fun sv iv wr => ∃ k : Nat, iv = .int .i64 k ∧ k ≤ rr ∧ Hid (OwnT wr w2.heap.size sv ((rowsM c l k).map dB)) ∧ Hid (Below w2.heap.size w2 wr)) (fun _ iv _ => rr - (intOf iv).toNat)
  case atStart => exact ⟨0, rfl, by omega, OwnT.nil _ _, Below.refl _ _⟩
  case round =>
    obtain ⟨k, rfl, hk, HO, HBW⟩ := hrel
    have P3 := Lib.hid (P2.out.below HBW.out)
    clear p0 p1 p2
    obtain ⟨p0, p1, p2⟩ := blk3 P3.out
    by_cases hlt : k < rr
    · obtain ⟨g, off, u, rfl, hB, hgs, hc, hu, _⟩ := HVR.out.cell (i := k) (by rw [rowsM_len]; exact hlt)
      rw [rowsM_get hlt] at hu
      rw [← HBW.out.cell (p := ⟨g, off + k, none⟩) hgs] at hc
      have hrl : (rowL c k l).length = c := rowL_len HLEN.out hlt
      have hdg : ∀ j, j < (rowL c k l).length → 0 ≤ (rowL c k l).getD j 0 ∧ (rowL c k l).getD j 0 ≤ 9 := fun j hj => by
        rw [rowL_getD c k l (by omega)]
        have hkc : k * c + j < l.length := by
          rw [HLEN.out]
          have : (k + 1) * c ≤ rr * c := Nat.mul_le_mul_right _ hlt
          rw [Nat.add_mul] at this; omega
        have := HCD.out _ hkc
        omega
      have hcon := i_digits u (rowL c k l) wr (hu.below HBW.out) hdg (by omega)
      rw [dB_str] at hcon
      have hsu := rowsM_succ c l k
      obtain ⟨row, hrow⟩ : ∃ row, row = rowL c k l := ⟨_, rfl⟩
      rw [← hrow] at hcon hsu
      have HSU := Lib.hid hsu
      have hi0 : (0 : Int) ≤ (k : Int) := by omega
      have hi1 : (k : Int) < (rr : Int) := by omega
      clear hrl hdg hsu hrow hu
      go_wp2_with fail
      refine hcon.mono ?_; rintro e w3 ⟨rfl, b3⟩
      have HO3 := Lib.hid (HO.out.below b3)
      have HB3 := Lib.hid (HBW.out.trans (b3.mono HBW.out.size))
      clear b3 hcon
      go_wp2_with (at_builtin; refine app_str w2 w3 rfl (.tmp 20) (.tmp 23) rfl w2.heap.size _ _ (dB row) rfl rfl HO3.out HB3.out HB3.out.size (by rw [List.length_map, rowsM_len]; omega) ?_)
      intro v' w4 hv' hb4
      have HO4 : Hid (OwnT w4 w2.heap.size v' ((rowsM c l (k + 1)).map dB)) := by
        rw [HSU.out, List.map_append, List.map_singleton]; exact hv'
      have HB4 := Lib.hid hb4
      clear hv' hb4
      go_wp2
      go_roundw
      case rel => exact ⟨k + 1, by go_num, by omega, HO4, HB4⟩
      case measure => simp [intOf]; omega
    · have hkr : k = rr := by omega
      have hdk : decide (k < rr) = false := by simpa using hlt
      rw [hkr] at HO
      obtain ⟨an, nn, cn, rfl⟩ := HO.out.shape
      obtain ⟨hnn, hpc, hcm, hat⟩ := HO.out.at
      rw [List.length_map, rowsM_len] at hnn hpc hat
      have HAT := Lib.hid hat
      rw [hnn] at HO ⊢
      have HB5 := Lib.hid (HB2.out.trans (HBW.out.mono HB2.out.size))
      have hc1 := Lib.hid (fun wq b => i_FormatInt (rr : Int) (by omega) (by omega) wq (HPT.out.below b))
      have hc2 := Lib.hid (fun wq b => i_FormatInt (c : Int) (by omega) (by omega) wq (HPT.out.below b))
      unfold FmAns at hc1 hc2
      rw [HF1.out] at hc1
      rw [HF2.out] at hc2
      have t1 : ∀ wx : World, (Op.stringOp .add ⟨#[dgB (rr : Int)]⟩ ⟨#[120]⟩).run Tryd.prog wx = .ok (.string ⟨#[dgB (rr : Int), 120]⟩) wx := run_add [dgB (rr : Int)] [120] (by simp)
      have t2 : ∀ wx : World, (Op.stringOp .add ⟨#[dgB (rr : Int), 120]⟩ ⟨#[dgB (c : Int)]⟩).run Tryd.prog wx = .ok (.string ⟨#[dgB (rr : Int), 120, dgB (c : Int)]⟩) wx := run_add [dgB (rr : Int), 120] [dgB (c : Int)] (by simp)
      have t3 : ∀ wx : World, (Op.stringOp .add ⟨#[dgB (rr : Int), 120, dgB (c : Int)]⟩ ⟨#[58]⟩).run Tryd.prog wx = .ok (.string ⟨(preM rr c).toArray⟩) wx := run_add [dgB (rr : Int), 120, dgB (c : Int)] [58] (by simp)
      have HSx := Lib.hid (fun (w' : World) (hb : Below wr.heap.size wr w') => (show w'.cell? ⟨w.heap.size, 0, none⟩ = some (.int .i64 rr) ∧ w'.cell? ⟨w.heap.size, 1, none⟩ = some (.int .i64 c) ∧ w'.cell? ⟨w.heap.size, 2, none⟩ = some (.slice a l.length cap) from ⟨(P3.out.below hb).cell 0, (P3.out.below hb).cell 1, (P3.out.below hb).cell 2⟩))
      clear hnn hat hkr hk hlt
      go_wp2
      go_region_held3 (fun w' => w'.cell? ⟨w.heap.size, 0, none⟩ = some (.int .i64 rr) ∧ w'.cell? ⟨w.heap.size, 1, none⟩ = some (.int .i64 c) ∧ w'.cell? ⟨w.heap.size, 2, none⟩ = some (.slice a l.length cap))
        (first
          | exact HSx.out _ (Below.refl _ _)
          | exact HSx.out _ (Below.refl _ wr).drew
          | exact HSx.out _ (hb3.trans (hb4.mono hb3.size))
          | exact HSx.out _ hb3
          | go_keep)
        (first
          | (go_at_call 39; (with_reducible refine (hc1.out _ HB5.out.drew).mono ?_); rintro e w3 ⟨rfl, hb3⟩; replace hb3 := below_of_drew hb3)
          | (go_at_call 39; (with_reducible refine (hc2.out _ (below_call HB5.out hb3 HB5.out.size)).mono ?_); rintro e w4 ⟨rfl, hb4⟩))
      have b4 := hb3.trans (hb4.mono hb3.size)
      have HB6 := Lib.hid (below_call HB5.out b4 HB5.out.size)
      have P4 := Lib.hid (P3.out.below b4)
      have HO4 := Lib.hid (HO.out.below b4)
      clear hb3 hb4 hc1 hc2 HSx b4 t1 t2 t3 p0 p1 p2
      obtain ⟨p0, p1, p2⟩ := blk3 P4.out
      rcases Nat.eq_zero_or_pos c with h0 | h0
      · have HFIN := Lib.hid (show foM p rr c l = ⟨(preM rr c).toArray⟩ by
          have hl0 : l.length = 0 := by rw [HLEN.out, h0, Nat.mul_zero]
          rw [HE.out]; unfold mtB; rw [hl0]; simp [mtC, preM])
        have hd : decide (0 < c) = false := by simp; omega
        clear h0
        go_wp2
        go_ret
        exact ⟨by rw [HFIN.out]; rfl, HB6.out⟩
      · have hd : decide (0 < c) = true := by simpa using h0
        have HJ := Lib.hid (mt_join h0 HLEN.out rr (Nat.le_refl _))
        have hjl : (Lib.join ((rowsM c l rr).map dB) [47]).length ≤ 200 := by rw [HJ.out]; have := mtC_len c l (rr * c); rw [← HLEN.out] at this ⊢; omega
        have HFIN := Lib.hid (show foM p rr c l = ⟨(preM rr c ++ Lib.join ((rowsM c l rr).map dB) [47]).toArray⟩ by
          rw [HE.out, HJ.out]; unfold mtB; rw [HLEN.out]; rfl)
        generalize hJn : Lib.join ((rowsM c l rr).map dB) [47] = J at *
        have HJn := Lib.hid hJn
        have tj : ∀ wx : World, (Op.stringOp .add ⟨(preM rr c).toArray⟩ ⟨J.toArray⟩).run Tryd.prog wx = .ok (.string ⟨(preM rr c ++ J).toArray⟩) wx := run_add (preM rr c) J (by simp [preM]; omega)
        have hcon : Calls Tryd.prog 47 #[.slice an rr cn, .string ⟨#[47]⟩] w4 fun e w' => e = .returned (.string ⟨J.toArray⟩) ∧ Below w4.heap.size w4 w' := by
          have := join_texts ((rowsM c l rr).map dB) an rr cn [47] w4 w2.heap.size HO4.out (by rw [List.length_map, rowsM_len]; omega) (by rw [HJn.out]; omega)
          rw [HJn.out] at this; exact this
        clear hJn h0
        go_wp2_with fail
        refine hcon.mono ?_; rintro e w5 ⟨rfl, b5⟩
        have HB7 := Lib.hid (below_call HB6.out b5 HB6.out.size)
        clear b5 hcon
        go_wp2
        go_ret
        exact ⟨by rw [HFIN.out]; rfl, HB7.out⟩
end Go.Proofs.YtdmjikfjmimfmaaDoor
