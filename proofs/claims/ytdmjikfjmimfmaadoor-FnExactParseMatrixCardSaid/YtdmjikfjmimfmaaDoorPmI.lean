/- ParseMatrix of the program: its walk. -/
import Derived.Test.YtdmjikfjmimfmaaDoorPmS
import Derived.Test.YtdmjikfjmimfmaaDoorFmI
import Derived.Test.YtdmjikfjmimfmaaDoorPi
namespace Go.Proofs.YtdmjikfjmimfmaaDoor
open Go.RowKit
set_option linter.unusedVariables false
set_option linter.unusedSimpArgs false
/-- what the program's library variables hold -/
def DoorM (w : World) : Prop := PowTab w ∧ (∃ m, w.cell? ⟨0, 0, none⟩ = some (.int .i64 m)) ∧ (∃ te pe, w.cell? ⟨1, 0, none⟩ = some (.iface te pe)) ∧ ∃ te pe, w.cell? ⟨2, 0, none⟩ = some (.iface te pe)
theorem DoorM.below {w w' : World} (h : DoorM w) {B : Nat} (b : Below B w w') (hB : w.heap.size ≤ B) : DoorM w' := by
  obtain ⟨h1, ⟨m, h2⟩, ⟨a, c, h3⟩, d, e, h4⟩ := h
  have k : ∀ (q : Addr) v, w.cell? q = some v → w'.cell? q = some v := fun q v hq => by
    rw [b.cell (p := q) (Nat.lt_of_lt_of_le (World.block_lt_of_cell? w q hq) hB)]; exact hq
  exact ⟨h1.below (b.mono hB), ⟨m, k _ _ h2⟩, ⟨a, c, k _ _ h3⟩, d, e, k _ _ h4⟩
theorem cut_len (l sep : List UInt8) : (Lib.cut l sep).1.length ≤ l.length ∧ (Lib.cut l sep).2.1.length ≤ l.length := by
  unfold Lib.cut
  split
  · exact ⟨by simp only [List.length_take]; omega, by simp only [List.length_drop]; omega⟩
  · simp
theorem mk_size (l : List UInt8) : (⟨l.toArray⟩ : ByteArray).size = l.length := by show l.toArray.size = _; simp
theorem below_drewN0 {w : World} (n : Nat) : Below w.heap.size w (w.drewN n) := below_drewN (Below.refl _ w) n
set_option maxRecDepth 100000 in
set_option maxHeartbeats 4000000 in
theorem i_ParseMatrix (p : Int) (s : ByteArray) (w : World) (hs : s.size ≤ 1048576) (hd : DoorM w) :
    Calls Tryd.prog 31 #[.int .i64 p, .string s] w (MatOK (pmR p s) (pmC p s) (pmL p s) (pmB p s) w) := by
  have HD := Lib.hid hd
  clear hd
  have hb0 : Below w.heap.size w (w.alloc (.cells #[.int .i64 0, .int .i64 0, .slice none 0 0] 43)) := (Below.refl _ w).alloc (Nat.le_refl _) _
  have HR0 := Lib.hid (Blk.new w #[.int .i64 0, .int .i64 0, .slice none 0 0] 43)
  obtain ⟨W0, hW0⟩ : ∃ W0, W0 = w.alloc (.cells #[.int .i64 0, .int .i64 0, .slice none 0 0] 43) := ⟨_, rfl⟩
  have hsz0 : W0.heap.size = w.heap.size + 1 := by rw [hW0]; simp
  rw [← hW0] at hb0 HR0
  have HW0 := Lib.hid hW0
  have hD0 : DoorM W0 := HD.out.below hb0 (Nat.le_refl _)
  obtain ⟨m0, hm0⟩ := hD0.2.1
  have hcut1 := Tryd.strings_Cut s ⟨#[58]⟩ m0 W0 (by omega) hm0
  have hls : s.data.toList.length = s.size := rfl
  have z1 := cut_len s.data.toList [58]
  have hsh : (hdP s).size ≤ 1048576 := by unfold hdP; rw [mk_size]; omega
  have z2 := cut_len (hdP s).data.toList [120]
  have hlh : (hdP s).data.toList.length = (hdP s).size := rfl
  have hsl : (lfP s).size ≤ 1048576 := by unfold lfP; rw [mk_size]; omega
  have hsr : (rtP s).size ≤ 1048576 := by unfold rtP; rw [mk_size]; omega
  have hsb : (boP s).size ≤ 1048576 := by unfold boP; rw [mk_size]; omega
  have HB0 := Lib.hid hb0
  have HD0 := Lib.hid hD0
  have HM0 := Lib.hid hm0
  clear hb0 hD0 hm0 z1 z2 hls hlh hW0
  have hcut1 : Calls Tryd.prog 52 #[.string s, .string ⟨#[58]⟩] W0 fun e w' => e = .returned (.tuple #[.string (hdP s), .string (boP s), .bool (Lib.cut s.data.toList [58]).2.2]) ∧ ∃ n, w' = W0.drewN n := hcut1
  go_enter Tryd.func31, Tryd.ntmps31
  go_wp2_with fail
  rw [← HW0.out]
  refine hcut1.mono ?_; rintro e w' ⟨rfl, n1, rfl⟩
  have hcut2 := Tryd.strings_Cut (hdP s) ⟨#[120]⟩ m0 (W0.drewN n1) (by omega) HM0.out
  have hcut2 : Calls Tryd.prog 52 #[.string (hdP s), .string ⟨#[120]⟩] (W0.drewN n1) fun e w' => e = .returned (.tuple #[.string (lfP s), .string (rtP s), .bool (Lib.cut (hdP s).data.toList [120]).2.2]) ∧ ∃ n, w' = (W0.drewN n1).drewN n := hcut2
  clear hcut1
  go_wp2_with fail
  refine hcut2.mono ?_; rintro e w' ⟨rfl, n2, rfl⟩
  obtain ⟨W1, hW1⟩ : ∃ W1, W1 = (W0.drewN n1).drewN n2 := ⟨_, rfl⟩
  have HB1 : Hid (Below w.heap.size w W1) := by rw [hW1]; exact below_drewN (below_drewN HB0.out n1) n2
  have HR1 : Hid (Blk W1 w.heap.size #[.int .i64 0, .int .i64 0, .slice none 0 0] 43) := by rw [hW1]; exact HR0.out
  have hsz1 : w.heap.size + 1 ≤ W1.heap.size := by
    have e : W1.heap.size = W0.heap.size := by rw [hW1]; rfl
    omega
  rw [← hW1]
  have hbA : Below W1.heap.size W1 (W1.alloc (.cells #[.int .i64 0, .int .i64 0, .slice none 0 0] 43)) := (Below.refl _ W1).alloc (Nat.le_refl _) _
  have HM2 := Lib.hid (Blk.new W1 #[.int .i64 0, .int .i64 0, .slice none 0 0] 43)
  have HB2 := Lib.hid (HB1.out.trans (hbA.mono HB1.out.size))
  have HR2 := Lib.hid (HR1.out.below hbA)
  have hD2 := HD.out.below HB2.out (Nat.le_refl _)
  obtain ⟨hp2, _, ⟨te1, pe1, hc1⟩, te2, pe2, hc2⟩ := hD2
  have hpi := i_ParseInt (lfP s) _ hsl hp2 te1 te2 pe1 pe2 hc1 hc2
  unfold PiAns at hpi
  have HPI := Lib.hid hpi
  clear hcut2 hbA hp2 hc1 hc2 hpi hW1 hsz0 hsh
  obtain ⟨R, hR⟩ : ∃ R, R = pvV (lfP s) := ⟨_, rfl⟩
  obtain ⟨C, hC⟩ : ∃ C, C = pvV (rtP s) := ⟨_, rfl⟩
  rw [← hR] at HPI
  have HRC := Lib.hid (And.intro hR hC)
  go_wp2_with fail
  refine HPI.out.mono ?_; rintro e w3 ⟨rfl, b3⟩
  have HM3 := Lib.hid (HM2.out.below b3)
  have HB3 := Lib.hid (below_call HB2.out b3 HB2.out.size)
  have HR3 := Lib.hid (HR2.out.below b3)
  obtain ⟨c0, c1, c2⟩ := blk3 HM3.out
  have f0 := HM3.out.frozen 0
  obtain ⟨W4, hW4⟩ : ∃ W4, W4 = w3.setCell ⟨W1.heap.size, 0, none⟩ (.int .i64 R) := ⟨_, rfl⟩
  have HM4 : Hid (Blk W4 W1.heap.size #[.int .i64 R, .int .i64 0, .slice none 0 0] 43) := by rw [hW4]; exact HM3.out.set 0 (.int .i64 R)
  have HR4 : Hid (Blk W4 w.heap.size #[.int .i64 0, .int .i64 0, .slice none 0 0] 43) := by rw [hW4]; exact HR3.out.setOther (p := ⟨W1.heap.size, 0, none⟩) (show w.heap.size ≠ W1.heap.size by omega) _
  have HB4 : Hid (Below w.heap.size w W4) := by rw [hW4]; exact HB3.out.setCell (p := ⟨W1.heap.size, 0, none⟩) (show w.heap.size ≤ W1.heap.size by omega) _
  have hD4 := HD.out.below HB4.out (Nat.le_refl _)
  obtain ⟨hp4, _, ⟨te3, pe3, hc3⟩, te4, pe4, hc4⟩ := hD4
  have hpi2 := i_ParseInt (rtP s) W4 hsr hp4 te3 te4 pe3 pe4 hc3 hc4
  unfold PiAns at hpi2
  rw [← hC] at hpi2
  have HPI2 := Lib.hid hpi2
  have HW4 := Lib.hid hW4
  clear hp4 hc3 hc4 hpi2 hW4 b3 hR hC HPI
  go_wp2_with fail
  rw [← HW4.out]
  refine HPI2.out.mono ?_; rintro e w5 ⟨rfl, b5⟩
  clear c0 c1 c2 f0
  have HM5 := Lib.hid (HM4.out.below b5)
  have HR5 := Lib.hid (HR4.out.below b5)
  have HB5 := Lib.hid (below_call HB4.out b5 HB4.out.size)
  obtain ⟨c0, c1, c2⟩ := blk3 HM5.out
  have f1 := HM5.out.frozen 1
  obtain ⟨W6, hW6⟩ : ∃ W6, W6 = w5.setCell ⟨W1.heap.size, 1, none⟩ (.int .i64 C) := ⟨_, rfl⟩
  have Q0 : Hid (MG w w.heap.size W1.heap.size W6.heap.size R C (.slice none 0 0) (.slice none 0 0) [] W6) := by
    have hB6 : Below w.heap.size w W6 := by rw [hW6]; exact HB5.out.setCell (p := ⟨W1.heap.size, 1, none⟩) (show w.heap.size ≤ W1.heap.size by omega) _
    refine ⟨by rw [hW6]; exact HM5.out.set 1 (.int .i64 C), ⟨_, _, _, by rw [hW6]; exact HR5.out.setOther (p := ⟨W1.heap.size, 1, none⟩) (show w.heap.size ≠ W1.heap.size by omega) _⟩, Own.nil _ _ _ _, fun k hk => (by simp [Value.ownBlock] at hk), hB6, Nat.le_refl _, by omega, by omega, hB6.size⟩
  have HW6 := Lib.hid hW6
  clear hW6 b5
  go_upto_region 6 with fail
  rw [← HW6.out]
  clear f1 c0 c1 c2
  by_cases h72 : (boP s).size ≤ 72
  · have hd72 : decide ((72 : Int) < ((boP s).size : Int)) = false := by simp; omega
    obtain ⟨d, hdd⟩ : ∃ d, d = boP s := ⟨_, rfl⟩
    rw [← hdd] at h72 hd72 hsb ⊢
    have HDD := Lib.hid hdd
    clear hdd
    obtain ⟨b, hb⟩ : ∃ b, b = W1.heap.size := ⟨_, rfl⟩
    obtain ⟨B, hB⟩ : ∃ B, B = W6.heap.size := ⟨_, rfl⟩
    have hBb : w.heap.size + 1 ≤ b := by omega
    have hBB : w.heap.size ≤ B := by rw [hB]; exact Q0.out.2.2.2.2.1.size
    have hBw : w.heap.size + 1 ≤ B := by
      have h1 := Q0.out.1.lt
      omega
    rw [← hb, ← hB] at Q0
    rw [← hb]
    clear hb hB
    go_wp2
    go_loopw [44] (fun iv wr => ∃ (k : Nat) (v : Value), iv = .int .i64 k ∧ k ≤ d.size ∧ Hid (MG w w.heap.size b B R C v v (cB (d.data.toList.take k)) wr)) (fun iv _ => d.size - (intOf iv).toNat)
    case atStart => exact ⟨0, _, rfl, by omega, Q0⟩
    case round =>
      obtain ⟨k, v, rfl, hk, HQ⟩ := hrel
      by_cases hlt : k < d.size
      · have hy := d[k].toNat_lt
        have hll : d.data.toList.length = d.size := rfl
        have htk : d.data.toList.take (k + 1) = d.data.toList.take k ++ [d[k]] := by
          rw [List.take_succ_eq_append_getElem (by omega)]; rfl
        have hcl : (cB (d.data.toList.take k)).length ≤ 90 := Nat.le_trans (cB_len _) (by rw [List.length_take]; omega)
        have HTK := Lib.hid htk
        clear htk hll
        obtain ⟨u0, u1, u2⟩ := blk3 HQ.out.1
        have hf2 := HQ.out.1.frozen 2
        have i0 : (0 : Int) ≤ (k : Int) := by omega
        have i1 : (k : Int) < (d.size : Int) := by omega
        by_cases h47 : d[k] = 47
        · have hn : ((d[k].toNat : Int) != 47) = false := by rw [h47]; rfl
          have HQ2 : Hid (MG w w.heap.size b B R C v v (cB (d.data.toList.take (k + 1))) wr) := by
            rw [HTK.out, h47, cB_app, cB_no, List.append_nil]; exact HQ
          clear h47
          go_wp2
          go_roundw
          case rel => exact ⟨k + 1, v, by go_num, by omega, HQ2⟩
          case measure => simp [intOf]; omega
        · have hn : ((d[k].toNat : Int) != 47) = true := by
            rw [bne_iff_ne]; intro e
            exact h47 (by rw [← UInt8.toNat_inj]; show d[k].toNat = 47; omega)
          have HBS := Lib.hid (show cB (d.data.toList.take (k + 1)) = cB (d.data.toList.take k) ++ [(d[k].toNat : Int) - 48] by rw [HTK.out, cB_app, cB_yes h47])
          have e1 : IntKind.i64.wrap (d[k].toNat : Int) = (d[k].toNat : Int) := IntWalk.i64_in _ (by omega)
          have e2 : IntKind.i64.wrap ((d[k].toNat : Int) - 48) = (d[k].toNat : Int) - 48 := IntWalk.i64_in _ (by omega)
          have hld := (HQ.out.1.below ((Below.refl _ wr).alloc (Nat.le_refl _) (.cells #[.int .i64 ((d[k].toNat : Int) - 48)] 3))).cell 2
          simp only [List.getElem?_toArray, List.getElem?_cons_succ, List.getElem?_cons_zero] at hld
          obtain ⟨L, hL⟩ : ∃ L, L = cB (d.data.toList.take k) := ⟨_, rfl⟩
          rw [← hL] at HQ HBS hcl
          clear h47 hL
          go_wp2
          go_region_law (first | (refine step_app_m wr (by rfl) (.tmp 52) (.tmp 58) (by rfl) (by rfl) (by rfl) HQ.out (by omega) ?_; intro v1 w1 hq1; obtain ⟨aa1, ac1, rfl, _, _⟩ := (Ints.of_own hq1.2.2.1).1.shape; simp only [List.length_append, List.length_singleton] at hq1; obtain ⟨c0, c1, c2⟩ := blk3 hq1.1; have f2 := hq1.1.frozen 2))
          all_goals
            have hq2 := hq1.store
            clear hq1 c0 c1 c2 f2 u0 u1 u2 hf2 e1 e2 hld
            rw [← HBS.out] at hq2
            generalize w1.setCell { block := b, off := 2 } (Value.slice aa1 (L.length + 1) ac1) = W2 at hq2 ⊢
            have HQ2 := Lib.hid hq2
            clear hq2
            go_wp2
            go_roundw
            case rel => exact ⟨k + 1, _, by go_num, by omega, HQ2⟩
            case measure => simp [intOf]; omega
      · skip
        have hdk : decide (k < d.size) = false := by simpa using hlt
        have hks : k = d.size := by omega
        have htk : d.data.toList.take k = (boP s).data.toList := by rw [List.take_of_length_le (by have e : d.data.toList.length = d.size := rfl; omega), HDD.out]
        rw [htk] at HQ
        obtain ⟨l, hl⟩ : ∃ l, l = cB (boP s).data.toList := ⟨_, rfl⟩
        rw [← hl] at HQ
        have HL := Lib.hid hl
        clear hl htk
        by_cases hse : s.size = 0
        · have hno : ∀ R C l, ¬ SaysM p s.data.toList R C l := fun R C l h => (saysM_cut h).2.2.2.2 (str_empty hse)
          have HE := Lib.hid (pm_no hno)
          have hem2 : s.toList = [] := by rw [Lib.toList_data, str_empty hse]
          have hem : s.toList.isEmpty = true := by rw [hem2]; rfl
          have hR := HQ.out.2.1
          have HX := Lib.hid (And.intro (hR.blk_set (.int .i64 0) (.int .i64 0) (.slice none 0 0)) (set3_below HQ.out.2.2.2.2.1 (b := w.heap.size) (by omega) (.int .i64 0) (.int .i64 0) (.slice none 0 0)))
          obtain ⟨x0, x1, x2, q0, q1, q2, t0, t1, t2⟩ := hR.open_
          clear hno hse hR hks
          unfold set3 at HX
          go_wp2
          refine bodyPost_ret (v := .tuple #[.agg #[.int .i64 0, .int .i64 0, .slice none 0 0], .bool false]) (by simp [results, Tryd.results31, go_sem, HX.out.1.cell 0, HX.out.1.cell 1, HX.out.1.cell 2]) rfl ?_
          exact MatOK.of_eq2 ⟨_, rfl, Ints.nil _, FreshV.nil _, HX.out.2⟩ HE.out.1.symm HE.out.2.1.symm HE.out.2.2.1.symm HE.out.2.2.2.symm
        have hne := str_ne (show 0 < s.size by omega)
        have hne2 : s.toList.isEmpty = false := by simpa using hne
        have hs0 : s ≠ ⟨#[]⟩ := fun e => hse (by rw [e]; rfl)
        obtain ⟨u0, u1, u2⟩ := blk3 HQ.out.1
        obtain ⟨i1, f1⟩ := Ints.of_own HQ.out.2.2.1
        obtain ⟨ac, cc, rfl, hlc, hmc⟩ := i1.shape
        have HJ := Lib.hid (And.intro i1 f1)
        have hcon := i_FormatMatrix p R C _ l wr i1 (HD.out.below HQ.out.2.2.2.2.1 (Nat.le_refl _)).1
        obtain ⟨tx, htx⟩ : ∃ tx, tx = foM p R C l := ⟨_, rfl⟩
        rw [← htx] at hcon
        have HQB := Lib.hid HQ.out
        by_cases heq : tx = s
        · have hsay : SaysM p s.data.toList R C l := foM_says hs0 (by rw [← htx]; exact heq)
          have HE := Lib.hid (pm_yes hsay)
          clear i1 f1 htx hsay hks hs0 hk hlt hse
          subst heq
          go_wp2_with fail
          refine hcon.mono ?_; rintro e w2 ⟨rfl, b2⟩
          have hbw := HQB.out.2.2.2.2.1
          have hbb := (hbw.trans (b2.mono hbw.size))
          obtain ⟨u0, u1, u2⟩ := blk3 (HQB.out.1.below b2)
          have hR1 := HQB.out.2.1.below b2
          obtain ⟨x0, x1, x2, q0, q1, q2, t0, t1, t2⟩ := hR1.open_
          have hne1 : ∀ q, blk (.slice ac l.length cc) = some q → q ≠ w.heap.size := fun q hq => by have := HJ.out.2 q hq; omega
          have HX := Lib.hid (And.intro (hR1.blk_set (.int .i64 R) (.int .i64 C) (.slice ac l.length cc))
            (And.intro (set3_ints (HJ.out.1.below b2) hne1 (.int .i64 R) (.int .i64 C) (.slice ac l.length cc))
            (set3_below hbb (b := w.heap.size) (by omega) (.int .i64 R) (.int .i64 C) (.slice ac l.length cc))))
          clear hbw hbb hR1 hne1 b2 hcon
          unfold set3 at HX
          go_wp2
          refine bodyPost_ret (v := .tuple #[.agg #[.int .i64 R, .int .i64 C, .slice ac l.length cc], .bool true]) (by simp [results, Tryd.results31, go_sem, HX.out.1.cell 0, HX.out.1.cell 1, HX.out.1.cell 2]) rfl ?_
          exact MatOK.of_eq2 ⟨_, rfl, HX.out.2.1, HJ.out.2.mono (by omega), HX.out.2.2⟩ HE.out.1.symm HE.out.2.1.symm HE.out.2.2.1.symm HE.out.2.2.2.symm
        · have hno : ∀ R C l, ¬ SaysM p s.data.toList R C l := fun R' C' l' h => by
            obtain ⟨_, g1, g2, g3, _⟩ := saysM_cut h
            have := ((saysM_iff p s R' C' l').1 h).2
            rw [← g1, ← g2, ← g3, ← HRC.out.1, ← HRC.out.2, ← HL.out, ← htx] at this
            exact heq this
          have HE := Lib.hid (pm_no hno)
          have hcmp := str_beq heq
          clear i1 f1 htx hno heq hks hs0 hk hlt hse
          go_wp2_with fail
          refine hcon.mono ?_; rintro e w2 ⟨rfl, b2⟩
          have hbw := HQB.out.2.2.2.2.1
          have hbb := (hbw.trans (b2.mono hbw.size))
          obtain ⟨u0, u1, u2⟩ := blk3 (HQB.out.1.below b2)
          have hR1 := HQB.out.2.1.below b2
          obtain ⟨x0, x1, x2, q0, q1, q2, t0, t1, t2⟩ := hR1.open_
          have HX := Lib.hid (And.intro (hR1.blk_set (.int .i64 0) (.int .i64 0) (.slice none 0 0)) (set3_below hbb (b := w.heap.size) (by omega) (.int .i64 0) (.int .i64 0) (.slice none 0 0)))
          clear hbw hbb hR1 b2 hcon
          unfold set3 at HX
          go_wp2
          refine bodyPost_ret (v := .tuple #[.agg #[.int .i64 0, .int .i64 0, .slice none 0 0], .bool false]) (by simp [results, Tryd.results31, go_sem, HX.out.1.cell 0, HX.out.1.cell 1, HX.out.1.cell 2]) rfl ?_
          exact MatOK.of_eq2 ⟨_, rfl, Ints.nil _, FreshV.nil _, HX.out.2⟩ HE.out.1.symm HE.out.2.1.symm HE.out.2.2.1.symm HE.out.2.2.2.symm
  · have hd72 : decide ((72 : Int) < ((boP s).size : Int)) = true := by simp; omega
    have hno : ∀ R C l, ¬ SaysM p s.data.toList R C l := fun R C l h => h72 (saysM_cut h).1
    have HE := Lib.hid (pm_no hno)
    have hR := Q0.out.2.1
    have HX := Lib.hid (And.intro (hR.blk_set (.int .i64 0) (.int .i64 0) (.slice none 0 0)) (set3_below Q0.out.2.2.2.2.1 (b := w.heap.size) (by omega) (.int .i64 0) (.int .i64 0) (.slice none 0 0)))
    clear hno h72 hR
    unfold set3 at HX
    obtain ⟨x0, x1, x2, q0, q1, q2, t0, t1, t2⟩ := Q0.out.2.1.open_
    go_wp2
    refine bodyPost_ret (v := .tuple #[.agg #[.int .i64 0, .int .i64 0, .slice none 0 0], .bool false]) (by simp [results, Tryd.results31, go_sem, HX.out.1.cell 0, HX.out.1.cell 1, HX.out.1.cell 2]) rfl ?_
    exact MatOK.of_eq2 ⟨_, rfl, Ints.nil _, FreshV.nil _, HX.out.2⟩ HE.out.1.symm HE.out.2.1.symm HE.out.2.2.1.symm HE.out.2.2.2.symm
end Go.Proofs.YtdmjikfjmimfmaaDoor
