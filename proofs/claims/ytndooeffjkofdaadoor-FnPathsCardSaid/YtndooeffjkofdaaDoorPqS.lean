/- ParseQuiver of the reference: its walk. -/
import Derived.Test.YtndooeffjkofdaaDoorMg5
import Derived.Test.YtndooeffjkofdaaDoorPqI
import Derived.Deep.CutRange
namespace Go.Proofs.YtndooeffjkofdaaDoor
open Go.RowKit
set_option linter.unusedVariables false
set_option linter.unusedSimpArgs false
theorem strV_str (b : List UInt8) : ∃ A : ByteArray, strV b = .string A ∧ A.data.toList = b ∧ A.size = b.length := ⟨⟨b.toArray⟩, rfl, by simp, by show b.toArray.size = b.length; simp⟩
theorem cutL_pos (b : List UInt8) : 0 < (cutL b).length := by unfold cutL; simp
theorem cutF_le (b : List UInt8) : (cutF b).1.length ≤ b.length := by
  have : ∀ k, k ≤ b.length → (cutF (b.take k)).1.length ≤ k := by
    intro k
    induction k with
    | zero => intro _; simp [cutF]
    | succ k ih =>
      intro hk
      rw [cutF_succ (by omega)]
      have := ih (by omega)
      unfold cutStep
      split
      · simp; omega
      · simp only; omega
  have h := this b.length (Nat.le_refl _)
  rwa [List.take_length] at h
set_option maxRecDepth 100000 in
set_option maxHeartbeats 4000000 in
theorem s_ParseQuiver (s : ByteArray) (w : World) (hs : s.size ≤ 1048576) :
    Calls Tryd.prog 64 #[.string s] w (QuivOK (parN s) (parF s) (parT s) (parB s) w) := by
  have hb0 : Below w.heap.size w (w.alloc (.cells #[.int .i64 0, .slice none 0 0, .slice none 0 0] 26)) := (Below.refl _ w).alloc (Nat.le_refl _) _
  have HB0 := Lib.hid hb0
  have HR0 := Lib.hid (Blk.new w #[.int .i64 0, .slice none 0 0, .slice none 0 0] 26)
  have hlen : s.data.toList.length = s.size := rfl
  obtain ⟨p, hp⟩ : ∃ p, p = cutL s.data.toList := ⟨_, rfl⟩
  have hp0 : 0 < p.length := by rw [hp]; exact cutL_pos _
  have hpl : p.length ≤ 1048577 := by rw [hp]; unfold cutL; have := cutF_le s.data.toList; simp; omega
  have HP := Lib.hid hp
  have hcut := s_l6Cut s (w.alloc (.cells #[.int .i64 0, .slice none 0 0, .slice none 0 0] 26)) hs
  rw [← hp] at hcut
  clear hp hb0 hlen
  go_enter Tryd.func64, Tryd.ntmps64
  go_wp2_with fail
  refine hcut.mono ?_; rintro e w1 ⟨v, rfl, hv, b1⟩
  have HV := Lib.hid hv
  have HB1 := Lib.hid (HB0.out.trans (b1.mono HB0.out.size))
  have HR1 := Lib.hid (HR0.out.below b1)
  have hwl : w.heap.size + 1 ≤ w1.heap.size := by have := b1.size; simpa using this
  obtain ⟨av, nv, cv, rfl⟩ : ∃ a n c, v = .slice a n c := by
    rcases hv.2 with ⟨e, _⟩ | ⟨g, cap, cur, e, _⟩ <;> exact ⟨_, _, _, e⟩
  obtain ⟨rfl, hpc, hcm, hat⟩ := hv.at
  obtain ⟨g, rfl, hg1, hg2, -⟩ := hat 0 hp0
  have HAT : Hid (∀ i, i < p.length → w1.cell? ⟨g, i, none⟩ = some (strV (p.getD i []))) := fun i hi => by
    obtain ⟨g', e, _, _, h⟩ := hat i hi
    simp only [Option.some.injEq, Addr.mk.injEq, and_true] at e
    rw [e]; exact h
  obtain ⟨A, hA, hAl, hAs⟩ := strV_str (p.getD 0 [])
  have hc0 := HAT.out 0 hp0
  rw [hA] at hc0
  have HAL := Lib.hid hAl
  have HAS := Lib.hid hAs
  clear hat hv b1 hcut hAl hAs hA
  obtain ⟨r0, r1, r2⟩ := blk3 HR1.out
  have g0 := HR1.out.frozen 0; have g1 := HR1.out.frozen 1; have g2 := HR1.out.frozen 2
  have HZ := Lib.hid (And.intro (set3_blk HR1.out (.int .i64 0) (.slice none 0 0) (.slice none 0 0)) (set3_below HB1.out (b := w.heap.size) (by omega) (.int .i64 0) (.slice none 0 0) (.slice none 0 0)))
  unfold set3 at HZ
  by_cases h2 : A.size = 2
  · by_cases h30 : s.size ≤ 30
    · have hn1 : ((A.size : Int) != 2) = false := by simp; omega
      have hn2 : decide ((30 : Int) < (s.size : Int)) = false := by simp; omega
      have hA0 : 0 < A.size := by omega
      have hby := A[0].toNat_lt
      have hbn := Lib.hid (bN_get A 0 hA0)
      go_wp2
      obtain ⟨n, hn⟩ : ∃ n, n = (A[0].toNat : Int) - 48 := ⟨_, rfl⟩
      rw [← hn]
      have HN := Lib.hid hn
      have hnb : bN (p.getD 0 []) 0 = n := by rw [← HAL.out, hbn.out, hn]
      have HNB := Lib.hid hnb
      clear hn hby hnb r0 r1 r2 g0 g1 g2
      have bE2 : Below w1.heap.size w1 ((w1.alloc (.cells #[] 3)).alloc (.cells #[] 3)) := ((Below.refl _ w1).alloc (Nat.le_refl _) _).alloc (by simp) _
      obtain ⟨b, hb⟩ : ∃ b, b = w1.heap.size + 1 + 1 := ⟨_, rfl⟩
      rw [← hb]
      have hbge : w1.heap.size + 2 ≤ b := by omega
      have HBQ := Lib.hid hb
      clear hb
      have Q0 : Hid (QG w1 w.heap.size b w1.heap.size n (.slice (some ⟨w1.heap.size, 0, none⟩) 0 0) (.slice (some ⟨w1.heap.size + 1, 0, none⟩) 0 0) (.slice (some ⟨w1.heap.size, 0, none⟩) 0 0) (.slice (some ⟨w1.heap.size + 1, 0, none⟩) 0 0) [] []
          (((w1.alloc (.cells #[] 3)).alloc (.cells #[] 3)).alloc (.cells #[.int .i64 n, .slice (some ⟨w1.heap.size, 0, none⟩) 0 0, .slice (some ⟨w1.heap.size + 1, 0, none⟩) 0 0] 26))) := by
        refine ⟨?_, ?_, (((Own.made w1 3 .i64 (Nat.le_refl _)).alloc _).alloc _), ?_, fun k hk => ?_, ?_, by simp; omega, fun k hk => ?_, fun k hk => ?_, by omega, by omega, by omega⟩
        · rw [HBQ.out]
          have := Blk.new ((w1.alloc (.cells #[] 3)).alloc (.cells #[] 3)) #[.int .i64 n, .slice (some ⟨w1.heap.size, 0, none⟩) 0 0, .slice (some ⟨w1.heap.size + 1, 0, none⟩) 0 0] 26
          simpa using this
        · exact ⟨_, _, _, (HR1.out.below bE2).below ((Below.refl _ _).alloc (Nat.le_refl _) _)⟩
        · have := ((Own.made (w1.alloc (.cells #[] 3)) (B := w1.heap.size) 3 .i64 (by simp)).alloc (.cells #[.int .i64 n, .slice (some ⟨w1.heap.size, 0, none⟩) 0 0, .slice (some ⟨w1.heap.size + 1, 0, none⟩) 0 0] 26))
          rwa [World.size_alloc] at this
        · simp [Value.ownBlock] at hk ⊢; omega
        · exact bE2.alloc (by simp; omega) _
        · simp [Value.ownBlock] at hk; omega
        · simp [Value.ownBlock] at hk; omega
      clear bE2
      have HP0 : Hid (∀ j, j < 0 + 1 → (p.getD j []).length = 2) := fun j hj => by
        obtain rfl : j = 0 := by omega
        rw [← HAS.out]; exact h2
      go_loopw [6] (fun iv wr => ∃ (k : Nat) (vf vt : Value), iv = .int .i64 ((k + 1 : Nat) : Int) ∧ k + 1 ≤ p.length ∧ Hid (∀ j, j < k + 1 → (p.getD j []).length = 2) ∧ Hid (QG w1 w.heap.size b w1.heap.size n vf vt vf vt (pE p 0 k) (pE p 1 k) wr)) (fun iv _ => p.length - (intOf iv).toNat)
      case atStart => exact ⟨0, _, _, rfl, by omega, HP0, Q0⟩
      case round =>
        obtain ⟨k, vf, vt, rfl, hk, HPC, HQ⟩ := hrel
        obtain ⟨i, hi⟩ : ∃ i, i = k + 1 := ⟨_, rfl⟩
        rw [← hi] at hk HPC ⊢
        have HI := Lib.hid hi
        clear hi
        by_cases hlt : i < p.length
        · obtain ⟨D, hD, hDl, hDs⟩ := strV_str (p.getD i [])
          have hc := HAT.out i hlt
          rw [hD, ← HQ.out.2.2.2.2.2.1.cell (p := ⟨g, i, none⟩) hg1] at hc
          have HD := Lib.hid hD
          have HDL := Lib.hid hDl
          have HDS := Lib.hid hDs
          have hi0 : (0 : Int) ≤ (i : Int) := by omega
          have hi1 : (i : Int) < (p.length : Int) := by omega
          clear hD hDl hDs
          by_cases hd2 : D.size = 2
          · have hdn : ((D.size : Int) != 2) = false := by simp; omega
            have hD0 : 0 < D.size := by omega
            have hD1 : 1 < D.size := by omega
            have hz1 := D[0].toNat_lt
            have hz2 := D[1].toNat_lt
            have HB := Lib.hid (And.intro (bN_get D 0 hD0) (bN_get D 1 hD1))
            obtain ⟨u0, u1, u2⟩ := blk3 HQ.out.1
            have hf1 := HQ.out.1.frozen 1
            go_upto_region 10 with fail
            go_cut [] from 29 to 65 (fun wx => ∃ v1, Hid (QG w1 w.heap.size b w1.heap.size n v1 vt v1 vt (pE p 0 i) (pE p 1 k) wx))
            case first =>
              have e1 : IntKind.i64.wrap (D[0].toNat : Int) = (D[0].toNat : Int) := IntWalk.i64_in _ (by omega)
              have e2 : IntKind.i64.wrap ((D[0].toNat : Int) - 48) = (D[0].toNat : Int) - 48 := IntWalk.i64_in _ (by omega)
              have hld := (HQ.out.1.below ((Below.refl _ wr).alloc (Nat.le_refl _) (.cells #[.int .i64 ((D[0].toNat : Int) - 48)] 3))).cell 1
              simp only [List.getElem?_toArray, List.getElem?_cons_succ, List.getElem?_cons_zero] at hld
              go_region_law (first | (refine step_app_q1 wr (by rfl) (.tmp 43) (.tmp 51) (by rfl) (by rfl) (by rfl) HQ.out (by rw [pE_len]; have := HI.out; omega) ?_; intro v1 w3 hq1; obtain ⟨aa1, ac1, rfl, _, _⟩ := (Ints.of_own hq1.2.2.1).1.shape; simp only [List.length_append, List.length_singleton] at hq1; obtain ⟨c0, c1, c2⟩ := blk3 hq1.1; have f1 := hq1.1.frozen 1))
              all_goals
                have hq2 := hq1.store1
                clear hq1 c0 c1 c2 f1 u0 u1 u2 hf1 e1 e2 hld
                rw [HB.out.1.symm, HDL.out] at hq2
                have hE := pE_succ p 0 k
                rw [← HI.out] at hE
                rw [← hE] at hq2
                have HQ2 := Lib.hid hq2
                clear hq2 hE
                go_wp2_with fail
                go_meet
                exact ⟨_, HQ2⟩
            case rest =>
              obtain ⟨v1, HQ2⟩ := hcut
              obtain ⟨u0, u1, u2⟩ := blk3 HQ2.out.1
              have hf2 := HQ2.out.1.frozen 2
              have e1 : IntKind.i64.wrap (D[1].toNat : Int) = (D[1].toNat : Int) := IntWalk.i64_in _ (by omega)
              have e2 : IntKind.i64.wrap ((D[1].toNat : Int) - 48) = (D[1].toNat : Int) - 48 := IntWalk.i64_in _ (by omega)
              have hld := (HQ2.out.1.below ((Below.refl _ wc).alloc (Nat.le_refl _) (.cells #[.int .i64 ((D[1].toNat : Int) - 48)] 3))).cell 2
              simp only [List.getElem?_toArray, List.getElem?_cons_succ, List.getElem?_cons_zero] at hld
              clear hc
              have hc := HAT.out i hlt
              rw [← HQ2.out.2.2.2.2.2.1.cell (p := ⟨g, i, none⟩) hg1, HD.out] at hc
              have hR1 : IntKind.i64.wrap ((i : Int) + 1) = (i : Int) + 1 := IntWalk.i64_in _ (by omega)
              go_wp2
              go_region_law (first | (refine step_app_q2 wc (by rfl) (.tmp 55) (.tmp 63) (by rfl) (by rfl) (by rfl) HQ2.out (by rw [pE_len]; have := HI.out; omega) ?_; intro v2 w4 hq3; obtain ⟨aa2, ac2, rfl, _, _⟩ := (Ints.of_own hq3.2.2.2.1).1.shape; simp only [List.length_append, List.length_singleton] at hq3; obtain ⟨c0, c1, c2⟩ := blk3 hq3.1; have f2 := hq3.1.frozen 2))
              all_goals
                have hq4 := hq3.store2
                clear hq3 c0 c1 c2 f2 u0 u1 u2 hf1 hf2 e1 e2 hld hc
                rw [HB.out.2.symm, HDL.out] at hq4
                have hE := pE_succ p 1 k
                rw [← HI.out] at hE
                rw [← hE] at hq4
                generalize w4.setCell { block := b, off := 2 } (Value.slice aa2 ((pE p 1 k).length + 1) ac2) = W4 at hq4 ⊢
                have HQ4 := Lib.hid hq4
                have HPC2 : Hid (∀ j, j < i + 1 → (p.getD j []).length = 2) := fun j hj => by
                  by_cases hji : j = i
                  · rw [hji, ← HDS.out]; exact hd2
                  · exact HPC.out j (by have := HI.out; omega)
                clear hq4 hE hR1
                go_wp2
                go_roundw
                case rel => exact ⟨i, _, _, by go_num, by omega, HPC2, HQ4⟩
                case measure => simp [intOf]; omega
          · have hdn : ((D.size : Int) != 2) = true := by simp; omega
            have hno : ∀ n f t, ¬ Says s.data.toList n f t := fun n f t h => by
              have := (says_piece h).2.2.1 i (by rw [← HP.out]; exact hlt)
              rw [← HP.out, ← HDS.out] at this
              exact hd2 this
            have HE := Lib.hid (par_no hno)
            have hbb := HB1.out.trans (HQ.out.2.2.2.2.2.1.mono HB1.out.size)
            have hR := HQ.out.2.1
            have HX := Lib.hid (And.intro (hR.blk_set (.int .i64 0) (.slice none 0 0) (.slice none 0 0)) (set3_below hbb (b := w.heap.size) (by omega) (.int .i64 0) (.slice none 0 0) (.slice none 0 0)))
            obtain ⟨x0, x1, x2, q0, q1, q2, t0, t1, t2⟩ := hR.open_
            clear hno hd2 hbb hR
            unfold set3 at HX
            go_wp2
            refine bodyPost_ret (v := .tuple #[.agg #[.int .i64 0, .slice none 0 0, .slice none 0 0], .bool false]) (by simp [results, Tryd.results64, go_sem, HX.out.1.cell 0, HX.out.1.cell 1, HX.out.1.cell 2]) rfl ?_
            exact QuivOK.of_eq2 ⟨_, _, rfl, Ints.nil _, Ints.nil _, FreshV.nil _, FreshV.nil _, fun k h => by simp [blk] at h, HX.out.2⟩ HE.out.1.symm HE.out.2.1.symm HE.out.2.2.1.symm HE.out.2.2.2.symm
        · have hd : decide (i < p.length) = false := by simp; omega
          have hkm : k = p.length - 1 := by have := HI.out; omega
          obtain ⟨u0, u1, u2⟩ := blk3 HQ.out.1
          obtain ⟨i1, i2, f1, f2, hdj⟩ := HQ.out.ends
          obtain ⟨af, cf, rfl, hlf, hmf⟩ := i1.shape
          obtain ⟨at', ct, rfl, hlt', hmt⟩ := i2.shape
          have HJ := Lib.hid (And.intro i1 (And.intro i2 (And.intro f1 (And.intro f2 hdj))))
          have hcon := s_FormatQuiver n _ _ _ _ wr i1 i2
          obtain ⟨tx, htx⟩ : ∃ tx, tx = foQ n (pE p 0 k) (pE p 1 k) := ⟨_, rfl⟩
          rw [← htx] at hcon
          have HQB := Lib.hid HQ.out
          by_cases heq : tx = s
          · have hs0 : s ≠ ⟨#[]⟩ := fun e => by
              have h1 := HPC.out 0 (by omega)
              have h3 : p = [[]] := by rw [HP.out, e]; rfl
              rw [h3] at h1; simp at h1
            have hsay : Says s.data.toList n (pE p 0 k) (pE p 1 k) := foQ_says hs0 (by rw [← htx]; exact heq)
            have HE := Lib.hid (par_yes hsay)
            clear i1 i2 f1 f2 hdj htx hsay hkm hk hlt hs0
            subst heq
            go_wp2_with fail
            refine hcon.mono ?_; rintro e w2 ⟨rfl, b2⟩
            have hbw := HQB.out.2.2.2.2.2.1
            have hbb := HB1.out.trans ((hbw.trans (b2.mono hbw.size)).mono HB1.out.size)
            obtain ⟨u0, u1, u2⟩ := blk3 (HQB.out.1.below b2)
            have hR1 := HQB.out.2.1.below b2
            obtain ⟨x0, x1, x2, q0, q1, q2, t0, t1, t2⟩ := hR1.open_
            have hne1 : ∀ q, blk (.slice af (pE p 0 k).length cf) = some q → q ≠ w.heap.size := fun q hq => by have := HJ.out.2.2.1 q hq; omega
            have hne2 : ∀ q, blk (.slice at' (pE p 1 k).length ct) = some q → q ≠ w.heap.size := fun q hq => by have := HJ.out.2.2.2.1 q hq; omega
            have HX := Lib.hid (And.intro (hR1.blk_set (.int .i64 n) (.slice af (pE p 0 k).length cf) (.slice at' (pE p 1 k).length ct))
              (And.intro (set3_ints (HJ.out.1.below b2) hne1 (.int .i64 n) (.slice af (pE p 0 k).length cf) (.slice at' (pE p 1 k).length ct))
              (And.intro (set3_ints (HJ.out.2.1.below b2) hne2 (.int .i64 n) (.slice af (pE p 0 k).length cf) (.slice at' (pE p 1 k).length ct))
              (set3_below hbb (b := w.heap.size) (by omega) (.int .i64 n) (.slice af (pE p 0 k).length cf) (.slice at' (pE p 1 k).length ct)))))
            clear hbw hbb hR1 hne1 hne2 b2 hcon
            unfold set3 at HX
            go_wp2
            refine bodyPost_ret (v := .tuple #[.agg #[.int .i64 n, .slice af (pE p 0 k).length cf, .slice at' (pE p 1 k).length ct], .bool true]) (by simp [results, Tryd.results64, go_sem, HX.out.1.cell 0, HX.out.1.cell 1, HX.out.1.cell 2]) rfl ?_
            exact QuivOK.of_eq2 ⟨_, _, rfl, HX.out.2.1, HX.out.2.2.1, HJ.out.2.2.1.mono (by omega), HJ.out.2.2.2.1.mono (by omega), HJ.out.2.2.2.2, HX.out.2.2.2⟩ HE.out.1.symm HE.out.2.1.symm HE.out.2.2.1.symm HE.out.2.2.2.symm
          · have hno : ∀ n f t, ¬ Says s.data.toList n f t := fun n' f' t' h => by
              obtain ⟨_, _, _, g1, g2, g3⟩ := says_piece h
              rw [← HP.out] at g1 g2 g3
              rw [← hkm] at g2 g3
              have := ((says_iff s n' f' t').1 h).2
              rw [← g1, ← g2, ← g3, HNB.out, ← htx] at this
              exact heq this
            have HE := Lib.hid (par_no hno)
            have hcmp := str_beq heq
            clear i1 i2 f1 f2 hdj htx hno hkm hk hlt heq
            go_wp2_with fail
            refine hcon.mono ?_; rintro e w2 ⟨rfl, b2⟩
            have hbw := HQB.out.2.2.2.2.2.1
            have hbb := HB1.out.trans ((hbw.trans (b2.mono hbw.size)).mono HB1.out.size)
            obtain ⟨u0, u1, u2⟩ := blk3 (HQB.out.1.below b2)
            have hR1 := HQB.out.2.1.below b2
            obtain ⟨x0, x1, x2, q0, q1, q2, t0, t1, t2⟩ := hR1.open_
            have HX := Lib.hid (And.intro (hR1.blk_set (.int .i64 0) (.slice none 0 0) (.slice none 0 0)) (set3_below hbb (b := w.heap.size) (by omega) (.int .i64 0) (.slice none 0 0) (.slice none 0 0)))
            clear hbw hbb hR1 b2 hcon
            unfold set3 at HX
            go_wp2
            refine bodyPost_ret (v := .tuple #[.agg #[.int .i64 0, .slice none 0 0, .slice none 0 0], .bool false]) (by simp [results, Tryd.results64, go_sem, HX.out.1.cell 0, HX.out.1.cell 1, HX.out.1.cell 2]) rfl ?_
            exact QuivOK.of_eq2 ⟨_, _, rfl, Ints.nil _, Ints.nil _, FreshV.nil _, FreshV.nil _, fun k h => by simp [blk] at h, HX.out.2⟩ HE.out.1.symm HE.out.2.1.symm HE.out.2.2.1.symm HE.out.2.2.2.symm
    · have hn1 : ((A.size : Int) != 2) = false := by simp; omega
      have hn2 : decide ((30 : Int) < (s.size : Int)) = true := by simp; omega
      have hno : ∀ n f t, ¬ Says s.data.toList n f t := fun n f t h => by
        have := (says_piece h).1
        have e : s.data.toList.length = s.size := rfl
        omega
      have HE := Lib.hid (par_no hno)
      clear hno h2 h30
      go_wp2
      refine bodyPost_ret (v := .tuple #[.agg #[.int .i64 0, .slice none 0 0, .slice none 0 0], .bool false]) (by simp [results, Tryd.results64, go_sem, HZ.out.1.cell 0, HZ.out.1.cell 1, HZ.out.1.cell 2]) rfl ?_
      exact QuivOK.of_eq2 ⟨_, _, rfl, Ints.nil _, Ints.nil _, FreshV.nil _, FreshV.nil _, fun k h => by simp [blk] at h, HZ.out.2⟩ HE.out.1.symm HE.out.2.1.symm HE.out.2.2.1.symm HE.out.2.2.2.symm
  · have hn1 : ((A.size : Int) != 2) = true := by simp; omega
    have hno : ∀ n f t, ¬ Says s.data.toList n f t := fun n f t h => by
      have := (says_piece h).2.1
      rw [← HP.out, ← HAS.out] at this
      exact h2 this
    have HE := Lib.hid (par_no hno)
    clear hno h2
    go_wp2
    refine bodyPost_ret (v := .tuple #[.agg #[.int .i64 0, .slice none 0 0, .slice none 0 0], .bool false]) (by simp [results, Tryd.results64, go_sem, HZ.out.1.cell 0, HZ.out.1.cell 1, HZ.out.1.cell 2]) rfl ?_
    exact QuivOK.of_eq2 ⟨_, _, rfl, Ints.nil _, Ints.nil _, FreshV.nil _, FreshV.nil _, fun k h => by simp [blk] at h, HZ.out.2⟩ HE.out.1.symm HE.out.2.1.symm HE.out.2.2.1.symm HE.out.2.2.2.symm
end Go.Proofs.YtndooeffjkofdaaDoor
