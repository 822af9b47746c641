/- ParseQuiver of the program: its walk. -/
import Derived.Test.YtdmjikfjmimfmaaDoorPqL
import Derived.Test.YtdmjikfjmimfmaaDoorQG
import Derived.Test.YtdmjikfjmimfmaaDoorFq
import Derived.Deep.RegionLaw
namespace Go.Proofs.YtdmjikfjmimfmaaDoor
open Go.RowKit
set_option linter.unusedVariables false
set_option linter.unusedSimpArgs false
theorem bN_get (s : ByteArray) (k : Nat) (h : k < s.size) : bN s.data.toList k = (s[k].toNat : Int) - 48 := by
  have hl : k < s.data.toList.length := h
  unfold bN
  rw [List.getD_eq_getElem?_getD, List.getElem?_eq_getElem hl]
  rfl
theorem QuivOK.of_eq2 {n n' : Int} {f f' t t' : List Int} {ok ok' : Bool} {w w' : World} {e : Ending} (h : QuivOK n f t ok w e w') (h0 : n = n') (h1 : f = f') (h2 : t = t') (h3 : ok = ok') : QuivOK n' f' t' ok' w e w' := by
  subst h0; subst h1; subst h2; subst h3; exact h
theorem str_ne {s : ByteArray} (h : 0 < s.size) : ¬ s.toList = [] := by
  rw [Lib.toList_data]
  intro e
  have : s.data.toList.length = s.size := rfl
  rw [e] at this; simp at this; omega
theorem str_empty {s : ByteArray} (h : s.size = 0) : s = ⟨#[]⟩ := by
  cases s with
  | mk d =>
    have h1 : d.size = 0 := h
    have h2 : d = #[] := Array.size_eq_zero_iff.1 h1
    rw [h2]
theorem str_beq {a b : ByteArray} (h : ¬ a = b) : (a.toList == b.toList) = false := by
  rw [beq_eq_false_iff_ne, Lib.toList_data, Lib.toList_data]
  intro e
  exact h (by cases a; cases b; simp at e; rw [e])
set_option maxRecDepth 100000 in
set_option maxHeartbeats 4000000 in
theorem i_ParseQuiver (s : ByteArray) (w : World) (hp : PowTab w) :
    Calls Tryd.prog 25 #[.string s] w (QuivOK (parN s) (parF s) (parT s) (parB s) w) := by
  have HPT := Lib.hid hp
  clear hp
  have hb0 : Below w.heap.size w (w.alloc (.cells #[.int .i64 0, .slice none 0 0, .slice none 0 0] 30)) := (Below.refl _ w).alloc (Nat.le_refl _) _
  have R0 := Blk.new w #[.int .i64 0, .slice none 0 0, .slice none 0 0] 30
  have HB0 := Lib.hid hb0
  have HR0 := Lib.hid R0
  clear hb0 R0
  obtain ⟨r0, r1, r2⟩ := blk3 HR0.out
  have g0 := HR0.out.frozen 0; have g1 := HR0.out.frozen 1; have g2 := HR0.out.frozen 2
  by_cases hs : s.size = 0 ∨ 20 < s.size
  · have hno : ∀ n f t, ¬ Says s.data.toList n f t := fun n f t h => by
      obtain ⟨a, b, _⟩ := says_place h
      have e : s.data.toList.length = s.size := rfl
      omega
    obtain ⟨e0, e1, e2, e3⟩ := par_no hno
    have HE := Lib.hid (And.intro e0 (And.intro e1 (And.intro e2 e3)))
    have HS := Lib.hid (set3_blk HR0.out (.int .i64 0) (.slice none 0 0) (.slice none 0 0))
    have hB := set3_below HB0.out (b := w.heap.size) (by omega) (.int .i64 0) (.slice none 0 0) (.slice none 0 0)
    have HB := Lib.hid hB
    clear hB hno e0 e1 e2 e3
    unfold set3 at HS HB
    rcases hs with h0 | h1
    · have hz : s = ⟨#[]⟩ := str_empty h0
      subst hz
      go_enter Tryd.func25, Tryd.ntmps25
      go_wp2
      refine bodyPost_ret (v := .tuple #[.agg #[.int .i64 0, .slice none 0 0, .slice none 0 0], .bool false]) (by simp [results, Tryd.results25, go_sem, HS.out.cell 0, HS.out.cell 1, HS.out.cell 2]) rfl ?_
      exact QuivOK.of_eq2 ⟨_, _, rfl, Ints.nil _, Ints.nil _, FreshV.nil _, FreshV.nil _, fun k h => by simp [blk] at h, HB0.out⟩ HE.out.1.symm HE.out.2.1.symm HE.out.2.2.1.symm HE.out.2.2.2.symm
    · have hne := str_ne (show 0 < s.size by omega)
      have hne2 : s.toList.isEmpty = false := by simpa using hne
      have hgt : decide ((20 : Int) < (s.size : Int)) = true := by simp; omega
      go_enter Tryd.func25, Tryd.ntmps25
      go_wp2
      refine bodyPost_ret (v := .tuple #[.agg #[.int .i64 0, .slice none 0 0, .slice none 0 0], .bool false]) (by simp [results, Tryd.results25, go_sem, HS.out.cell 0, HS.out.cell 1, HS.out.cell 2]) rfl ?_
      exact QuivOK.of_eq2 ⟨_, _, rfl, Ints.nil _, Ints.nil _, FreshV.nil _, FreshV.nil _, fun k h => by simp [blk] at h, HB0.out⟩ HE.out.1.symm HE.out.2.1.symm HE.out.2.2.1.symm HE.out.2.2.2.symm
  · have hs1 : 0 < s.size := by omega
    have hs2 : s.size ≤ 20 := by omega
    have hne := str_ne hs1
    have hne2 : s.toList.isEmpty = false := by simpa using hne
    have HNE := Lib.hid (show s ≠ ⟨#[]⟩ from fun e => by rw [e] at hs1; exact absurd hs1 (by decide))
    have hgt : decide ((20 : Int) < (s.size : Int)) = false := by simp; omega
    have hb0 := Lib.hid (bN_get s 0 hs1)
    have hby0 := s[0].toNat_lt
    obtain ⟨m, hm⟩ : ∃ m, m = (s.size - 2) / 3 := ⟨_, rfl⟩
    clear hs
    go_enter Tryd.func25, Tryd.ntmps25
    go_wp2
    obtain ⟨n, hn⟩ : ∃ n, n = (s[0].toNat : Int) - 48 := ⟨_, rfl⟩
    rw [← hn]
    have HN := Lib.hid hn
    clear hn hby0
    have Q0 : Hid (QG w w.heap.size (w.heap.size + 1) (w.heap.size + 2) n (.slice none 0 0) (.slice none 0 0) (.slice none 0 0) (.slice none 0 0) [] [] ((w.alloc (.cells #[.int .i64 0, .slice none 0 0, .slice none 0 0] 30)).alloc (.cells #[.int .i64 n, .slice none 0 0, .slice none 0 0] 30))) := by
      refine ⟨?_, ?_, Own.nil _ _ _ _, Own.nil _ _ _ _, fun k hk => (by simp [Value.ownBlock] at hk), ?_, by simp, fun k hk => (by simp [Value.ownBlock] at hk), fun k hk => (by simp [Value.ownBlock] at hk), by omega, by omega, by omega⟩
      · have := Blk.new (w.alloc (.cells #[.int .i64 0, .slice none 0 0, .slice none 0 0] 30)) #[.int .i64 n, .slice none 0 0, .slice none 0 0] 30
        rwa [World.size_alloc] at this
      · exact ⟨_, _, _, HR0.out.below ((Below.refl _ _).alloc (Nat.le_refl _) _)⟩
      · exact HB0.out.alloc (by simp) _
    go_loopw [5] (fun iv wr => ∃ (k j : Nat) (vf vt : Value), iv = .int .i64 j ∧ j = 3 + 3 * k ∧ k ≤ m ∧ Hid (QG w w.heap.size (w.heap.size + 1) (w.heap.size + 2) n vf vt vf vt (bE s.data.toList 3 k) (bE s.data.toList 4 k) wr)) (fun iv _ => s.size - (intOf iv).toNat)
    case atStart => exact ⟨0, 3, _, _, rfl, rfl, by omega, Q0⟩
    case round =>
      obtain ⟨k, j, vf, vt, rfl, hj, hk, HQ⟩ := hrel
      by_cases hlt : k < m
      · have hj1 : j + 1 < s.size := by omega
        have hj0 : j < s.size := by omega
        have hjk1 : j = 3 + 3 * k := hj
        have hb1 := bN_get s j hj0
        have hb2 := bN_get s (j + 1) hj1
        have hz1 := s[j].toNat_lt
        have hz2 := s[j + 1].toNat_lt
        obtain ⟨u0, u1, u2⟩ := blk3 HQ.out.1
        have hf1 := HQ.out.1.frozen 1
        have HJ := Lib.hid hj
        have HLL := Lib.hid (And.intro hb1 hb2)
        clear hb1 hb2 hj hjk1 r0 r1 r2 g0 g1 g2
        have e1 : IntKind.i64.wrap (s[j].toNat : Int) = (s[j].toNat : Int) := IntWalk.i64_in _ (by omega)
        have e2 : IntKind.i64.wrap ((s[j].toNat : Int) - 48) = (s[j].toNat : Int) - 48 := IntWalk.i64_in _ (by omega)
        have hld := (HQ.out.1.below ((Below.refl _ wr).alloc (Nat.le_refl _) (.cells #[.int .i64 ((s[j].toNat : Int) - 48)] 3))).cell 1
        simp only [List.getElem?_toArray, List.getElem?_cons_succ, List.getElem?_cons_zero] at hld
        go_wp2
        go_region_law (first | (refine step_app_q1 wr (by rfl) (.tmp 27) (.tmp 33) (by rfl) (by rfl) (by rfl) HQ.out (by rw [bE_len]; omega) ?_; intro v1 w1 hq1; obtain ⟨aa1, ac1, rfl, _, _⟩ := (Ints.of_own hq1.2.2.1).1.shape; simp only [List.length_append, List.length_singleton] at hq1; obtain ⟨c0, c1, c2⟩ := blk3 hq1.1; have f1 := hq1.1.frozen 1))
        all_goals
          have hq2 := hq1.store1
          clear hq1 c0 c1 c2 f1 u0 u1 u2 hf1 e1 e2 hld
          rw [HLL.out.1.symm] at hq2
          generalize w1.setCell { block := w.heap.size + 1, off := 1 } (Value.slice aa1 ((bE s.data.toList 3 k).length + 1) ac1) = W2 at hq2 ⊢
          have HQ2 := Lib.hid hq2
          clear hq2
          obtain ⟨u0, u1, u2⟩ := blk3 HQ2.out.1
          have hf2 := HQ2.out.1.frozen 2
          have e1 : IntKind.i64.wrap (s[j + 1].toNat : Int) = (s[j + 1].toNat : Int) := IntWalk.i64_in _ (by omega)
          have e2 : IntKind.i64.wrap ((s[j + 1].toNat : Int) - 48) = (s[j + 1].toNat : Int) - 48 := IntWalk.i64_in _ (by omega)
          have e3 : IntKind.i64.wrap ((j : Int) + 1) = (j : Int) + 1 := IntWalk.i64_in _ (by omega)
          have hld := (HQ2.out.1.below ((Below.refl _ W2).alloc (Nat.le_refl _) (.cells #[.int .i64 ((s[j + 1].toNat : Int) - 48)] 3))).cell 2
          simp only [List.getElem?_toArray, List.getElem?_cons_succ, List.getElem?_cons_zero] at hld
          have e4 : (0 : Int) ≤ (j : Int) + 1 := by omega
          have hE1 := bE_succ s.data.toList 3 k
          have hE2 := bE_succ s.data.toList 4 k
          have hR1 : IntKind.i64.wrap ((j : Int) + 3) = (j : Int) + 3 := IntWalk.i64_in _ (by omega)
          go_wp2
          go_region_law (first | (refine step_app_q2 _ (by rfl) (.tmp 37) (.tmp 44) (by rfl) (by rfl) (by rfl) HQ2.out (by rw [bE_len]; omega) ?_; intro v2 w2 hq2; obtain ⟨aa2, ac2, rfl, _, _⟩ := (Ints.of_own hq2.2.2.2.1).1.shape; simp only [List.length_append, List.length_singleton] at hq2; obtain ⟨c0, c1, c2⟩ := blk3 hq2.1; have f2 := hq2.1.frozen 2))
          all_goals
            have hq3 := hq2.store2
            clear hq2 c0 c1 c2 f2 u0 u1 u2 hf2 e1 e2 e3 hld
            rw [HLL.out.2.symm] at hq3
            generalize w2.setCell { block := w.heap.size + 1, off := 2 } (Value.slice aa2 ((bE s.data.toList 4 k).length + 1) ac2) = W3 at hq3 ⊢
            have hjk := HJ.out
            have hA : bE s.data.toList 3 (k + 1) = bE s.data.toList 3 k ++ [bN s.data.toList j] := by rw [hE1, hjk]
            have hC : bE s.data.toList 4 (k + 1) = bE s.data.toList 4 k ++ [bN s.data.toList (j + 1)] := by rw [hE2, hjk, show 3 + 3 * k + 1 = 4 + 3 * k by omega]
            rw [← hA, ← hC] at hq3
            have HQ3 := Lib.hid hq3
            clear hq3 hA hC hE1 hE2 hjk hR1
            go_wp2
            go_roundw
            case rel => exact ⟨k + 1, j + 3, _, _, by go_num, by have := HJ.out; omega, by omega, HQ3⟩
            case measure => simp [intOf]; omega
      · have hkm : k = m := by omega
        have hd : decide ((j : Int) + 1 < (s.size : Int)) = false := by simp; omega
        obtain ⟨u0, u1, u2⟩ := blk3 HQ.out.1
        obtain ⟨x0, x1, x2, q0, q1, q2, t0, t1, t2⟩ := HQ.out.2.1.open_
        obtain ⟨i1, i2, f1, f2, hdj⟩ := HQ.out.ends
        obtain ⟨af, cf, rfl, hlf, hmf⟩ := i1.shape
        obtain ⟨at', ct, rfl, hlt', hmt⟩ := i2.shape
        have HI := Lib.hid (And.intro i1 (And.intro i2 (And.intro f1 (And.intro f2 hdj))))
        have hcon := i_FormatQuiver n _ _ _ _ wr i1 i2 (HPT.out.below HQ.out.2.2.2.2.2.1)
        have hn2 : bN s.data.toList 0 = n := by rw [hb0.out, HN.out]
        have hml : m = (s.data.toList.length - 2) / 3 := hm

        have hjb : j ≤ 40 := by omega
        obtain ⟨tx, htx⟩ : ∃ tx, tx = foQ n (bE s.data.toList 3 k) (bE s.data.toList 4 k) := ⟨_, rfl⟩
        rw [← htx] at hcon
        by_cases heq : tx = s
        · have hsay : Says s.data.toList n (bE s.data.toList 3 k) (bE s.data.toList 4 k) := foQ_says HNE.out (by rw [← htx]; exact heq)
          have HE := Lib.hid (par_yes hsay)
          have HS := Lib.hid (HQ.out.2.1)
          have HQB := Lib.hid HQ.out
          clear i1 i2 f1 f2 hdj r0 r1 r2 g0 g1 g2 htx hsay hn2 hml hkm hm hk hlt hj hne
          subst heq
          go_wp2_with fail
          refine hcon.mono ?_; rintro e w1 ⟨rfl, b1⟩
          have hbw := HQB.out.2.2.2.2.2.1
          have hbb := below_call hbw b1 hbw.size
          obtain ⟨u0, u1, u2⟩ := blk3 (HQB.out.1.below b1)
          have hR1 := HS.out.below b1
          obtain ⟨x0, x1, x2, q0, q1, q2, t0, t1, t2⟩ := hR1.open_
          have hne1 : ∀ q, blk (.slice af (bE tx.data.toList 3 k).length cf) = some q → q ≠ w.heap.size := fun q hq => by have := HI.out.2.2.1 q hq; omega
          have hne2 : ∀ q, blk (.slice at' (bE tx.data.toList 4 k).length ct) = some q → q ≠ w.heap.size := fun q hq => by have := HI.out.2.2.2.1 q hq; omega
          have HX := Lib.hid (And.intro (hR1.blk_set (.int .i64 n) (.slice af (bE tx.data.toList 3 k).length cf) (.slice at' (bE tx.data.toList 4 k).length ct))
            (And.intro (set3_ints (HI.out.1.below b1) hne1 (.int .i64 n) (.slice af (bE tx.data.toList 3 k).length cf) (.slice at' (bE tx.data.toList 4 k).length ct))
            (And.intro (set3_ints (HI.out.2.1.below b1) hne2 (.int .i64 n) (.slice af (bE tx.data.toList 3 k).length cf) (.slice at' (bE tx.data.toList 4 k).length ct))
            (set3_below hbb (b := w.heap.size) (by omega) (.int .i64 n) (.slice af (bE tx.data.toList 3 k).length cf) (.slice at' (bE tx.data.toList 4 k).length ct)))))
          clear hbw hbb hR1 hne1 hne2 b1 hcon
          unfold set3 at HX
          go_wp2
          refine bodyPost_ret (v := .tuple #[.agg #[.int .i64 n, .slice af (bE tx.data.toList 3 k).length cf, .slice at' (bE tx.data.toList 4 k).length ct], .bool true]) (by simp [results, Tryd.results25, go_sem, HX.out.1.cell 0, HX.out.1.cell 1, HX.out.1.cell 2]) rfl ?_
          exact QuivOK.of_eq2 ⟨_, _, rfl, HX.out.2.1, HX.out.2.2.1, HI.out.2.2.1.mono (by omega), HI.out.2.2.2.1.mono (by omega), HI.out.2.2.2.2, HX.out.2.2.2⟩ HE.out.1.symm HE.out.2.1.symm HE.out.2.2.1.symm HE.out.2.2.2.symm
        · have hno : ∀ n f t, ¬ Says s.data.toList n f t := fun n' f' t' h => by
            obtain ⟨_, _, g1, g2, g3⟩ := says_place h
            rw [← hml, ← hkm] at g2 g3
            have := ((says_iff s n' f' t').1 h).2
            rw [← g1, ← g2, ← g3, hn2, ← htx] at this
            exact heq this
          have HE := Lib.hid (par_no hno)
          have HS := Lib.hid (HQ.out.2.1)
          have HQB := Lib.hid HQ.out
          clear i1 i2 f1 f2 hdj r0 r1 r2 g0 g1 g2 htx hno hn2 hml hkm hm hk hlt hj
          go_wp2_with fail
          refine hcon.mono ?_; rintro e w1 ⟨rfl, b1⟩
          have hbw := HQB.out.2.2.2.2.2.1
          have hbb := below_call hbw b1 hbw.size
          obtain ⟨u0, u1, u2⟩ := blk3 (HQB.out.1.below b1)
          have hR1 := HS.out.below b1
          obtain ⟨x0, x1, x2, q0, q1, q2, t0, t1, t2⟩ := hR1.open_
          have HX := Lib.hid (And.intro (hR1.blk_set (.int .i64 0) (.slice none 0 0) (.slice none 0 0)) (set3_below hbb (b := w.heap.size) (by omega) (.int .i64 0) (.slice none 0 0) (.slice none 0 0)))
          have hcmp := str_beq heq
          clear heq
          clear hbw hbb hR1 b1 hcon
          unfold set3 at HX
          go_wp2
          refine bodyPost_ret (v := .tuple #[.agg #[.int .i64 0, .slice none 0 0, .slice none 0 0], .bool false]) (by simp [results, Tryd.results25, go_sem, HX.out.1.cell 0, HX.out.1.cell 1, HX.out.1.cell 2]) rfl ?_
          exact QuivOK.of_eq2 ⟨_, _, rfl, Ints.nil _, Ints.nil _, FreshV.nil _, FreshV.nil _, fun k h => by simp [blk] at h, HX.out.2⟩ HE.out.1.symm HE.out.2.1.symm HE.out.2.2.1.symm HE.out.2.2.2.symm
end Go.Proofs.YtdmjikfjmimfmaaDoor
