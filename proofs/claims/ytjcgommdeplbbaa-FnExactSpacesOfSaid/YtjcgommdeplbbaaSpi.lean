/- SpacesOf of the program: spacesOf walked. -/
import Derived.Test.YtjcgommdeplbbaaSpiM
import Derived.Deep.LoopGhost
import Derived.Sort.CutIn
namespace Go.Proofs.Ytjcgommdeplbbaa
open Go.RowKit
set_option linter.unusedVariables false
set_option linter.unusedSimpArgs false

theorem and_bit : ∀ z : Fin 16, (bits BinOp.and IntKind.i64 ((z.val : Nat) : Int) 1 == 1) = decide (z.val % 2 = 1) := by decide
theorem shr_bit {s c : Nat} (hs : s < 16) : (bits BinOp.and IntKind.i64 ((s : Int) / 2 ^ c) 1 == 1) = decide (s / 2 ^ c % 2 = 1) := by
  have e : (s : Int) / 2 ^ c = ((s / 2 ^ c : Nat) : Int) := by simp
  have h : s / 2 ^ c < 16 := Nat.lt_of_le_of_lt (Nat.div_le_self _ _) hs
  rw [e]
  exact and_bit ⟨s / 2 ^ c, h⟩
attribute [local go_sem] Oper.semAt_some
set_option maxRecDepth 100000 in
set_option maxHeartbeats 4000000 in
theorem i_spacesOf (p : Int) (N K : Nat) (hp : isF p = true) (hN : N ≤ 4) (hK : K ≤ N) (w : World) : Calls Try.prog 13 #[.int .i64 p, .int .i64 N, .int .i64 K] w (SpzOK w (outS N (rawL p N K (2 ^ N)))) := by
  obtain ⟨M, hM⟩ : ∃ M : Nat, M = 2 ^ N := ⟨_, rfl⟩
  have hM16 : M ≤ 16 := by rw [hM]; exact Nat.le_trans (Nat.pow_le_pow_right (by omega) hN) (by decide)
  have hsh : wrap64 ((2 : Int) ^ N) = (M : Int) := by
    have e : (2 : Int) ^ N = (M : Int) := by rw [hM]; simp
    rw [e]; unfold wrap64; omega
  have HM := Lib.hid hM
  clear hM
  have hF : Hid (isF p = true) := hp
  have h5 := isF_cases hp
  have hp5 : 2 ≤ p ∧ p ≤ 5 := by omega
  clear h5 hp
  refine callsIn_wide.1 (callsIn_of_wp_marks (F := Fence.wide) (n := 2) Try.func13 rfl trivial ?_ rfl)
  refine wpIn_wide.2 ?_
  simp only [Try.ntmps13, List.size_toArray, List.length_cons, List.length_nil, Nat.reduceAdd, Nat.reduceSub, Array.replicate_succ, Array.replicate_zero, List.push_toArray, List.append_toArray, List.nil_append, List.cons_append]
  go_wp2
  rw [hsh]
  clear hsh
  have HS0 := Lib.hid (show SI w N K (outS N (rawL p N K 0)) [] (((w.alloc (.cells #[.int .i64 N] 3)).alloc (.cells #[.int .i64 K] 3)).alloc (.cells #[.slice none 0 0] 22)) from by
    have b1 : Below w.heap.size w (w.alloc (.cells #[.int .i64 N] 3)) := (Below.refl _ w).alloc (Nat.le_refl _) _
    have b2 := (Below.refl (w.heap.size + 1) (w.alloc (.cells #[.int .i64 N] 3))).alloc (by simp) (.cells #[.int .i64 K] 3)
    have b3 := (Below.refl (w.heap.size + 1 + 1) ((w.alloc (.cells #[.int .i64 N] 3)).alloc (.cells #[.int .i64 K] 3))).alloc (by simp) (.cells #[.slice none 0 0] 22)
    have e1 : (w.alloc (.cells #[.int .i64 N] 3)).heap.size = w.heap.size + 1 := by simp
    have e2 : ((w.alloc (.cells #[.int .i64 N] 3)).alloc (.cells #[.int .i64 K] 3)).heap.size = w.heap.size + 1 + 1 := by simp
    refine ⟨⟨.slice none 0 0, ?_, OwnX.nil _ _⟩, ((Blk.new w _ _).belowB b2 (by omega)).belowB b3 (by omega), ?_, b1.trans ((b2.mono (by omega)).trans (b3.mono (by omega))), List.nodup_nil, fun D hD => by simp at hD, by simp⟩
    · have := Blk.new ((w.alloc (.cells #[.int .i64 N] 3)).alloc (.cells #[.int .i64 K] 3)) #[.slice none 0 0] 22
      rwa [e2] at this
    · have := Blk.new (w.alloc (.cells #[.int .i64 N] 3)) #[.int .i64 K] 3
      rw [e1] at this
      exact this.belowB b3 (by omega))
  refine wp_loop_ghost_k (fun gk a wr => ∃ (ds : List Deferred) (u8 u9 u10 u11 u12 u13 u14 u15 u16 u17 u18 u19 u20 u21 u24 u25 u26 u27 u28 u29 u30 u31 u32 u33 u34 u35 u36 u37 u38 u39 u40 u41 u42 u43 u44 u45 u46 u47 u48 u49 u50 u51 u52 u53 u54 u55 u56 u57 u58 u59 u60 u61 u62 u63 u64 u65 u66 u67 u68 u69 u70 u71 u72 u73 u74 u75 u76 u77 u78 u79 u80 u81 u82 u83 u84 u85 u86 u87 u88 u89 u90 u91 u92 u93 u94 u95 u96 u97 u98 u99 u100 u101 u102 u103 u104 u105 u106 u107 u108 u109 u110 u111 u112 u113 u114 u115 u116 u117 u118 u119 u120 u121 : Value), (∃ (s : Nat) (Ds : List Nat), s ≤ M ∧ gk + s = M ∧ u24 = .int .i64 s ∧ ds = Ds.map mkD ∧ Hid (SI w N K (outS N (rawL p N K s)) Ds wr)) ∧ a = { tmps := List.toArray (.int .i64 p :: .int .i64 N :: .int .i64 K :: undef :: .pointer (some ⟨w.heap.size, 0, none⟩) :: .pointer (some ⟨w.heap.size + 1, 0, none⟩) :: .slice none 0 0 :: .pointer (some ⟨w.heap.size + 1 + 1, 0, none⟩) :: u8 :: u9 :: u10 :: u11 :: u12 :: u13 :: u14 :: u15 :: u16 :: u17 :: u18 :: u19 :: u20 :: u21 :: .int .i64 N :: .int .i64 M :: u24 :: u25 :: u26 :: u27 :: u28 :: u29 :: u30 :: u31 :: u32 :: u33 :: u34 :: u35 :: u36 :: u37 :: u38 :: u39 :: u40 :: u41 :: u42 :: u43 :: u44 :: u45 :: u46 :: u47 :: u48 :: u49 :: u50 :: u51 :: u52 :: u53 :: u54 :: u55 :: u56 :: u57 :: u58 :: u59 :: u60 :: u61 :: u62 :: u63 :: u64 :: u65 :: u66 :: u67 :: u68 :: u69 :: u70 :: u71 :: u72 :: u73 :: u74 :: u75 :: u76 :: u77 :: u78 :: u79 :: u80 :: u81 :: u82 :: u83 :: u84 :: u85 :: u86 :: u87 :: u88 :: u89 :: u90 :: u91 :: u92 :: u93 :: u94 :: u95 :: u96 :: u97 :: u98 :: u99 :: u100 :: u101 :: u102 :: u103 :: u104 :: u105 :: u106 :: u107 :: u108 :: u109 :: u110 :: u111 :: u112 :: u113 :: u114 :: u115 :: u116 :: u117 :: u118 :: u119 :: u120 :: u121 :: undef :: undef :: undef :: []), defers := ds }) M ?_ ?_
  · (repeat apply Exists.intro); refine ⟨?_, rfl⟩
    exact ⟨0, [], by omega, by omega, rfl, rfl, HS0⟩
  · intro gk _ wo hinv
    obtain ⟨ds, hinv⟩ := hinv
    obtain ⟨u8, hinv⟩ := hinv
    obtain ⟨u9, hinv⟩ := hinv
    obtain ⟨u10, hinv⟩ := hinv
    obtain ⟨u11, hinv⟩ := hinv
    obtain ⟨u12, hinv⟩ := hinv
    obtain ⟨u13, hinv⟩ := hinv
    obtain ⟨u14, hinv⟩ := hinv
    obtain ⟨u15, hinv⟩ := hinv
    obtain ⟨u16, hinv⟩ := hinv
    obtain ⟨u17, hinv⟩ := hinv
    obtain ⟨u18, hinv⟩ := hinv
    obtain ⟨u19, hinv⟩ := hinv
    obtain ⟨u20, hinv⟩ := hinv
    obtain ⟨u21, hinv⟩ := hinv
    obtain ⟨u24, hinv⟩ := hinv
    obtain ⟨u25, hinv⟩ := hinv
    obtain ⟨u26, hinv⟩ := hinv
    obtain ⟨u27, hinv⟩ := hinv
    obtain ⟨u28, hinv⟩ := hinv
    obtain ⟨u29, hinv⟩ := hinv
    obtain ⟨u30, hinv⟩ := hinv
    obtain ⟨u31, hinv⟩ := hinv
    obtain ⟨u32, hinv⟩ := hinv
    obtain ⟨u33, hinv⟩ := hinv
    obtain ⟨u34, hinv⟩ := hinv
    obtain ⟨u35, hinv⟩ := hinv
    obtain ⟨u36, hinv⟩ := hinv
    obtain ⟨u37, hinv⟩ := hinv
    obtain ⟨u38, hinv⟩ := hinv
    obtain ⟨u39, hinv⟩ := hinv
    obtain ⟨u40, hinv⟩ := hinv
    obtain ⟨u41, hinv⟩ := hinv
    obtain ⟨u42, hinv⟩ := hinv
    obtain ⟨u43, hinv⟩ := hinv
    obtain ⟨u44, hinv⟩ := hinv
    obtain ⟨u45, hinv⟩ := hinv
    obtain ⟨u46, hinv⟩ := hinv
    obtain ⟨u47, hinv⟩ := hinv
    obtain ⟨u48, hinv⟩ := hinv
    obtain ⟨u49, hinv⟩ := hinv
    obtain ⟨u50, hinv⟩ := hinv
    obtain ⟨u51, hinv⟩ := hinv
    obtain ⟨u52, hinv⟩ := hinv
    obtain ⟨u53, hinv⟩ := hinv
    obtain ⟨u54, hinv⟩ := hinv
    obtain ⟨u55, hinv⟩ := hinv
    obtain ⟨u56, hinv⟩ := hinv
    obtain ⟨u57, hinv⟩ := hinv
    obtain ⟨u58, hinv⟩ := hinv
    obtain ⟨u59, hinv⟩ := hinv
    obtain ⟨u60, hinv⟩ := hinv
    obtain ⟨u61, hinv⟩ := hinv
    obtain ⟨u62, hinv⟩ := hinv
    obtain ⟨u63, hinv⟩ := hinv
    obtain ⟨u64, hinv⟩ := hinv
    obtain ⟨u65, hinv⟩ := hinv
    obtain ⟨u66, hinv⟩ := hinv
    obtain ⟨u67, hinv⟩ := hinv
    obtain ⟨u68, hinv⟩ := hinv
    obtain ⟨u69, hinv⟩ := hinv
    obtain ⟨u70, hinv⟩ := hinv
    obtain ⟨u71, hinv⟩ := hinv
    obtain ⟨u72, hinv⟩ := hinv
    obtain ⟨u73, hinv⟩ := hinv
    obtain ⟨u74, hinv⟩ := hinv
    obtain ⟨u75, hinv⟩ := hinv
    obtain ⟨u76, hinv⟩ := hinv
    obtain ⟨u77, hinv⟩ := hinv
    obtain ⟨u78, hinv⟩ := hinv
    obtain ⟨u79, hinv⟩ := hinv
    obtain ⟨u80, hinv⟩ := hinv
    obtain ⟨u81, hinv⟩ := hinv
    obtain ⟨u82, hinv⟩ := hinv
    obtain ⟨u83, hinv⟩ := hinv
    obtain ⟨u84, hinv⟩ := hinv
    obtain ⟨u85, hinv⟩ := hinv
    obtain ⟨u86, hinv⟩ := hinv
    obtain ⟨u87, hinv⟩ := hinv
    obtain ⟨u88, hinv⟩ := hinv
    obtain ⟨u89, hinv⟩ := hinv
    obtain ⟨u90, hinv⟩ := hinv
    obtain ⟨u91, hinv⟩ := hinv
    obtain ⟨u92, hinv⟩ := hinv
    obtain ⟨u93, hinv⟩ := hinv
    obtain ⟨u94, hinv⟩ := hinv
    obtain ⟨u95, hinv⟩ := hinv
    obtain ⟨u96, hinv⟩ := hinv
    obtain ⟨u97, hinv⟩ := hinv
    obtain ⟨u98, hinv⟩ := hinv
    obtain ⟨u99, hinv⟩ := hinv
    obtain ⟨u100, hinv⟩ := hinv
    obtain ⟨u101, hinv⟩ := hinv
    obtain ⟨u102, hinv⟩ := hinv
    obtain ⟨u103, hinv⟩ := hinv
    obtain ⟨u104, hinv⟩ := hinv
    obtain ⟨u105, hinv⟩ := hinv
    obtain ⟨u106, hinv⟩ := hinv
    obtain ⟨u107, hinv⟩ := hinv
    obtain ⟨u108, hinv⟩ := hinv
    obtain ⟨u109, hinv⟩ := hinv
    obtain ⟨u110, hinv⟩ := hinv
    obtain ⟨u111, hinv⟩ := hinv
    obtain ⟨u112, hinv⟩ := hinv
    obtain ⟨u113, hinv⟩ := hinv
    obtain ⟨u114, hinv⟩ := hinv
    obtain ⟨u115, hinv⟩ := hinv
    obtain ⟨u116, hinv⟩ := hinv
    obtain ⟨u117, hinv⟩ := hinv
    obtain ⟨u118, hinv⟩ := hinv
    obtain ⟨u119, hinv⟩ := hinv
    obtain ⟨u120, hinv⟩ := hinv
    obtain ⟨u121, hinv⟩ := hinv
    obtain ⟨hrel, ha⟩ := hinv
    subst ha
    try dsimp only
    intro _ _ _ _
    obtain ⟨s, Ds, hs, hgk, rfl, rfl, HS⟩ := hrel
    clear HS0
    by_cases hlt : s < M
    · -- one set
      have hs16 : s < 16 := by omega
      have hN0 : (0 : Int) ≤ (N : Int) := by omega
      obtain ⟨W9, hW9⟩ : ∃ W9, W9 = wo.alloc (.cells #[.slice none 0 0] 37) := ⟨_, rfl⟩
      have hb9 : Below wo.heap.size wo W9 := by rw [hW9]; exact (Below.refl _ wo).alloc (Nat.le_refl _) _
      have HP9 := Lib.hid (show PB wo wo.heap.size (pivL s 0) W9 from ⟨.slice none 0 0, by rw [hW9]; exact Blk.new wo _ _, Own.nil _ _ _ _, hb9, Nat.le_refl _, by rw [hW9]; simp⟩)
      have c1 := ((HS.out.below hb9).2.1).cell 0
      simp only [List.getElem?_toArray, List.getElem?_cons_zero] at c1
      have HW9 := Lib.hid hW9
      clear hW9 hb9
      go_upto_region 6 with fail
      rw [← HW9.out]
      go_wp2
      clear c1
      go_loopw [28] (fun cv w1 => ∃ c : Nat, c ≤ N ∧ cv = .int .i64 c ∧ Hid (PB wo wo.heap.size (pivL s c) w1)) (fun cv _ => N - (intOf cv).toNat)
      case atStart => exact ⟨0, by omega, rfl, HP9⟩
      case round =>
        obtain ⟨c, hc, rfl, HP⟩ := hrel
        obtain ⟨pv, hpb, hpo, hpw, _, hps⟩ := HP.out
        obtain ⟨ap, cp, hpv, hpl, hpm⟩ := (Ints.of_own hpo).1.shape
        have c1 := hpb.cell 0
        simp only [List.getElem?_toArray, List.getElem?_cons_zero] at c1
        have f1 := hpb.frozen 0
        have HPO := Lib.hid hpo; have HPB := Lib.hid hpb; have HPW := Lib.hid hpw
        have hpll := pivL_len s c
        clear hpo hpb hpw HP
        by_cases hlt : c < N
        · have hbit := shr_bit (c := c) hs16
          by_cases hb : s / 2 ^ c % 2 = 1
          · rw [decide_eq_true hb] at hbit
            have HPE := Lib.hid (show pivL s c ++ [(c : Int)] = pivL s (c + 1) by rw [pivL, if_pos hb])
            subst hpv
            clear hb
            go_wp2_with (at_builtin; refine app_int wr wr rfl (.tmp 36) (.tmp 38) rfl (wo.heap.size + 1) _ (pivL s c) rfl rfl HPO.out (Below.refl _ _) hps (by omega) ?_)
            intro v5 w5 ho5 hb5 hs5
            have b5 := hpb5 HPB.out HPW.out hb5
            rw [HPE.out] at ho5
            obtain ⟨a5, c5, rfl, _, _⟩ := (Ints.of_own ho5).1.shape
            have f5 := b5.1.frozen 0
            have c5 := b5.1.cell 0
            have HP5 := Lib.hid (pb_store (w0 := wo) b5 ho5 hs5 (Nat.le_refl _))
            clear ho5 hb5 b5 c1 f1 HPO HPB HPW HPE
            go_wp2
            go_roundw
            case rel => exact ⟨c + 1, by omega, by go_num, HP5⟩
            case measure => simp [intOf]; omega
          · rw [decide_eq_false hb] at hbit
            have HPE := Lib.hid (show pivL s c = pivL s (c + 1) by rw [pivL, if_neg hb, List.append_nil])
            have HP5 := Lib.hid (show PB wo wo.heap.size (pivL s (c + 1)) wr from ⟨_, HPB.out, by rw [← HPE.out]; exact HPO.out, HPW.out, Nat.le_refl _, hps⟩)
            clear hb c1 f1 HPO HPB HPW HPE
            go_wp2
            go_roundw
            case rel => exact ⟨c + 1, by omega, by go_num, HP5⟩
            case measure => simp [intOf]; omega
        · obtain rfl : N = c := by omega
          rename World => w2
          have HS2 := Lib.hid (HS.out.below HPW.out)
          obtain ⟨P, hP⟩ : ∃ P, P = pivL s N := ⟨_, rfl⟩
          rw [← hP] at hpv hpl hpll HPO
          have HPP := Lib.hid hP
          have HPFV := Lib.hid (Ints.of_own HPO.out).2
          clear hP
          have c2 := HS2.out.2.2.1.cell 0
          simp only [List.getElem?_toArray, List.getElem?_cons_zero] at c2
          by_cases hl : P.length = K
          · rw [hl] at hpv
            subst hpv
            have hlb : ((K : Int) != (K : Int)) = false := by simp
            go_upto_region 13 with fail
            clear hlb c2
            obtain ⟨W11, hW11⟩ : ∃ W11, W11 = w2.alloc (.cells #[.slice none 0 0] 41) := ⟨_, rfl⟩
            have HC0 := Lib.hid (show CB w2 w2.heap.size (cellL P (frX N s) 0) W11 from by rw [hW11]; exact CB.new w2)
            have hb11 : Below w2.heap.size w2 W11 := by rw [hW11]; exact (Below.refl _ w2).alloc (Nat.le_refl _) _
            have d1 := (HPB.out.below hb11).cell 0
            simp only [List.getElem?_toArray, List.getElem?_cons_zero] at d1
            have HW11 := Lib.hid hW11
            clear hW11 hb11 f1 c1
            have HPI := Lib.hid (Ints.of_own HPO.out).1
            go_upto_region 14 with fail
            rw [← HW11.out]
            go_wp2
            clear d1
            go_loopw [47] (fun iv wr => ∃ i : Nat, i ≤ K ∧ iv = .int .i64 i ∧ Hid (CB w2 w2.heap.size (cellL P (frX N s) i) wr)) (fun iv _ => K - (intOf iv).toNat)
            case atStart => exact ⟨0, by omega, rfl, HC0⟩
            case round =>
              obtain ⟨i, hi, rfl, HC⟩ := hrel
              by_cases hlt : i < K
              · obtain ⟨cv, _, _, hcw, _, _⟩ := HC.out
                obtain ⟨g, off, hap, hgs, hcc, _⟩ := (HPI.out.below hcw).cell (i := i) (by rw [hl]; exact hlt)
                subst hap
                have d1 := (HPB.out.below hcw).cell 0
                have d2 := ((HS2.out.below hcw).2.1).cell 0
                simp only [List.getElem?_toArray, List.getElem?_cons_zero] at d1 d2
                obtain ⟨pvi, hpvi⟩ : ∃ pvi, pvi = P.getD i 0 := ⟨_, rfl⟩
                rw [← hpvi] at hcc
                have HPV := Lib.hid hpvi
                have hi0 : (0 : Int) ≤ (i : Int) := by omega
                have hi1 : (i : Int) < (K : Int) := by omega
                have HIW := Lib.hid (HPI.out.below hcw)
                clear hcw hpvi
                go_wp2_with fail
                refine (i_freeColumns N _ P wr HIW.out (by omega)).mono ?_; rintro e w3 ⟨frv, rfl, hfr, _, b3⟩
                have HC3 := Lib.hid (HC.out.below b3)
                have hfl := freeP_len P N
                have HFR := Lib.hid (show frX N s = freeP P N by rw [frX, ← HPP.out])
                obtain ⟨fr, hfre⟩ : ∃ fr, fr = freeP P N := ⟨_, rfl⟩
                rw [← hfre] at hfr hfl HFR
                have HFE := Lib.hid hfre
                obtain ⟨af, cf, rfl, _, _⟩ := hfr.shape
                have HFI := Lib.hid hfr
                rw [HFR.out] at HC3
                clear hfre hfr b3 d1 d2 hcc
                go_wp2
                go_loopw [56] (fun tv wr => ∃ t : Nat, t ≤ fr.length ∧ tv = .int .i64 t ∧ Hid (CB w2 w2.heap.size (cellL P fr i ++ cellR fr i pvi t) wr) ∧ Hid (Ints wr (.slice af fr.length cf) fr)) (fun tv _ => fr.length - (intOf tv).toNat)
                case atStart => exact ⟨0, by omega, rfl, by simpa [cellR] using HC3, HFI⟩
                case round =>
                  obtain ⟨t, ht, rfl, HC, HFI⟩ := hrel
                  obtain ⟨cv, hcb, hco, hcw, _, hcs⟩ := HC.out
                  obtain ⟨L, hL⟩ : ∃ L, L = cellL P fr i ++ cellR fr i pvi t := ⟨_, rfl⟩
                  rw [← hL] at hco
                  have hLl : L.length ≤ 100 := by
                    have h1 := cellL_len P fr i
                    have h2 := cellR_len fr i pvi t
                    have h3 : i * fr.length ≤ 4 * 4 := Nat.mul_le_mul (by omega) (by omega)
                    rw [hL, List.length_append]; omega
                  have HLE := Lib.hid hL
                  obtain ⟨ac, cc, rfl, _, _⟩ := hco.shape
                  have d3 := hcb.cell 0
                  simp only [List.getElem?_toArray, List.getElem?_cons_zero] at d3
                  have f3 := hcb.frozen 0
                  have HCB := Lib.hid hcb; have HCO := Lib.hid hco; have HCW := Lib.hid hcw
                  clear hcb hco hcw hL
                  by_cases hlt : t < fr.length
                  · obtain ⟨g2, o2, haf, hgs2, hcf, _⟩ := HFI.out.cell (i := t) hlt
                    subst haf
                    have ht0 : (0 : Int) ≤ (t : Int) := by omega
                    have ht1 : (t : Int) < (fr.length : Int) := by omega
                    obtain ⟨x, hx⟩ : ∃ x, x = fr.getD t 0 := ⟨_, rfl⟩
                    rw [← hx] at hcf
                    have HX := Lib.hid hx
                    clear hx
                    by_cases hgt : pvi < x
                    · have HNX := Lib.hid (show L ++ [((i : Int), x)] = cellL P fr i ++ cellR fr i pvi (t + 1) by rw [HLE.out, List.append_assoc, cellR, ← HX.out, if_pos hgt])
                      go_wp2_with (at_builtin; refine app_pr wr rfl (.tmp 63) (.tmp 67) rfl (w2.heap.size + 1) _ L (i : Int) x rfl rfl HCO.out hcs (by omega) ?_)
                      intro v5 w5 ho5 hg5 _
                      obtain ⟨a5, c5, hv5, _, _⟩ := ho5.shape
                      simp only [List.length_append, List.length_cons, List.length_nil, Nat.zero_add] at hv5
                      subst hv5
                      have k5 := CB.app (x := ((i : Int), x)) HCB.out HCO.out HCW.out (Nat.le_refl _) hcs ho5 hg5
                      have d5 := k5.1.cell 0
                      have f5 := k5.1.frozen 0
                      have h5 := k5.2.1
                      rw [HNX.out] at h5
                      have HC5 := Lib.hid h5
                      have HF5 := Lib.hid (k5.2.2 _ _ HFI.out)
                      clear ho5 hg5 k5 h5 d3 f3 HFI HC HCB HCO HCW hcf
                      go_wp2
                      go_roundw
                      case rel => exact ⟨t + 1, by omega, by go_num, HC5, HF5⟩
                      case measure => simp [intOf]; omega
                    · have HNX := Lib.hid (show cellL P fr i ++ cellR fr i pvi t = cellL P fr i ++ cellR fr i pvi (t + 1) by rw [cellR, ← HX.out, if_neg hgt, List.append_nil])
                      rw [HNX.out] at HC
                      go_wp2
                      go_roundw
                      case rel => exact ⟨t + 1, by omega, by go_num, HC, HFI⟩
                      case measure => simp [intOf]; omega
                  · have hte : t = fr.length := by omega
                    have HNX := Lib.hid (show cellL P fr i ++ cellR fr i pvi t = cellL P (frX N s) (i + 1) by rw [hte, HFR.out, cellL, HPV.out])
                    rw [HNX.out] at HC
                    clear d3 f3 HFI HCB HCO HCW
                    go_wp2
                    go_roundw
                    case rel => exact ⟨i + 1, by omega, by go_num, HC⟩
                    case measure => simp [intOf]; omega
              · obtain rfl : K = i := by omega
                rename World => w3
                obtain ⟨cv, hcb, hco, hcw, _, hcs⟩ := HC.out
                obtain ⟨C, hC⟩ : ∃ C, C = cellL P (frX N s) K := ⟨_, rfl⟩
                have hCX : C = csX N K s := by rw [hC, csX, ← HPP.out]
                rw [← hC] at hco
                have hm4 : C.length ≤ 4 := by rw [hCX]; exact cs_len hN hs16 (by rw [← HPP.out]; exact hl)
                obtain ⟨ac, cc, rfl, _, _⟩ := hco.shape
                have d3 := hcb.cell 0
                simp only [List.getElem?_toArray, List.getElem?_cons_zero] at d3
                have HCX := Lib.hid hCX
                have HCB := Lib.hid hcb; have HCO := Lib.hid hco; have HCW := Lib.hid hcw
                have ba : Below w3.heap.size w3 (w3.alloc (.cells #[.int .i64 (p - 1)] 3)) := (Below.refl _ w3).alloc (Nat.le_refl _) _
                have HX1 := Lib.hid (show Ints (w3.alloc (.cells #[.int .i64 (p - 1)] 3)) (.slice (some ⟨w3.heap.size, 0, none⟩) 1 1) [p - 1] from
                  ⟨_, 1, rfl, Nat.le_refl _, by decide, .inr ⟨w3.heap.size, 0, _, rfl, heap_alloc_new w3 _, by simp, fun i hi => by
                    have : i = 0 := by simpa using hi
                    subst this; rfl⟩⟩)
                have d4 := ba.cell (p := ⟨w2.heap.size, 0, none⟩) (by show w2.heap.size < w3.heap.size; omega)
                rw [d3] at d4
                have HBA := Lib.hid ba
                clear hC hCX hcb hco hcw ba HC HC0
                go_wp2_with fail
                refine (Repeat_one (p - 1) C.length (by omega) _ _ _ _ HX1.out).mono ?_; rintro e w5 ⟨rfl, hr5, b5, hz5⟩
                rw [World.size_alloc] at hr5 hz5 ⊢
                have HR5 := Lib.hid hr5
                have HB5 := Lib.hid (HBA.out.trans (b5.mono (by simp)))
                clear hr5 b5 d3 d4 HX1 HBA
                go_wp2_with fail
                refine (i_boxes _ _ rfl).mono ?_; rintro e w6 ⟨rfl, rfl⟩
                obtain ⟨wF, hwF⟩ : ∃ wF, wF = w5.alloc (.cells #[.slice (some ⟨w3.heap.size + 1, 0, none⟩) C.length C.length] 37) := ⟨_, rfl⟩
                have hbF : Below w5.heap.size w5 wF := by rw [hwF]; exact (Below.refl _ w5).alloc (Nat.le_refl _) _
                have hsF : wF.heap.size = w5.heap.size + 1 := by rw [hwF]; simp
                have hbxF : Blk wF w5.heap.size #[.slice (some ⟨w3.heap.size + 1, 0, none⟩) C.length C.length] 37 := by rw [hwF]; exact Blk.new w5 _ _
                have hs35 := HB5.out.size
                have hs23 := HCW.out.size
                have hso2 := HPW.out.size
                have b3F : Below w3.heap.size w3 wF := HB5.out.trans (hbF.mono hs35)
                have b2F : Below w2.heap.size w2 wF := HCW.out.trans (b3F.mono hs23)
                have boF : Below wo.heap.size wo wF := HPW.out.trans (b2F.mono hso2)
                have hwo3 := HS.out.2.2.2.2.2.2
                have HRF := Lib.hid (HR5.out.below hbF)
                have HBI := Lib.hid (BI.start HS.out boF)
                have hg5 : w3.heap.size + 1 < wF.heap.size := by omega
                have HPF := Lib.hid ((HPI.out).below b2F)
                have HP9F := Lib.hid (HPB.out.below b2F)
                have HCF := Lib.hid (HCO.out.below b3F)
                have HCBF := Lib.hid (HCB.out.below b3F)
                have HDs := Lib.hid (show ∀ D, D ∈ Ds → D < wF.heap.size from fun D hD => by
                  have := (Array.getElem?_eq_some_iff.1 (HS.out.2.2.2.2.2.1 D hD).2).1
                  have := boF.size
                  omega)
                have HSQ := Lib.hid (i_boxes1 p C.length hF.out hm4 w5.heap.size (w3.heap.size + 1) 0 C.length wF (by rw [hbxF.cell 0]; rfl) HRF.out (by omega) hg5)
                have HWF := Lib.hid hwF; have HBO := Lib.hid boF
                have HSF := Lib.hid (show wo.heap.size ≤ w2.heap.size ∧ w2.heap.size + 1 ≤ w3.heap.size ∧ w3.heap.size + 1 ≤ w5.heap.size ∧ wF.heap.size = w5.heap.size + 1 ∧ w.heap.size + 3 ≤ wo.heap.size from ⟨hso2, hcs, by omega, hsF, hwo3⟩)
                clear hwF hbF hsF hbxF hs35 hs23 hso2 b3F b2F boF hwo3 hg5 HR5 HB5 HRF HPB HCO HCB HPO
                go_wp2
                rw [← HWF.out]
                refine wp_rangeFunc_cells (gf := 43) (lb := #[.pointer (some ⟨w5.heap.size, 0, none⟩)]) rfl (enters_of Try.func43 (by kernel_rfl) rfl) (.slice (some ⟨wF.heap.size + 2, 0, none⟩) C.length C.length) rfl
                  [w5.heap.size, w3.heap.size + 1] (by have := HSF.out; simp; omega) (p ^ C.length).toNat (HereV p C.length (wF.heap.size + 2)) (fun i A B h e => hereV_same h e) HSQ.out
                  (fun c W => BI w wF (outS N (rawL p N K s ++ rawC p N K s c)) Ds wo.heap.size W) (fun i A B row h hg h1 h2 => h.grow (by have := HSF.out; omega) (by have := HSF.out; omega) hg h1 h2 HDs.out) ?h0 ?a1 ?assign ?body (fun i A h => h.2) ?done
                case assign =>
                  intro l W Kq hKq
                  gi_wp2
                  exact hKq
                case h0 => simpa [rawC] using HBI.out
                case body =>
                  intro l c W hc hBI hHere hsz
                  obtain ⟨⟨ov, hob, hox⟩, e0, e1, ek, eD, hbw, hwf⟩ := id hBI
                  obtain ⟨q1, q2, q3, q4, q5⟩ := HSF.out
                  have HSI := HS.out.below HBO.out
                  have bN : Blk W w.heap.size #[.int .i64 N] 3 := by unfold Blk; rw [e0]; exact HSI.2.1
                  have bK : Blk W (w.heap.size + 1) #[.int .i64 K] 3 := by unfold Blk; rw [e1]; exact HSI.2.2.1
                  have b9 : Blk W wo.heap.size #[.slice ap K cp] 37 := by unfold Blk; rw [ek _ (Nat.le_refl _) (by omega)]; exact HP9F.out
                  have b11 : Blk W w2.heap.size #[.slice ac C.length cc] 41 := by unfold Blk; rw [ek _ q1 (by omega)]; exact HCBF.out
                  have iP : Ints W (.slice ap K cp) P := HPF.out.keep fun q hq => ek q (by have := HPFV.out q hq; omega) (HPF.out.lt q hq)
                  have oC : OwnC W (w2.heap.size + 1) (.slice ac C.length cc) C := HCF.out.keep fun g hg => ek g (by have := (World.ownsRow.lt HCF.out g hg).1; omega) (World.ownsRow.lt HCF.out g hg).2
                  have r1 := bN.cell 0; have r2 := bK.cell 0; have r3 := b9.cell 0; have r4 := b11.cell 0; have r5 := hob.cell 0
                  simp only [List.getElem?_toArray, List.getElem?_cons_zero] at r1 r2 r3 r4 r5
                  have HBI := Lib.hid hBI; have HOB := Lib.hid hob; have HOX := Lib.hid hox
                  have HBN := Lib.hid bN; have HBK := Lib.hid bK; have HB9 := Lib.hid b9; have HB11 := Lib.hid b11; have HIP := Lib.hid iP; have HOC := Lib.hid oC
                  have HV := Lib.hid hHere.1
                  have HSZ := Lib.hid hsz
                  clear hBI e0 e1 ek eD hbw hwf hob hox HSI bN bK b9 b11 iP oC hHere hsz q1 q2 q3 q4 q5
                  obtain ⟨R, hR⟩ : ∃ R, R = K * N := ⟨_, rfl⟩
                  have hR16 : R ≤ 16 := by rw [hR]; exact Nat.mul_le_mul (show K ≤ 4 by omega) hN
                  have hz := i_zero K N (by omega) (by omega) W
                  rw [← hR] at hz
                  obtain ⟨Z, hZ⟩ : ∃ Z, Z = List.replicate R (0 : Int) := ⟨_, rfl⟩
                  have hZl : Z.length = R := by rw [hZ, List.length_replicate]
                  rw [← hZ] at hz
                  have HR := Lib.hid hR; have HZ := Lib.hid hZ; have HZL := Lib.hid hZl
                  clear hR hZ hZl
                  gi_wp2_with fail
                  refine ⟨trivial, CallsIn.inRound l (callsIn_wide.2 (hz.mono ?_))⟩; rintro e w7 ⟨mv, rfl, hm7, hf7, b7⟩
                  obtain ⟨am, cm, hmv, _, _⟩ := hm7.shape
                  rw [HZL.out] at hmv
                  subst hmv
                  have b17 : Below w7.heap.size w7 (w7.alloc (.cells #[.int .i64 K, .int .i64 N, .slice am R cm] 49)) := (Below.refl _ w7).alloc (Nat.le_refl _) _
                  have HM0 := Lib.hid (show MI W w7.heap.size K N (.slice am R cm) (fillP N P Z 0) (w7.alloc (.cells #[.int .i64 K, .int .i64 N, .slice am R cm] 49)) from
                    ⟨Blk.new w7 _ _, hm7.below b17, hf7, b7.trans (b17.mono b7.size), b7.size⟩)
                  obtain ⟨W17, hW17⟩ : ∃ W17, W17 = w7.alloc (.cells #[.int .i64 K, .int .i64 N, .slice am R cm] 49) := ⟨_, rfl⟩
                  rw [← hW17] at HM0
                  have t3 := (HB9.out.below HM0.out.2.2.2.1).cell 0
                  simp only [List.getElem?_toArray, List.getElem?_cons_zero] at t3
                  have HW17 := Lib.hid hW17
                  clear hm7 hf7 b17 b7 hW17 r1 r2 r3 r4 r5 hz
                  gi_upto_region 27 with fail
                  rw [← HW17.out]
                  gi_wp2
                  clear t3
                  gi_loopw [84] (fun iv wr => ∃ i : Nat, i ≤ K ∧ iv = .int .i64 i ∧ Hid (MI W w7.heap.size K N (.slice am R cm) (fillP N P Z i) wr)) (fun iv _ => K - (intOf iv).toNat)
                  case atStart => exact ⟨0, by omega, rfl, HM0⟩
                  case round =>
                    obtain ⟨i, hi, rfl, HM⟩ := hrel
                    by_cases hlt : i < K
                    · obtain ⟨g1, o1, hap, hg1, hc1, _⟩ := (HIP.out.below HM.out.2.2.2.1).cell (i := i) (by rw [hl]; exact hlt)
                      subst hap
                      have hpn := pivL_get (s := s) (n := N) (i := i) (by rw [← HPP.out, hl]; exact hlt)
                      rw [← HPP.out] at hpn
                      obtain ⟨pn, hpn2⟩ : ∃ pn : Nat, P.getD i 0 = pn := ⟨(P.getD i 0).toNat, by omega⟩
                      rw [hpn2] at hc1 hpn
                      have hpN : pn < N := by omega
                      obtain ⟨q, hq⟩ : ∃ q, q = i * N := ⟨_, rfl⟩
                      have hqR : q + N ≤ R := by rw [hq, HR.out, ← Nat.succ_mul]; exact Nat.mul_le_mul_right _ hlt
                      obtain ⟨lm, hlm⟩ : ∃ lm, lm = fillP N P Z i := ⟨_, rfl⟩
                      have hlml : lm.length = R := by rw [hlm, fillP_len, HZL.out]
                      rw [← hlm] at HM
                      have HNX := Lib.hid (show lm.set (q + pn) 1 = fillP N P Z (i + 1) by rw [fillP, ← hlm, hpn2, ← hq]; simp)
                      obtain ⟨gm, om, ham, hgm, hcm, hfm⟩ := HM.out.2.1.cell (i := q + pn) (by omega)
                      subst ham
                      have hi0 : (0 : Int) ≤ (i : Int) := by omega
                      have hi1 : (i : Int) < (K : Int) := by omega
                      have hp0 : (0 : Int) ≤ (pn : Int) := by omega
                      have hp1 : (pn : Int) < (N : Int) := by omega
                      obtain ⟨z0, z1, z2⟩ := blk3 HM.out.1
                      have hrow := i_row K N K N i rfl _ lm wr HM.out.2.1 (by rw [hlml, HR.out]) hlt (by omega) (by omega)
                      have HQ := Lib.hid hq; have HLM := Lib.hid hlm; have HLML := Lib.hid hlml; have HPN := Lib.hid hpn2
                      clear hq hlm hlml hpn hpn2 hcm hfm
                      gi_wp2_with fail
                      refine ⟨trivial, CallsIn.inRound l (callsIn_wide.2 (hrow.mono ?_))⟩; rintro e w8 ⟨v8, rfl, hv8, hr8, _, b8⟩
                      have hr9 := hr8 gm om R cm (by omega) rfl
                      rw [← HQ.out] at hr9
                      subst hr9
                      have HM8 := HM.out.below b8
                      obtain ⟨gm', om', ham, _, hcm, hfm⟩ := HM8.2.1.cell (i := q + pn) (by rw [HLML.out]; omega)
                      simp only [Option.some.injEq, Addr.mk.injEq, and_true] at ham
                      obtain ⟨rfl, rfl⟩ := ham
                      have hm9 := HM8.set (j := q + pn) (by rw [HLML.out]; omega) 1
                      rw [HNX.out] at hm9
                      rw [← Nat.add_assoc] at hm9 hcm hfm
                      have HM9 := Lib.hid hm9
                      clear hm9 HM8 hv8 hr8 b8 z0 z1 z2 hrow
                      gi_wp2
                      go_roundw
                      case rel => exact ⟨i + 1, by omega, by go_num, HM9⟩
                      case measure => simp [intOf]; omega
                    · obtain rfl : K = i := by omega
                      have HM1 := Lib.hid (show MI W w7.heap.size K N (.slice am R cm) (fillC N C (vecL p C.length (c : Int)) (fillP N P Z K) 0) wr from HM.out)
                      have t4 := (HB11.out.below HM.out.2.2.2.1).cell 0
                      simp only [List.getElem?_toArray, List.getElem?_cons_zero] at t4
                      clear HM
                      gi_wp2
                      clear t4
                      gi_loopw [97] (fun jv wr => ∃ j : Nat, j ≤ C.length ∧ jv = .int .i64 j ∧ Hid (MI W w7.heap.size K N (.slice am R cm) (fillC N C (vecL p C.length (c : Int)) (fillP N P Z K) j) wr)) (fun jv _ => C.length - (intOf jv).toNat)
                      case atStart => exact ⟨0, by omega, rfl, HM1⟩
                      case round =>
                        obtain ⟨j, hj, rfl, HM⟩ := hrel
                        by_cases hlt : j < C.length
                        · obtain ⟨rr, cn, hrc, hrK, hcN⟩ := csX_in (n := N) (k := K) (s := s) (j := j) (by rw [← HCX.out]; exact hlt)
                          rw [← HCX.out] at hrc
                          obtain ⟨gc, hac, _, hgc, hc0, hc1⟩ := (HOC.out.below HM.out.2.2.2.1).cell (i := j) hlt
                          subst hac
                          rw [hrc] at hc0 hc1
                          dsimp only at hc0 hc1
                          obtain ⟨vj, hvj⟩ : ∃ vj, vj = (vecL p C.length (c : Int)).getD j 0 := ⟨_, rfl⟩
                          obtain ⟨gv, ov2, hav, hgv, hcv, _⟩ := HV.out.cell (i := j) (by rw [vecL_len]; exact hlt)
                          simp only [Option.some.injEq, Addr.mk.injEq, and_true] at hav
                          obtain ⟨rfl, rfl⟩ := hav
                          rw [← hvj, Nat.zero_add] at hcv
                          obtain ⟨q, hq⟩ : ∃ q, q = rr * N := ⟨_, rfl⟩
                          have hqR : q + N ≤ R := by rw [hq, HR.out, ← Nat.succ_mul]; exact Nat.mul_le_mul_right _ hrK
                          obtain ⟨lm, hlm⟩ : ∃ lm, lm = fillC N C (vecL p C.length (c : Int)) (fillP N P Z K) j := ⟨_, rfl⟩
                          have hlml : lm.length = R := by rw [hlm, fillC_len, fillP_len, HZL.out]
                          rw [← hlm] at HM
                          have HNX := Lib.hid (show lm.set (q + cn) vj = fillC N C (vecL p C.length (c : Int)) (fillP N P Z K) (j + 1) by rw [fillC, ← hlm, hrc, ← hvj, hq]; simp)
                          obtain ⟨gm, om, ham, hgm, _, _⟩ := HM.out.2.1.cell (i := q + cn) (by omega)
                          subst ham
                          have hj0 : (0 : Int) ≤ (j : Int) := by omega
                          have hj1 : (j : Int) < (C.length : Int) := by omega
                          have hr0 : (0 : Int) ≤ (rr : Int) := by omega
                          have hr1 : (rr : Int) < (K : Int) := by omega
                          have hn0 : (0 : Int) ≤ (cn : Int) := by omega
                          have hn1 : (cn : Int) < (N : Int) := by omega
                          -- the world in which the region begins
                          obtain ⟨Wr, hWr⟩ : ∃ Wr, Wr = wr.alloc (.cells #[.int .i64 rr, .int .i64 cn] 43) := ⟨_, rfl⟩
                          have bWr : Below wr.heap.size wr Wr := by rw [hWr]; exact (Below.refl _ wr).alloc (Nat.le_refl _) _
                          have HMr := Lib.hid (HM.out.below bWr)
                          have bt : Blk Wr wr.heap.size #[.int .i64 rr, .int .i64 cn] 43 := by rw [hWr]; exact Blk.new wr _ _
                          have HBT := Lib.hid bt
                          have hcvr : Wr.cell? ⟨wF.heap.size + 2, j, none⟩ = some (.int .i64 vj) := ((HMr.out.2.2.2.1).cell (p := ⟨wF.heap.size + 2, j, none⟩) HSZ.out).trans hcv
                          have hgmW : W.heap.size ≤ gm := HM.out.2.2.1 gm (HM.out.2.1.set (i := q + cn) (by omega) 0).2
                          have hgmb : w7.heap.size ≠ gm := fun e => by
                            obtain ⟨a', c', e', _, _, rfl | ⟨g', o', cur, e2, hg, _⟩⟩ := HM.out.2.1
                            · simp at hlml; omega
                            · simp only [Value.slice.injEq] at e'
                              rw [e2] at e'
                              simp only [Option.some.injEq, Addr.mk.injEq, and_true] at e'
                              obtain ⟨⟨rfl, _⟩, _⟩ := e'
                              have := HM.out.1
                              unfold Blk at this
                              rw [e, hg] at this; simp at this
                          have HK := Lib.hid (show ∀ w' : World, Below Wr.heap.size Wr w' → (w'.cell? ⟨w7.heap.size, 0, none⟩ = some (.int .i64 K) ∧ w'.cell? ⟨w7.heap.size, 1, none⟩ = some (.int .i64 N) ∧ w'.cell? ⟨w7.heap.size, 2, none⟩ = some (.slice (some ⟨gm, om, none⟩) R cm)) ∧ (w'.cell? ⟨wr.heap.size, 0, none⟩ = some (.int .i64 rr) ∧ w'.cell? ⟨wr.heap.size, 1, none⟩ = some (.int .i64 cn)) ∧ w'.cell? ⟨wF.heap.size + 2, j, none⟩ = some (.int .i64 vj) from fun w' hb => by
                            have h1 := blk3 (HMr.out.1.below hb)
                            have h2 := blk2 (HBT.out.below hb)
                            refine ⟨h1, h2, (hb.cell (p := ⟨wF.heap.size + 2, j, none⟩) ?_).trans hcvr⟩
                            have := HSZ.out; have := HMr.out.2.2.2.1.size
                            show wF.heap.size + 2 < Wr.heap.size
                            omega)
                          have HKS := Lib.hid (show ∀ (w' : World) (x : Value) (i : Nat), ((w'.cell? ⟨w7.heap.size, 0, none⟩ = some (.int .i64 K) ∧ w'.cell? ⟨w7.heap.size, 1, none⟩ = some (.int .i64 N) ∧ w'.cell? ⟨w7.heap.size, 2, none⟩ = some (.slice (some ⟨gm, om, none⟩) R cm)) ∧ (w'.cell? ⟨wr.heap.size, 0, none⟩ = some (.int .i64 rr) ∧ w'.cell? ⟨wr.heap.size, 1, none⟩ = some (.int .i64 cn)) ∧ w'.cell? ⟨wF.heap.size + 2, j, none⟩ = some (.int .i64 vj)) →
                              ((w'.setCell ⟨gm, i, none⟩ x).cell? ⟨w7.heap.size, 0, none⟩ = some (.int .i64 K) ∧ (w'.setCell ⟨gm, i, none⟩ x).cell? ⟨w7.heap.size, 1, none⟩ = some (.int .i64 N) ∧ (w'.setCell ⟨gm, i, none⟩ x).cell? ⟨w7.heap.size, 2, none⟩ = some (.slice (some ⟨gm, om, none⟩) R cm)) ∧ ((w'.setCell ⟨gm, i, none⟩ x).cell? ⟨wr.heap.size, 0, none⟩ = some (.int .i64 rr) ∧ (w'.setCell ⟨gm, i, none⟩ x).cell? ⟨wr.heap.size, 1, none⟩ = some (.int .i64 cn)) ∧ (w'.setCell ⟨gm, i, none⟩ x).cell? ⟨wF.heap.size + 2, j, none⟩ = some (.int .i64 vj) from fun w' x i h => by
                            have hz := HSZ.out
                            rw [cell_set (p := ⟨gm, i, none⟩) (a := ⟨w7.heap.size, 0, none⟩) hgmb, cell_set (p := ⟨gm, i, none⟩) (a := ⟨w7.heap.size, 1, none⟩) hgmb, cell_set (p := ⟨gm, i, none⟩) (a := ⟨w7.heap.size, 2, none⟩) hgmb, cell_set (p := ⟨gm, i, none⟩) (a := ⟨wr.heap.size, 0, none⟩) (by show wr.heap.size ≠ gm; omega), cell_set (p := ⟨gm, i, none⟩) (a := ⟨wr.heap.size, 1, none⟩) (by show wr.heap.size ≠ gm; omega), cell_set (p := ⟨gm, i, none⟩) (a := ⟨wF.heap.size + 2, j, none⟩) (by show wF.heap.size + 2 ≠ gm; omega)]
                            exact h)
                          have HROW := Lib.hid (fun (w' : World) (hb : Below Wr.heap.size Wr w') => i_row K N K N rr rfl _ lm w' (HMr.out.below hb).2.1 (by rw [hlml, HR.out]) hrK (by omega) (by omega))
                          have HQ := Lib.hid hq; have HLM := Lib.hid hlm; have HLML := Lib.hid hlml; have HWr := Lib.hid hWr
                          clear hq hlm hlml hWr bWr bt hcvr hvj hcv hrc HM
                          gi_upto_region 35 with fail
                          rw [← HWr.out]
                          have HBD := Lib.hid (show Below Wr.heap.size Wr Wr.drew from (Below.refl _ Wr).drew)
                          refine wpIn_region_held_drew (S := (fun w' => (w'.cell? ⟨w7.heap.size, 0, none⟩ = some (.int .i64 K) ∧ w'.cell? ⟨w7.heap.size, 1, none⟩ = some (.int .i64 N) ∧ w'.cell? ⟨w7.heap.size, 2, none⟩ = some (.slice (some ⟨gm, om, none⟩) R cm)) ∧ (w'.cell? ⟨wr.heap.size, 0, none⟩ = some (.int .i64 rr) ∧ w'.cell? ⟨wr.heap.size, 1, none⟩ = some (.int .i64 cn)) ∧ w'.cell? ⟨wF.heap.size + 2, j, none⟩ = some (.int .i64 vj))) (by kernel_rfl) (by kernel_rfl) (fun ⟨_, _, h⟩ => h) (HK.out _ HBD.out) (fun hHeld => ?_)
                          refine wpAnyH_take (i := 0) (v := ?_) rfl (by kernel_rfl) (by kernel_rfl) (by kernel_rfl) (fun _ _ _ h => h) (Or.inl ⟨by rfl, ?_⟩) hHeld ?_
                          rotate_left
                          focus ((intro w hSw; (try dsimp only at hSw); go_simp); (try with_reducible rfl))
                          (try simp only [List.getElem_toArray, List.getElem_cons_succ, List.getElem_cons_zero, Act.put, List.setIfInBounds_toArray, List.set_cons_zero, List.set_cons_succ])
                          refine wpAnyH_take (i := 1) (v := ?_) rfl (by kernel_rfl) (by kernel_rfl) (by kernel_rfl) (fun _ _ _ h => h) (Or.inl ⟨by rfl, ?_⟩) hHeld ?_
                          rotate_left
                          focus ((intro w hSw; (try dsimp only at hSw); go_simp); (try with_reducible rfl))
                          (try simp only [List.getElem_toArray, List.getElem_cons_succ, List.getElem_cons_zero, Act.put, List.setIfInBounds_toArray, List.set_cons_zero, List.set_cons_succ])
                          refine wpAnyH_take (i := 2) (v := ?_) rfl (by kernel_rfl) (by kernel_rfl) (by kernel_rfl) (fun _ _ _ h => h) (Or.inl ⟨by rfl, ?_⟩) hHeld ?_
                          rotate_left
                          focus ((intro w hSw; (try dsimp only at hSw); go_simp); (try with_reducible rfl))
                          (try simp only [List.getElem_toArray, List.getElem_cons_succ, List.getElem_cons_zero, Act.put, List.setIfInBounds_toArray, List.set_cons_zero, List.set_cons_succ])
                          refine wpAnyH_take (i := 4) (v := ?_) rfl (by kernel_rfl) (by kernel_rfl) (by kernel_rfl) (fun _ _ _ h => h) (Or.inl ⟨by rfl, ?_⟩) hHeld ?_
                          rotate_left
                          focus ((intro w hSw; (try dsimp only at hSw); go_simp); (try with_reducible rfl))
                          (try simp only [List.getElem_toArray, List.getElem_cons_succ, List.getElem_cons_zero, Act.put, List.setIfInBounds_toArray, List.set_cons_zero, List.set_cons_succ])
                          refine wpAnyH_take (i := 5) (v := ?_) rfl (by kernel_rfl) (by kernel_rfl) (by kernel_rfl) (fun _ _ _ h => h) (Or.inl ⟨by rfl, ?_⟩) hHeld ?_
                          rotate_left
                          focus ((intro w hSw; (try dsimp only at hSw); go_simp); (try with_reducible rfl))
                          (try simp only [List.getElem_toArray, List.getElem_cons_succ, List.getElem_cons_zero, Act.put, List.setIfInBounds_toArray, List.set_cons_zero, List.set_cons_succ])
                          refine wpAnyH_take (i := 6) (v := ?_) rfl (by kernel_rfl) (by kernel_rfl) (by kernel_rfl) (fun _ _ _ h => h) (Or.inl ⟨by rfl, ?_⟩) hHeld ?_
                          rotate_left
                          focus ((intro w hSw; (try dsimp only at hSw); go_simp); (try with_reducible rfl))
                          (try simp only [List.getElem_toArray, List.getElem_cons_succ, List.getElem_cons_zero, Act.put, List.setIfInBounds_toArray, List.set_cons_zero, List.set_cons_succ])
                          refine wpAnyH_take (i := 7) (v := ?_) rfl (by kernel_rfl) (by kernel_rfl) (by kernel_rfl) (fun _ _ _ h => h) (Or.inl ⟨by rfl, ?_⟩) hHeld ?_
                          rotate_left
                          focus ((intro w hSw; (try dsimp only at hSw); go_simp); (try with_reducible rfl))
                          (try simp only [List.getElem_toArray, List.getElem_cons_succ, List.getElem_cons_zero, Act.put, List.setIfInBounds_toArray, List.set_cons_zero, List.set_cons_succ])
                          refine wpAnyH_take (i := 8) (v := ?_) rfl (by kernel_rfl) (by kernel_rfl) (by kernel_rfl) (fun _ _ _ h => h) (Or.inl ⟨by rfl, ?_⟩) hHeld ?_
                          rotate_left
                          focus ((intro w hSw; (try dsimp only at hSw); go_simp); (try with_reducible rfl))
                          (try simp only [List.getElem_toArray, List.getElem_cons_succ, List.getElem_cons_zero, Act.put, List.setIfInBounds_toArray, List.set_cons_zero, List.set_cons_succ])
                          refine wpAnyH_take (i := 9) (v := ?_) rfl (by kernel_rfl) (by kernel_rfl) (by kernel_rfl) (fun _ _ _ h => h) (Or.inl ⟨by rfl, ?_⟩) hHeld ?_
                          rotate_left
                          focus ((intro w hSw; (try dsimp only at hSw); go_simp); (try with_reducible rfl))
                          (try simp only [List.getElem_toArray, List.getElem_cons_succ, List.getElem_cons_zero, Act.put, List.setIfInBounds_toArray, List.set_cons_zero, List.set_cons_succ])
                          refine wpAnyH_ready (rs := [3]) (by kernel_rfl) (by simp) ?_
                          refine AllReadyH.cons rfl (fun K hK => ?_) AllReadyH.nil
                          go_simp
                          (refine (HROW.out _ HBD.out).mono ?_; rintro e w8 ⟨v8, rfl, hv8, hr8, _, b8⟩; have hr9 := hr8 gm om R cm (by omega) rfl; rw [← HQ.out] at hr9; subst hr9; have HM8 := Lib.hid (HMr.out.below (HBD.out.trans b8)); obtain ⟨gm2, om2, ham, _, hcm, hfm⟩ := HM8.out.2.1.cell (i := q + cn) (by rw [HLML.out]; omega); simp only [Option.some.injEq, Addr.mk.injEq, and_true] at ham; obtain ⟨rfl, rfl⟩ := ham; rw [← Nat.add_assoc] at hcm hfm)
                          (try (go_wp2_with fail))
                          refine hK.out _ _ (HK.out _ (HBD.out.trans b8)) (fun hNew => ?_)
                          clear hK K hHeld
                          have hHeld := hNew
                          clear hNew
                          (try simp only [List.getElem_toArray, List.getElem_cons_succ, List.getElem_cons_zero, Act.put, List.setIfInBounds_toArray, List.set_cons_zero, List.set_cons_succ])
                          refine wpAnyH_take (i := 10) (v := ?_) rfl (by kernel_rfl) (by kernel_rfl) (by kernel_rfl) (fun _ _ _ h => h) (Or.inl ⟨by rfl, ?_⟩) hHeld ?_
                          rotate_left
                          focus ((intro w hSw; (try dsimp only at hSw); go_simp); (try with_reducible rfl))
                          (try simp only [List.getElem_toArray, List.getElem_cons_succ, List.getElem_cons_zero, Act.put, List.setIfInBounds_toArray, List.set_cons_zero, List.set_cons_succ])
                          refine wpAnyH_ready (rs := [11]) (by kernel_rfl) (by simp) ?_
                          refine AllReadyH.cons rfl (fun K hK => ?_) AllReadyH.nil
                          go_simp
                          refine hK.out _ _ (HKS.out _ _ _ hHeld) (fun hNew => ?_)
                          clear hK K hHeld
                          have hHeld := hNew
                          clear hNew
                          (try simp only [List.getElem_toArray, List.getElem_cons_succ, List.getElem_cons_zero, Act.put, List.setIfInBounds_toArray, List.set_cons_zero, List.set_cons_succ])
                          refine wpAnyH_done (by kernel_rfl) ?_ _
                          refine NoPanic.normal ?_
                          have hm9 := HM8.out.set (j := q + cn) (by rw [HLML.out]; omega) vj
                          rw [HNX.out, ← Nat.add_assoc] at hm9
                          have HM9 := Lib.hid hm9
                          clear hm9 hHeld hcm hfm hv8 hr8 b8
                          gi_wp2
                          go_roundw
                          case rel => exact ⟨j + 1, by omega, by go_num, HM9⟩
                          case measure => simp [intOf]; omega
                        · have hje : j = C.length := by omega
                          subst hje
                          obtain ⟨Lo, hLo⟩ : ∃ Lo, Lo = outS N (rawL p N K s ++ rawC p N K s c) := ⟨_, rfl⟩
                          have hLl : Lo.length + 1 ≤ 1099511627776 := by
                            rw [hLo, outS_len, List.length_append]
                            have h1 := rawL_len (p := p) (n := N) (k := K) hF.out hN s hs16
                            have h2 : (rawC p N K s c).length = c := by simp [rawC]
                            have h3 := pow_bd hF.out (show C.length ≤ 8 by omega)
                            omega
                          have HBI2 := HBI.out
                          have HOX2 := HOX.out
                          rw [← hLo] at HBI2 HOX2
                          obtain ⟨ao, co, hov, _, _⟩ := HOX2.shape
                          subst hov
                          replace HBI := Lib.hid HBI2
                          replace HOX := Lib.hid HOX2
                          have HEND := Lib.hid (show Lo ++ [((N : Int), rowsK N (matX N K s (vecL p C.length (c : Int))) K)] = outS N (rawL p N K s ++ rawC p N K s (c + 1)) by
                            rw [hLo, rawC_succ, ← List.append_assoc, outS_app N (_ ++ _), ← HCX.out]; rfl)
                          have hmx : MI W w7.heap.size K N (.slice am R cm) (matX N K s (vecL p C.length (c : Int))) wr := by
                            have h := HM.out
                            rw [show matX N K s (vecL p C.length (c : Int)) = fillC N C (vecL p C.length (c : Int)) (fillP N P Z K) C.length by rw [matX, ← HPP.out, ← HCX.out, HZ.out, HR.out]]
                            exact h
                          have hml : (matX N K s (vecL p C.length (c : Int))).length = K * N := by rw [matX, fillC_len, fillP_len, List.length_replicate]
                          have HMX := Lib.hid hmx
                          have HWw := Lib.hid hmx.2.2.2.1
                          have HM17 := Lib.hid hmx.1
                          have H7W := Lib.hid hmx.2.2.2.2
                          have HBD := Lib.hid (show Below wr.heap.size wr wr.drew from (Below.refl _ wr).drew)
                          have HK37 := Lib.hid (show ∀ w' : World, Below wr.heap.size wr w' → w'.cell? ⟨w.heap.size, 0, none⟩ = some (.int .i64 N) ∧ w'.cell? ⟨w7.heap.size, 0, none⟩ = some (.int .i64 K) ∧ w'.cell? ⟨w7.heap.size, 1, none⟩ = some (.int .i64 N) ∧ w'.cell? ⟨w7.heap.size, 2, none⟩ = some (.slice am R cm) from fun w' hb => by
                            have h1 := blk3 (HM17.out.below hb)
                            refine ⟨?_, h1⟩
                            rw [((HBN.out.below HWw.out).below hb).cell 0]; rfl)
                          have HOBk := Lib.hid (show ∀ w' : World, Below wr.heap.size wr w' → w'.cell? ⟨w.heap.size + 1 + 1, 0, none⟩ = some (.slice ao Lo.length co) from fun w' hb => by
                            rw [((HOB.out.below HWw.out).below hb).cell 0]; rfl)
                          have HROWS := Lib.hid (fun (w' : World) (hb : Below wr.heap.size wr w') => i_rowsD K N _ _ w' (HMX.out.below hb).2.1 hml (by omega) (by omega))
                          clear hLo hmx hml HM HBI2 HOX2 HM1 HM0
                          gi_upto_region 37 with fail
                          refine wpIn_region_held_drew (S := (fun w' => w'.cell? ⟨w.heap.size, 0, none⟩ = some (.int .i64 N) ∧ w'.cell? ⟨w7.heap.size, 0, none⟩ = some (.int .i64 K) ∧ w'.cell? ⟨w7.heap.size, 1, none⟩ = some (.int .i64 N) ∧ w'.cell? ⟨w7.heap.size, 2, none⟩ = some (.slice am R cm))) (by kernel_rfl) (by kernel_rfl) (fun ⟨_, _, h⟩ => h) (HK37.out _ HBD.out) (fun hHeld => ?_)
                          refine wpAnyH_take (i := 1) (v := ?_) rfl (by kernel_rfl) (by kernel_rfl) (by kernel_rfl) (fun _ _ _ h => h) (Or.inl ⟨by rfl, ?_⟩) hHeld ?_
                          rotate_left
                          focus ((intro w hSw; (try dsimp only at hSw); go_simp); (try with_reducible rfl))
                          (try simp only [List.getElem_toArray, List.getElem_cons_succ, List.getElem_cons_zero, Act.put, List.setIfInBounds_toArray, List.set_cons_zero, List.set_cons_succ])
                          refine wpAnyH_take (i := 2) (v := ?_) rfl (by kernel_rfl) (by kernel_rfl) (by kernel_rfl) (fun _ _ _ h => h) (Or.inl ⟨by rfl, ?_⟩) hHeld ?_
                          rotate_left
                          focus ((intro w hSw; (try dsimp only at hSw); go_simp); (try with_reducible rfl))
                          (try simp only [List.getElem_toArray, List.getElem_cons_succ, List.getElem_cons_zero, Act.put, List.setIfInBounds_toArray, List.set_cons_zero, List.set_cons_succ])
                          refine wpAnyH_ready (rs := [0, 3]) (by kernel_rfl) (by simp) ?_
                          refine AllReadyH.cons rfl (fun Kq hKq => ?_) (AllReadyH.cons rfl (fun Kq hKq => ?_) AllReadyH.nil)
                          focus
                            have ho := HOBk.out _ HBD.out
                            go_simp
                            refine hKq.out _ _ (HK37.out _ HBD.out) (fun hNew => ?_)
                            clear hKq Kq hHeld
                            have hHeld := hNew
                            clear hNew
                            (try simp only [List.getElem_toArray, List.getElem_cons_succ, List.getElem_cons_zero, Act.put, List.setIfInBounds_toArray, List.set_cons_zero, List.set_cons_succ])
                            clear ho
                            refine wpAnyH_ready (rs := [3]) (by kernel_rfl) (by simp) ?_
                            refine AllReadyH.cons rfl (fun Kq hKq => ?_) AllReadyH.nil
                            go_simp
                            (refine (HROWS.out _ HBD.out).mono ?_; rintro e w9 ⟨v9, rfl, hv9, b9⟩; obtain ⟨a9, c9, hvv, _, _⟩ := hv9.own.rws.shape; rw [rowsK_len] at hvv; subst hvv; have HB9w := Lib.hid (HBD.out.trans b9); have HV9 := Lib.hid hv9; have HO9 := Lib.hid (HOBk.out _ HB9w.out); have HO9a := Lib.hid (HOBk.out _ (HB9w.out.alloc HB9w.out.size (.cells #[.int .i64 N, .slice a9 K c9] 33))); clear hv9 b9)
                            (try (go_wp2_with fail))
                            refine hKq.out _ _ (HK37.out _ HB9w.out) (fun hNew => ?_)
                            clear hKq Kq hHeld
                            have hHeld := hNew
                            clear hNew
                            (try simp only [List.getElem_toArray, List.getElem_cons_succ, List.getElem_cons_zero, Act.put, List.setIfInBounds_toArray, List.set_cons_zero, List.set_cons_succ])
                            refine wpAnyH_take (i := 4) (v := ?_) rfl (by kernel_rfl) (by kernel_rfl) (by kernel_rfl) (fun _ _ _ h => h) (Or.inl ⟨by rfl, ?_⟩) hHeld ?_
                            rotate_left
                            focus ((intro w hSw; (try dsimp only at hSw); go_simp); (try with_reducible rfl))
                            (try simp only [List.getElem_toArray, List.getElem_cons_succ, List.getElem_cons_zero, Act.put, List.setIfInBounds_toArray, List.set_cons_zero, List.set_cons_succ])
                            refine wpAnyH_ready (rs := [5]) (by kernel_rfl) (by simp) ?_
                            refine AllReadyH.cons rfl (fun Kq hKq => ?_) AllReadyH.nil
                            go_simp
                            refine hKq.out _ _ (HK37.out _ (HB9w.out.alloc HB9w.out.size _)) (fun hNew => ?_)
                            clear hKq Kq hHeld
                            have hHeld := hNew
                            clear hNew
                            (try simp only [List.getElem_toArray, List.getElem_cons_succ, List.getElem_cons_zero, Act.put, List.setIfInBounds_toArray, List.set_cons_zero, List.set_cons_succ])
                            refine wpAnyH_ready (rs := [6]) (by kernel_rfl) (by simp) ?_
                            refine AllReadyH.cons rfl (fun Kq hKq => ?_) AllReadyH.nil
                            refine step37 (w := w) (wF := wF) (W := W) (lo := wo.heap.size) (by rfl) (.tmp 114) (.tmp 119) (by rfl) (.slice ao Lo.length co) Lo (N : Int) _ (rowsK N (matX N K s (vecL p C.length (c : Int))) K) (by rfl) (by rfl) HOX.out (HWw.out.trans (HB9w.out.mono HWw.out.size)) HV9.out HWw.out.size HSZ.out (by have := HSF.out; have := HSZ.out; omega) (by omega) ?_; intro v5 w5x ho5 hg5
                            have hx9 := HOX.out.keep (Q := fun q => w.heap.size + 3 ≤ q ∧ q < W.heap.size ∧ ¬ (wo.heap.size ≤ q ∧ q ≤ wF.heap.size + 2)) (fun _ hq => hq) (fun q hq => ((HWw.out.trans (HB9w.out.mono HWw.out.size)).trans (((Below.refl _ w9).alloc (Nat.le_refl _) (.cells #[.int .i64 N, .slice a9 K c9] 33)).mono (by have := HWw.out.size; have := HB9w.out.size; omega))).block q hq.2.1)
                            have k1 := (HBN.out.below ((HWw.out.trans (HB9w.out.mono HWw.out.size)).trans (((Below.refl _ w9).alloc (Nat.le_refl _) (.cells #[.int .i64 N, .slice a9 K c9] 33)).mono (by have := HWw.out.size; have := HB9w.out.size; omega)))).grownX (by decide) hx9 hg5
                            have k2 := (HM17.out.below (HB9w.out.trans (((Below.refl _ w9).alloc (Nat.le_refl _) (.cells #[.int .i64 N, .slice a9 K c9] 33)).mono HB9w.out.size))).grownX (by decide) hx9 hg5
                            obtain ⟨k3, HBIw⟩ := BI.fin (ks := [w5.heap.size, w3.heap.size + 1]) HBI.out (by have := HSF.out; omega) (by have := HSF.out; omega) HDs.out (by have := HSF.out; simp; omega) HSZ.out HOB.out HOX.out (HWw.out.trans (HB9w.out.mono HWw.out.size)) hg5 ho5
                            obtain ⟨a5, c5, hv5, _, _⟩ := ho5.shape
                            simp only [List.length_append, List.length_cons, List.length_nil, Nat.zero_add] at hv5
                            subst hv5
                            have HBW := Lib.hid HBIw
                            have f5 := k3.frozen 0
                            have k4 := k3.cell 0
                            simp only [List.getElem?_toArray, List.getElem?_cons_zero] at k4
                            refine hKq.out _ _ ⟨by rw [k1.cell 0]; rfl, by rw [k2.cell 0]; rfl, by rw [k2.cell 1]; rfl, by rw [k2.cell 2]; rfl⟩ (fun hNew => ?_)
                            clear hKq Kq hHeld
                            have hHeld := hNew
                            clear hNew
                            (try simp only [List.getElem_toArray, List.getElem_cons_succ, List.getElem_cons_zero, Act.put, List.setIfInBounds_toArray, List.set_cons_zero, List.set_cons_succ])
                            clear ho5 hg5 hx9 HBIw
                            refine wpAnyH_ready (rs := [7]) (by kernel_rfl) (by simp) ?_
                            refine AllReadyH.cons rfl (fun Kq hKq => ?_) AllReadyH.nil
                            go_simp
                            refine hKq.out _ _ ⟨by rw [cell_set (by show w.heap.size ≠ w.heap.size + 1 + 1; omega)]; exact hHeld.1, by rw [cell_set (by have := HSF.out; have := HSZ.out; have := HM17.out.lt; show w7.heap.size ≠ w.heap.size + 1 + 1; have := H7W.out; omega)]; exact hHeld.2.1, by rw [cell_set (by have := HSF.out; have := HSZ.out; show w7.heap.size ≠ w.heap.size + 1 + 1; have := H7W.out; omega)]; exact hHeld.2.2.1, by rw [cell_set (by have := HSF.out; have := HSZ.out; show w7.heap.size ≠ w.heap.size + 1 + 1; have := H7W.out; omega)]; exact hHeld.2.2.2⟩ (fun hNew => ?_)
                            clear hKq Kq hHeld
                            have hHeld := hNew
                            clear hNew
                            (try simp only [List.getElem_toArray, List.getElem_cons_succ, List.getElem_cons_zero, Act.put, List.setIfInBounds_toArray, List.set_cons_zero, List.set_cons_succ])
                            refine wpAnyH_done (by kernel_rfl) ?_ _
                            refine NoPanic.normal ?_
                            clear hHeld f5 k3 k4 k1 k2
                            rw [HEND.out] at HBW
                            gi_wp2
                            exact HBW.out
                          focus
                            go_simp
                            (refine (HROWS.out _ HBD.out).mono ?_; rintro e w9 ⟨v9, rfl, hv9, b9⟩; obtain ⟨a9, c9, hvv, _, _⟩ := hv9.own.rws.shape; rw [rowsK_len] at hvv; subst hvv; have HB9w := Lib.hid (HBD.out.trans b9); have HV9 := Lib.hid hv9; have HO9 := Lib.hid (HOBk.out _ HB9w.out); have HO9a := Lib.hid (HOBk.out _ (HB9w.out.alloc HB9w.out.size (.cells #[.int .i64 N, .slice a9 K c9] 33))); clear hv9 b9)
                            (try (go_wp2_with fail))
                            refine hKq.out _ _ (HK37.out _ HB9w.out) (fun hNew => ?_)
                            clear hKq Kq hHeld
                            have hHeld := hNew
                            clear hNew
                            (try simp only [List.getElem_toArray, List.getElem_cons_succ, List.getElem_cons_zero, Act.put, List.setIfInBounds_toArray, List.set_cons_zero, List.set_cons_succ])
                            refine wpAnyH_take (i := 4) (v := ?_) rfl (by kernel_rfl) (by kernel_rfl) (by kernel_rfl) (fun _ _ _ h => h) (Or.inl ⟨by rfl, ?_⟩) hHeld ?_
                            rotate_left
                            focus ((intro w hSw; (try dsimp only at hSw); go_simp); (try with_reducible rfl))
                            (try simp only [List.getElem_toArray, List.getElem_cons_succ, List.getElem_cons_zero, Act.put, List.setIfInBounds_toArray, List.set_cons_zero, List.set_cons_succ])
                            refine wpAnyH_ready (rs := [0, 5]) (by kernel_rfl) (by simp) ?_
                            refine AllReadyH.cons rfl (fun Kq hKq => ?_) (AllReadyH.cons rfl (fun Kq hKq => ?_) AllReadyH.nil)
                            focus
                              have ho := HO9.out
                              go_simp
                              refine hKq.out _ _ (HK37.out _ HB9w.out) (fun hNew => ?_)
                              clear hKq Kq hHeld
                              have hHeld := hNew
                              clear hNew
                              (try simp only [List.getElem_toArray, List.getElem_cons_succ, List.getElem_cons_zero, Act.put, List.setIfInBounds_toArray, List.set_cons_zero, List.set_cons_succ])
                              clear ho
                              refine wpAnyH_ready (rs := [5]) (by kernel_rfl) (by simp) ?_
                              refine AllReadyH.cons rfl (fun Kq hKq => ?_) AllReadyH.nil
                              go_simp
                              refine hKq.out _ _ (HK37.out _ (HB9w.out.alloc HB9w.out.size _)) (fun hNew => ?_)
                              clear hKq Kq hHeld
                              have hHeld := hNew
                              clear hNew
                              (try simp only [List.getElem_toArray, List.getElem_cons_succ, List.getElem_cons_zero, Act.put, List.setIfInBounds_toArray, List.set_cons_zero, List.set_cons_succ])
                              refine wpAnyH_ready (rs := [6]) (by kernel_rfl) (by simp) ?_
                              refine AllReadyH.cons rfl (fun Kq hKq => ?_) AllReadyH.nil
                              refine step37 (w := w) (wF := wF) (W := W) (lo := wo.heap.size) (by rfl) (.tmp 114) (.tmp 119) (by rfl) (.slice ao Lo.length co) Lo (N : Int) _ (rowsK N (matX N K s (vecL p C.length (c : Int))) K) (by rfl) (by rfl) HOX.out (HWw.out.trans (HB9w.out.mono HWw.out.size)) HV9.out HWw.out.size HSZ.out (by have := HSF.out; have := HSZ.out; omega) (by omega) ?_; intro v5 w5x ho5 hg5
                              have hx9 := HOX.out.keep (Q := fun q => w.heap.size + 3 ≤ q ∧ q < W.heap.size ∧ ¬ (wo.heap.size ≤ q ∧ q ≤ wF.heap.size + 2)) (fun _ hq => hq) (fun q hq => ((HWw.out.trans (HB9w.out.mono HWw.out.size)).trans (((Below.refl _ w9).alloc (Nat.le_refl _) (.cells #[.int .i64 N, .slice a9 K c9] 33)).mono (by have := HWw.out.size; have := HB9w.out.size; omega))).block q hq.2.1)
                              have k1 := (HBN.out.below ((HWw.out.trans (HB9w.out.mono HWw.out.size)).trans (((Below.refl _ w9).alloc (Nat.le_refl _) (.cells #[.int .i64 N, .slice a9 K c9] 33)).mono (by have := HWw.out.size; have := HB9w.out.size; omega)))).grownX (by decide) hx9 hg5
                              have k2 := (HM17.out.below (HB9w.out.trans (((Below.refl _ w9).alloc (Nat.le_refl _) (.cells #[.int .i64 N, .slice a9 K c9] 33)).mono HB9w.out.size))).grownX (by decide) hx9 hg5
                              obtain ⟨k3, HBIw⟩ := BI.fin (ks := [w5.heap.size, w3.heap.size + 1]) HBI.out (by have := HSF.out; omega) (by have := HSF.out; omega) HDs.out (by have := HSF.out; simp; omega) HSZ.out HOB.out HOX.out (HWw.out.trans (HB9w.out.mono HWw.out.size)) hg5 ho5
                              obtain ⟨a5, c5, hv5, _, _⟩ := ho5.shape
                              simp only [List.length_append, List.length_cons, List.length_nil, Nat.zero_add] at hv5
                              subst hv5
                              have HBW := Lib.hid HBIw
                              have f5 := k3.frozen 0
                              have k4 := k3.cell 0
                              simp only [List.getElem?_toArray, List.getElem?_cons_zero] at k4
                              refine hKq.out _ _ ⟨by rw [k1.cell 0]; rfl, by rw [k2.cell 0]; rfl, by rw [k2.cell 1]; rfl, by rw [k2.cell 2]; rfl⟩ (fun hNew => ?_)
                              clear hKq Kq hHeld
                              have hHeld := hNew
                              clear hNew
                              (try simp only [List.getElem_toArray, List.getElem_cons_succ, List.getElem_cons_zero, Act.put, List.setIfInBounds_toArray, List.set_cons_zero, List.set_cons_succ])
                              clear ho5 hg5 hx9 HBIw
                              refine wpAnyH_ready (rs := [7]) (by kernel_rfl) (by simp) ?_
                              refine AllReadyH.cons rfl (fun Kq hKq => ?_) AllReadyH.nil
                              go_simp
                              refine hKq.out _ _ ⟨by rw [cell_set (by show w.heap.size ≠ w.heap.size + 1 + 1; omega)]; exact hHeld.1, by rw [cell_set (by have := HSF.out; have := HSZ.out; have := HM17.out.lt; show w7.heap.size ≠ w.heap.size + 1 + 1; have := H7W.out; omega)]; exact hHeld.2.1, by rw [cell_set (by have := HSF.out; have := HSZ.out; show w7.heap.size ≠ w.heap.size + 1 + 1; have := H7W.out; omega)]; exact hHeld.2.2.1, by rw [cell_set (by have := HSF.out; have := HSZ.out; show w7.heap.size ≠ w.heap.size + 1 + 1; have := H7W.out; omega)]; exact hHeld.2.2.2⟩ (fun hNew => ?_)
                              clear hKq Kq hHeld
                              have hHeld := hNew
                              clear hNew
                              (try simp only [List.getElem_toArray, List.getElem_cons_succ, List.getElem_cons_zero, Act.put, List.setIfInBounds_toArray, List.set_cons_zero, List.set_cons_succ])
                              refine wpAnyH_done (by kernel_rfl) ?_ _
                              refine NoPanic.normal ?_
                              clear hHeld f5 k3 k4 k1 k2
                              rw [HEND.out] at HBW
                              gi_wp2
                              exact HBW.out
                            focus
                              go_simp
                              refine hKq.out _ _ (HK37.out _ (HB9w.out.alloc HB9w.out.size _)) (fun hNew => ?_)
                              clear hKq Kq hHeld
                              have hHeld := hNew
                              clear hNew
                              (try simp only [List.getElem_toArray, List.getElem_cons_succ, List.getElem_cons_zero, Act.put, List.setIfInBounds_toArray, List.set_cons_zero, List.set_cons_succ])
                              refine wpAnyH_ready (rs := [0]) (by kernel_rfl) (by simp) ?_
                              refine AllReadyH.cons rfl (fun Kq hKq => ?_) AllReadyH.nil
                              have ho := HO9a.out
                              go_simp
                              refine hKq.out _ _ (HK37.out _ (HB9w.out.alloc HB9w.out.size _)) (fun hNew => ?_)
                              clear hKq Kq hHeld
                              have hHeld := hNew
                              clear hNew
                              (try simp only [List.getElem_toArray, List.getElem_cons_succ, List.getElem_cons_zero, Act.put, List.setIfInBounds_toArray, List.set_cons_zero, List.set_cons_succ])
                              clear ho
                              refine wpAnyH_ready (rs := [6]) (by kernel_rfl) (by simp) ?_
                              refine AllReadyH.cons rfl (fun Kq hKq => ?_) AllReadyH.nil
                              refine step37 (w := w) (wF := wF) (W := W) (lo := wo.heap.size) (by rfl) (.tmp 114) (.tmp 119) (by rfl) (.slice ao Lo.length co) Lo (N : Int) _ (rowsK N (matX N K s (vecL p C.length (c : Int))) K) (by rfl) (by rfl) HOX.out (HWw.out.trans (HB9w.out.mono HWw.out.size)) HV9.out HWw.out.size HSZ.out (by have := HSF.out; have := HSZ.out; omega) (by omega) ?_; intro v5 w5x ho5 hg5
                              have hx9 := HOX.out.keep (Q := fun q => w.heap.size + 3 ≤ q ∧ q < W.heap.size ∧ ¬ (wo.heap.size ≤ q ∧ q ≤ wF.heap.size + 2)) (fun _ hq => hq) (fun q hq => ((HWw.out.trans (HB9w.out.mono HWw.out.size)).trans (((Below.refl _ w9).alloc (Nat.le_refl _) (.cells #[.int .i64 N, .slice a9 K c9] 33)).mono (by have := HWw.out.size; have := HB9w.out.size; omega))).block q hq.2.1)
                              have k1 := (HBN.out.below ((HWw.out.trans (HB9w.out.mono HWw.out.size)).trans (((Below.refl _ w9).alloc (Nat.le_refl _) (.cells #[.int .i64 N, .slice a9 K c9] 33)).mono (by have := HWw.out.size; have := HB9w.out.size; omega)))).grownX (by decide) hx9 hg5
                              have k2 := (HM17.out.below (HB9w.out.trans (((Below.refl _ w9).alloc (Nat.le_refl _) (.cells #[.int .i64 N, .slice a9 K c9] 33)).mono HB9w.out.size))).grownX (by decide) hx9 hg5
                              obtain ⟨k3, HBIw⟩ := BI.fin (ks := [w5.heap.size, w3.heap.size + 1]) HBI.out (by have := HSF.out; omega) (by have := HSF.out; omega) HDs.out (by have := HSF.out; simp; omega) HSZ.out HOB.out HOX.out (HWw.out.trans (HB9w.out.mono HWw.out.size)) hg5 ho5
                              obtain ⟨a5, c5, hv5, _, _⟩ := ho5.shape
                              simp only [List.length_append, List.length_cons, List.length_nil, Nat.zero_add] at hv5
                              subst hv5
                              have HBW := Lib.hid HBIw
                              have f5 := k3.frozen 0
                              have k4 := k3.cell 0
                              simp only [List.getElem?_toArray, List.getElem?_cons_zero] at k4
                              refine hKq.out _ _ ⟨by rw [k1.cell 0]; rfl, by rw [k2.cell 0]; rfl, by rw [k2.cell 1]; rfl, by rw [k2.cell 2]; rfl⟩ (fun hNew => ?_)
                              clear hKq Kq hHeld
                              have hHeld := hNew
                              clear hNew
                              (try simp only [List.getElem_toArray, List.getElem_cons_succ, List.getElem_cons_zero, Act.put, List.setIfInBounds_toArray, List.set_cons_zero, List.set_cons_succ])
                              clear ho5 hg5 hx9 HBIw
                              refine wpAnyH_ready (rs := [7]) (by kernel_rfl) (by simp) ?_
                              refine AllReadyH.cons rfl (fun Kq hKq => ?_) AllReadyH.nil
                              go_simp
                              refine hKq.out _ _ ⟨by rw [cell_set (by show w.heap.size ≠ w.heap.size + 1 + 1; omega)]; exact hHeld.1, by rw [cell_set (by have := HSF.out; have := HSZ.out; have := HM17.out.lt; show w7.heap.size ≠ w.heap.size + 1 + 1; have := H7W.out; omega)]; exact hHeld.2.1, by rw [cell_set (by have := HSF.out; have := HSZ.out; show w7.heap.size ≠ w.heap.size + 1 + 1; have := H7W.out; omega)]; exact hHeld.2.2.1, by rw [cell_set (by have := HSF.out; have := HSZ.out; show w7.heap.size ≠ w.heap.size + 1 + 1; have := H7W.out; omega)]; exact hHeld.2.2.2⟩ (fun hNew => ?_)
                              clear hKq Kq hHeld
                              have hHeld := hNew
                              clear hNew
                              (try simp only [List.getElem_toArray, List.getElem_cons_succ, List.getElem_cons_zero, Act.put, List.setIfInBounds_toArray, List.set_cons_zero, List.set_cons_succ])
                              refine wpAnyH_done (by kernel_rfl) ?_ _
                              refine NoPanic.normal ?_
                              clear hHeld f5 k3 k4 k1 k2
                              rw [HEND.out] at HBW
                              gi_wp2
                              exact HBW.out
                case done =>
                  intro W hI hD
                  have hm1 : 1 ≤ p ^ C.length := by have := pow_bd hF.out (show C.length ≤ 8 by omega); omega
                  have HSN := Lib.hid (BI.done hI hD HS.out HBO.out HDs.out)
                  have HRS := Lib.hid (show rawL p N K s ++ rawC p N K s (p ^ C.length).toNat = rawL p N K (s + 1) by rw [rawL, rawS, if_pos (by rw [← HPP.out]; exact hl), HCX.out])
                  clear hI hD
                  dsimp only
                  go_wp2
                  go_roundg (gk - 1)
                  case rel => exact ⟨s + 1, wF.heap.size :: Ds, by omega, by omega, by go_num, rfl, by rw [← HRS.out]; exact HSN⟩
                  case measure => omega
          · have hlb : ((P.length : Int) != (K : Int)) = true := by simp; omega
            have HR := Lib.hid (show rawL p N K s = rawL p N K (s + 1) by rw [rawL, rawS, if_neg (by rw [← HPP.out]; exact hl), List.append_nil])
            subst hpv
            go_wp2
            go_roundg (gk - 1)
            case rel => exact ⟨s + 1, Ds, by omega, by omega, by go_num, rfl, by rw [← HR.out]; exact HS2⟩
            case measure => omega
    · -- the sort
      have hsM : s = M := by omega
      have hpos := rawL_pos (k := K) hF.out hN hK HM.out
      have hlen := rawL_len (k := K) hF.out hN
      obtain ⟨L, hL⟩ : ∃ L, L = outS N (rawL p N K M) := ⟨_, rfl⟩
      have hLp : 0 < L.length := by rw [hL, outS_len]; exact hpos
      have hLl : L.length ≤ 1099511627776 := by
        rw [hL, outS_len]
        rcases Nat.lt_or_ge M 16 with h | h
        · have := hlen M h; omega
        · have hm : M = 15 + 1 := by omega
          have h1 := hlen 15 (by omega)
          have h2 := rawS_len (k := K) hF.out hN (show 15 < 16 by omega)
          rw [hm, rawL, List.length_append]; omega
      subst hsM
      rw [← hL] at HS
      have HL := Lib.hid (show L = outS N (rawL p N K (2 ^ N)) by rw [hL, HM.out])
      obtain ⟨⟨v, hvb, hvx⟩, _⟩ := id HS.out
      obtain ⟨av, cv, rfl, _, _⟩ := hvx.shape
      have c1 := hvb.cell 0
      simp only [List.getElem?_toArray, List.getElem?_cons_zero] at c1
      have hcon := sort_spx wo _ L hvx hLp hLl
      have HVB := Lib.hid hvb; have HVX := Lib.hid hvx
      clear hpos hlen hL hvb hvx
      go_wp2_with fail
      refine hcon.mono ?_; rintro e w1 ⟨rfl, ⟨L', hp1, hp2, hx1⟩, hg1⟩
      have c2 := ((HVB.out).grownX (by decide) HVX.out hg1).cell 0
      simp only [List.getElem?_toArray, List.getElem?_cons_zero] at c2
      have HFI := Lib.hid (fun (W' : World) => SI.fin (W' := W') HS.out HVB.out HVX.out hx1 hg1)
      have HP := Lib.hid (And.intro hp1 hp2)
      clear hp1 hp2 hx1 hg1 c1 hcon
      go_wp2
      refine leavesM Ds w1 HS.out.2.2.2.2.1 (HFI.out w1).1 (fun W' e1 e2 e3 e4 e5 => ?_)
      have h9 := (HFI.out W').2 e1 e2 e3 e4 e5
      exact ⟨_, results_tmp rfl _ _ _, .slice av L.length cv, L', rfl, by rw [← HL.out]; exact HP.out.1, by simpa using HP.out.2, h9.1, h9.2⟩
end Go.Proofs.Ytjcgommdeplbbaa
