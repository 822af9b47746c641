/- SpacesOf, of the reference: l5List walked. SpacesOf, of the reference. The program's bases, sorted, are the reference's. No program is read here. -/
import Derived.Test.YtjcgommdeplbbaaSpE
import Derived.Test.YtjcgommdeplbbaaMg4
namespace Go.Proofs.Ytjcgommdeplbbaa
open Go.RowKit
set_option linter.unusedVariables false
set_option linter.unusedSimpArgs false

/-- an own slice of spaces -/
def SpsOK (L : List Sp) (w : World) (e : Ending) (w' : World) : Prop := ∃ v, e = .returned v ∧ OwnS w' w.heap.size v L ∧ Below w.heap.size w w'
set_option maxRecDepth 100000 in
set_option maxHeartbeats 4000000 in
theorem s_l5List0 (p : Int) (N : Nat) (w : World) : Calls Try.prog 10 #[.int .i64 p, .int .i64 N, .int .i64 0] w (SpsOK (outS N [[]]) w) := by
  have h1 : Below w.heap.size w (w.alloc (.cells #[] 37)) := (Below.refl _ w).alloc (Nat.le_refl _) _
  have HX := (OwnS.one (w := w.alloc (.cells #[] 37)) (B := w.heap.size) (n := (N : Int)) (by simp) (u := .slice (some ⟨w.heap.size, 0, none⟩) 0 0) (ll := []) ⟨_, 0, rfl, Nat.le_refl _, by decide, .inl rfl⟩)
  rw [World.size_alloc] at HX
  replace HX := Lib.hid HX
  have HB := Lib.hid (h1.alloc (by simp) (.cells #[.int .i64 N, .slice (some ⟨w.heap.size, 0, none⟩) 0 0] 33))
  clear h1
  go_enter Try.func10, Try.ntmps10
  go_wp2
  go_ret
  exact ⟨_, rfl, HX.out, HB.out⟩
set_option maxRecDepth 100000 in
set_option maxHeartbeats 4000000 in
theorem s_l5List (p : Int) (N : Nat) (hp : isF p = true) (hN : N ≤ 4) : ∀ (k : Nat), k ≤ N → ∀ (w : World),
    Calls Try.prog 10 #[.int .i64 p, .int .i64 N, .int .i64 k] w (SpsOK (outS N (refL p N (p ^ N).toNat k)) w) := by
  intro k
  induction k with
  | zero => intro _ w; exact s_l5List0 p N w
  | succ k ih =>
    intro hk w
    obtain ⟨M, hM⟩ : ∃ M, M = (p ^ N).toNat := ⟨_, rfl⟩
    have hpw := pow_bd hp (show N ≤ 8 by omega)
    have hMi : ((M : Nat) : Int) = p ^ N := by rw [hM]; omega
    have hM6 : M ≤ 625 := by
      have h4 : N = 0 ∨ N = 1 ∨ N = 2 ∨ N = 3 ∨ N = 4 := by omega
      rw [hM]
      rcases isF_cases hp with rfl | rfl | rfl <;> rcases h4 with rfl | rfl | rfl | rfl | rfl <;> decide
    have HMI := Lib.hid hMi
    have hkN : (k : Int) ≤ 3 := by omega
    have HW := Lib.hid (show Below w.heap.size w (w.alloc (.cells #[] 33)) from (Below.refl _ w).alloc (Nat.le_refl _) _)
    obtain ⟨R, hR⟩ : ∃ R, R = refL p N M k := ⟨_, rfl⟩
    have hcon := ih (by omega) (w.alloc (.cells #[] 33))
    rw [← hM, ← hR] at hcon
    have HRm := Lib.hid (show ∀ B ∈ R, B.length = k ∧ ∀ b ∈ B, b ∈ vecs p N M from fun B hB => refL_mem (by rw [← hR]; exact hB))
    have HRE := Lib.hid hR
    have hRl : R.length ≤ 625 ^ 3 := by
      rw [hR]
      refine Nat.le_trans (refL_le p N M k) (Nat.le_trans (Nat.pow_le_pow_left hM6 k) (Nat.pow_le_pow_right (by omega) (by omega)))
    have HO0 := Lib.hid (OwnS.made w (Nat.le_refl w.heap.size))
    rw [show SpsOK (outS N (refL p N (p ^ N).toNat (k + 1))) w = SpsOK (outS N ((vecs p N M).flatMap fun v => inn v R)) w by rw [← hM, hR]; rfl]
    have HP := Lib.hid (show ∀ j : Nat, j ≤ N → 1 ≤ p ^ j ∧ p ^ j ≤ 390625 ∧ 0 ≤ p ^ j * p ∧ p ^ j * p ≤ 1953125 from fun j hj => pow_bd hp (by omega))
    have HF := Lib.hid hp
    have hp5 : 0 ≤ p ∧ p ≤ 5 := by have := isF_cases hp; omega
    clear hM hMi ih hR hpw hp
    go_enter Try.func10, Try.ntmps10
    go_wp2_with fail
    refine hcon.mono ?_; rintro e w1 ⟨rest, rfl, hrest, b1⟩
    obtain ⟨ar, cr, rfl, hlr, hmr⟩ := hrest.shape
    rw [outS_len] at *
    have hs1 : w.heap.size + 1 ≤ w1.heap.size := by have := b1.size; simpa using this
    have hlt := hrest.ownLt
    have HLI := Lib.hid (show LI w w.heap.size w1.heap.size (.slice (some ⟨w.heap.size, 0, none⟩) 0 0) (.slice ar R.length cr) (outS N []) (outS N R) w1 from
      ⟨HO0.out.below b1, fun g e => .inl (by simpa [Value.ownBlock] using e.symm), by simpa using hrest, fun g e => (hlt g e).2, HW.out.trans (b1.mono (by simp)), Nat.le_refl _, Nat.le_refl _, by omega⟩)
    clear hrest b1 hlt
    go_wp2
    go_loop [9, 10] (fun av iv => ∃ j : Nat, j ≤ N ∧ iv = .int .i64 j ∧ av = .int .i64 (p ^ j)) (fun _ iv => N - (intOf iv).toNat)
    case atStart => exact ⟨0, by omega, rfl, by simp⟩
    case round =>
      obtain ⟨j, hj, rfl, rfl⟩ := hrel
      obtain ⟨hp1, hp2, hp3, hp4⟩ := HP.out j hj
      have HS := Lib.hid (show p ^ (j + 1) = p ^ j * p from Int.pow_succ ..)
      obtain ⟨q, hq⟩ : ∃ q, q = p ^ j := ⟨_, rfl⟩
      rw [← hq] at hp1 hp2 hp3 hp4 HS
      have HQ := Lib.hid hq
      rw [← hq]
      clear hq
      by_cases hlt : j < N
      · go_wp2
        go_round
        case rel => exact ⟨j + 1, by omega, by go_num, by rw [HS.out]⟩
        case measure => simp [intOf]; omega
      · obtain rfl : j = N := by omega
        have hqM : q = (M : Int) := by rw [HQ.out, HMI.out]
        subst hqM
        clear HQ HS hp1 hp2 hp3 hp4
        go_wp2
        go_loopw [7, 11] (fun s c wr => ∃ t : Nat, t ≤ M ∧ c = .int .i64 t ∧ Hid (LI w w.heap.size w1.heap.size s (.slice ar R.length cr) (outS j ((vecs p j t).flatMap fun v => inn v R)) (outS j R) wr)) (fun _ c _ => M - (intOf c).toNat)
        case atStart => exact ⟨0, by omega, rfl, HLI⟩
        case round =>
          obtain ⟨c, hc, rfl, HL⟩ := hrel
          by_cases hlt : c < M
          · have HVR := Lib.hid (show vecR p (j : Int) (c : Int) = vecL p j (c : Int) by
              have : vecOK p (j : Int) (c : Int) = true := by
                unfold vecOK
                have h1 : inR (j : Int) 0 8 = true := inR_mk (by omega) (by omega)
                have h2 := HMI.out
                simp [HF.out, h1, ← h2]; omega
              unfold vecR; rw [if_pos this]; simp)
            have HISV := Lib.hid (vecL_isV HF.out (show j ≤ 64 by omega) (c : Int))
            have HVL := Lib.hid (vecL_len p j (c : Int))
            have HVS := Lib.hid (vecs_succ p j c)
            go_wp2_with fail
            refine (s_VectorOf p j c (by omega) wr).mono ?_; rintro e w2 ⟨v, rfl, hv, hfv, b2⟩
            rw [HVR.out] at hv
            obtain ⟨vj, hvj⟩ : ∃ vj, vj = vecL p j (c : Int) := ⟨_, rfl⟩
            rw [← hvj] at hv HISV HVL HVS
            have HL2 := Lib.hid (HL.out.below b2)
            have hsz2 : w.heap.size ≤ wr.heap.size := HL.out.2.2.2.2.1.size
            have HV := Lib.hid hv
            have HFV := Lib.hid (hfv.mono hsz2)
            obtain ⟨av, cv, rfl, _, _⟩ := hv.shape
            obtain ⟨Lc, hLc⟩ : ∃ Lc, Lc = (vecs p j c).flatMap fun v => inn v R := ⟨_, rfl⟩
            rw [← hLc] at HL2
            have HLC := Lib.hid hLc
            have hLcl : Lc.length + R.length ≤ 152587890625 := by
              have h1 := flatInn_le R (vecs p j c)
              rw [← hLc] at h1
              have h2 : (vecs p j c).length = c := by simp [vecs]
              rw [h2] at h1
              have h3 : (c + 1) * R.length ≤ 625 * 625 ^ 3 := Nat.mul_le_mul (by omega) hRl
              rw [Nat.succ_mul] at h3
              omega
            clear hv hfv b2 HL hvj hLc
            go_wp2
            go_loopw [7, 14] (fun s iv wr => ∃ t : Nat, t ≤ R.length ∧ iv = .int .i64 t ∧ Hid (LI w w.heap.size w1.heap.size s (.slice ar R.length cr) (outS j (Lc ++ inn vj (R.take t))) (outS j R) wr) ∧ Hid (Ints wr (.slice av vj.length cv) vj)) (fun _ iv _ => R.length - (intOf iv).toNat)
            case atStart => exact ⟨0, by omega, rfl, by simpa [inn] using HL2, HV⟩
            case round =>
              obtain ⟨t, ht, rfl, HL, HV⟩ := hrel
              by_cases hlt : t < R.length
              · obtain ⟨g, u, har, hgB, hgs, hc0, hc1, hRu⟩ := HL.out.2.2.1.cell (i := t) (by rw [outS_len]; exact hlt)
                subst har
                rw [outS_get j R hlt] at hc0 hRu
                dsimp only at hc0 hRu
                have ht0 : (0 : Int) ≤ (t : Int) := by omega
                have ht1 : (t : Int) < (R.length : Int) := by omega
                obtain ⟨hBl, hBm⟩ := HRm.out (R.getD t []) (by simp [List.getD, hlt])
                have HTK := Lib.hid (inn_take (v := vj) hlt)
                obtain ⟨Bt, hBt⟩ : ∃ Bt, Bt = R.getD t [] := ⟨_, rfl⟩
                rw [← hBt] at hRu hBl hBm HTK
                have HBT := Lib.hid hBt
                have ba : Below wr.heap.size wr (wr.alloc (.cells #[.slice av vj.length cv] 37)) := (Below.refl _ wr).alloc (Nat.le_refl _) _
                have hszr : w.heap.size ≤ wr.heap.size := HL.out.2.2.2.2.1.size
                have HON := Lib.hid (OwnR.one hszr HV.out HFV.out)
                have HRU := Lib.hid ((hRu.below ba).mono (show w.heap.size ≤ w.heap.size + 1 by omega))
                have HBA := Lib.hid ba
                have hd0 := ba.cell (p := ⟨g, t * 2, none⟩) hgs
                have hd1 := ba.cell (p := ⟨g, t * 2 + 1, none⟩) hgs
                rw [hc0] at hd0; rw [hc1] at hd1
                obtain ⟨au, cu, rfl, _, _⟩ := hRu.shape
                have HBL := Lib.hid hBl
                have hb4 : Bt.length ≤ 4 := by omega
                clear ba hBt hRu hBl
                go_wp2_with (at_builtin; refine app_rows (wr.alloc (.cells #[.slice av vj.length cv] 37)) rfl (.tmp 56) (.tmp 61) rfl w.heap.size _ _ [vj] Bt rfl rfl HON.out HRU.out (by simp; omega) (by simp; omega) ?_)
                intro v5 w5 ho5 hg5
                have b5 : Below wr.heap.size wr w5 := Below.grown HBA.out hg5 (by simp) (fun k hk => by simp [Value.ownBlock] at hk; omega)
                have HL5 := Lib.hid (HL.out.below b5)
                have HV5 := Lib.hid (HV.out.below b5)
                have HO5 := Lib.hid ho5
                obtain ⟨a5, c5, hv5, hl5, hm5⟩ := HO5.out.rws.shape
                simp only [List.cons_append, List.nil_append, List.length_cons] at hv5 hl5
                subst hv5
                clear ho5 hg5 HV HON HRU HBA hd0 hd1 hc0 hc1
                have b56 : Below w5.heap.size w5 (w5.alloc (.cells #[.int .i64 j, .slice a5 (Bt.length + 1) c5] 33)) := (Below.refl _ w5).alloc (Nat.le_refl _) _
                have HB56 := Lib.hid b56
                have HRS := Lib.hid ((HO5.out.rws.below b56).mono (Nat.zero_le _))
                have HR5 := Lib.hid (HO5.out.rws.below b56)
                have P6 := Lib.hid (Blk.new w5 #[.int .i64 j, .slice a5 (Bt.length + 1) c5] 33)
                have HRW := Lib.hid (show ∀ i, i < (vj :: Bt).length → ((vj :: Bt).getD i []).length = j ∧ isV p ((vj :: Bt).getD i []) = true from fun i hi => by
                  cases i with
                  | zero => exact ⟨by simpa using HVL.out, by simpa using HISV.out⟩
                  | succ i =>
                    have hi' : i < Bt.length := by simpa using hi
                    have hm : Bt.getD i [] ∈ Bt := by simp [List.getD, hi']
                    have h2 := hBm _ hm
                    unfold vecs at h2
                    simp only [List.mem_map] at h2
                    obtain ⟨x, _, hx⟩ := h2
                    rw [List.getD_cons_succ, ← hx]
                    exact ⟨vecL_len _ _ _, vecL_isV HF.out (by omega) _⟩)
                clear b56 HO5 b5 hBm
                go_wp2_with fail
                refine (s_IsSpace p j _ (vj :: Bt) _ HF.out (by omega) (by omega) (by simp; omega) HRS.out HRW.out).mono ?_; rintro e w7 ⟨rfl, b7⟩
                have HL7 := Lib.hid (HL5.out.below (HB56.out.trans (b7.mono (by simp))))
                have HV7 := Lib.hid (HV5.out.below (HB56.out.trans (b7.mono (by simp))))
                have HR7 := Lib.hid (HR5.out.below b7)
                obtain ⟨z0, z1⟩ := blk2 (P6.out.below b7)
                have hsz7 : w.heap.size ≤ w7.heap.size := HL7.out.2.2.2.2.1.size
                have hfl := inn_le vj (R.take t)
                rw [List.length_take] at hfl
                clear b7 HRS HR5 P6 HB56 HL5 HV5
                cases hrr : rrB (vj :: Bt) with
                | false =>
                  have HTF := Lib.hid (show inn vj (R.take (t + 1)) = inn vj (R.take t) by rw [HTK.out, hrr]; simp)
                  clear hrr HTK
                  go_wp2
                  go_roundw
                  case rel => exact ⟨t + 1, by omega, by go_num, by rw [HTF.out]; exact HL7, HV7⟩
                  case measure => simp [intOf]; omega
                | true =>
                  have HTF := Lib.hid (show outS j (Lc ++ inn vj (R.take t)) ++ [((j : Int), vj :: Bt)] = outS j (Lc ++ inn vj (R.take (t + 1))) by
                    rw [HTK.out, hrr, if_pos rfl, ← List.append_assoc, outS_app j (Lc ++ _)]; rfl)
                  clear hrr HTK
                  go_wp2_with (at_builtin; refine app_sp w7 rfl (.tmp 67) (.tmp 69) rfl w.heap.size _ _ (j : Int) _ (vj :: Bt) rfl rfl HL7.out.1 HR7.out hsz7 (by rw [outS_len, List.length_append]; omega) ?_)
                  intro v8 w8 ho8 hg8 hl8
                  have H8 := HL7.out.app ho8 hg8 hl8
                  rw [HTF.out] at H8
                  have HL8 := Lib.hid H8
                  have hal : Below w7.heap.size w7 (w7.alloc (.cells #[.int .i64 j, .slice a5 (Bt.length + 1) c5] 33)) := (Below.refl _ w7).alloc (Nat.le_refl _) _
                  have HV8 := Lib.hid (Ints.grownS (HV7.out.below hal) (HL7.out.1.below hal) hg8)
                  clear ho8 hg8 hl8 H8 HL7 HV7 HR7 z0 z1 hal
                  go_wp2
                  go_roundw
                  case rel => exact ⟨t + 1, by omega, by go_num, HL8, HV8⟩
                  case measure => simp [intOf]; omega
              · have hte : R.take t = R := List.take_of_length_le (by omega)
                have HE := Lib.hid (show outS j (Lc ++ inn vj (R.take t)) = outS j ((vecs p j (c + 1)).flatMap fun v => inn v R) by
                  rw [hte, HLC.out, HVS.out, List.flatMap_append]; simp)
                have HL9 := HL.out
                rw [HE.out] at HL9
                replace HL9 := Lib.hid HL9
                clear HL HE hte
                go_wp2
                go_roundw
                case rel => exact ⟨c + 1, by omega, by go_num, HL9⟩
                case measure => simp [intOf]; omega
          · obtain rfl : c = M := by omega
            have HX := Lib.hid (show SpsOK (outS j ((vecs p j c).flatMap fun v => inn v R)) w (.returned u7) wr from ⟨_, rfl, HL.out.1, HL.out.2.2.2.2.1⟩)
            clear HL
            go_wp2
            go_ret
            exact HX.out
end Go.Proofs.Ytjcgommdeplbbaa

namespace Go.Proofs.Ytjcgommdeplbbaa
open Go.RowKit
set_option linter.unusedVariables false
set_option linter.unusedSimpArgs false

/-- whether the spaces are few enough -/
def spcOK (p n k : Int) : Bool := decide (0 ≤ cntV p n k) && decide (cntV p n k ≤ 200)
def spcL (p n k : Int) : List Sp := if spcOK p n k = true then outS n.toNat (refL p n.toNat (p ^ n.toNat).toNat k.toNat) else []
theorem spcOK_true {p n k : Int} (h : spcOK p n k = true) : isF p = true ∧ 0 ≤ n ∧ n ≤ 4 ∧ 0 ≤ k ∧ k ≤ n ∧ 0 ≤ cntV p n k ∧ cntV p n k ≤ 200 := by
  unfold spcOK at h
  simp only [Bool.and_eq_true, decide_eq_true_eq] at h
  obtain ⟨h1, h2⟩ := h
  have h3 : isF p = true ∧ inR n 0 4 = true ∧ inR k 0 n = true := by
    by_cases h : isF p = true ∧ inR n 0 4 = true ∧ inR k 0 n = true
    · exact h
    · unfold cntV at h1; rw [if_neg h] at h1; omega
  obtain ⟨h4, h5, h6⟩ := h3
  have h7 := inR_true h5
  have h8 := inR_true h6
  exact ⟨h4, by omega, by omega, by omega, by omega, h1, h2⟩
def SpcOK (L : List Sp) (ok : Bool) (w : World) (e : Ending) (w' : World) : Prop := ∃ v, e = .returned (.tuple #[v, .bool ok]) ∧ OwnS w' w.heap.size v L ∧ Below w.heap.size w w'
set_option maxRecDepth 100000 in
set_option maxHeartbeats 1000000 in
theorem s_SpacesOf (p n k : Int) (w : World) : Calls Try.prog 4 #[.int .i64 p, .int .i64 n, .int .i64 k] w (SpcOK (spcL p n k) (spcOK p n k) w) := by
  cases hok : spcOK p n k with
  | false =>
    have HL := Lib.hid (show spcL p n k = [] by unfold spcL; rw [hok]; simp)
    have hc : cntV p n k < 0 ∨ ¬ cntV p n k < 0 ∧ cntV p n k > 200 := by
      unfold spcOK at hok
      simp only [Bool.and_eq_false_iff, decide_eq_false_iff_not] at hok
      omega
    have HX := Lib.hid (OwnS.made w (Nat.le_refl w.heap.size))
    have HB := Lib.hid (show Below w.heap.size w (w.alloc (.cells #[] 33)) from (Below.refl _ w).alloc (Nat.le_refl _) _)
    have hcon := s_CountSpaces p n k w
    generalize cntV p n k = c at hcon hc
    clear hok
    rcases hc with hc | ⟨hc0, hc⟩
    · go_enter Try.func4, Try.ntmps4
      go_wp2_with fail
      refine hcon.mono ?_; rintro e w1 ⟨rfl, rfl⟩
      go_wp2
      go_ret2
      exact ⟨_, rfl, by rw [HL.out]; exact HX.out, HB.out⟩
    · go_enter Try.func4, Try.ntmps4
      go_wp2_with fail
      refine hcon.mono ?_; rintro e w1 ⟨rfl, rfl⟩
      go_wp2
      go_ret2
      exact ⟨_, rfl, by rw [HL.out]; exact HX.out, HB.out⟩
  | true =>
    obtain ⟨h1, h2, h3, h4, h5, h6, h7⟩ := spcOK_true hok
    have HL := Lib.hid (show spcL p n k = outS n.toNat (refL p n.toNat (p ^ n.toNat).toNat k.toNat) by unfold spcL; rw [if_pos hok])
    have hcon := s_CountSpaces p n k w
    generalize cntV p n k = c at hcon h6 h7
    obtain ⟨N, rfl⟩ := Int.eq_ofNat_of_zero_le h2
    obtain ⟨K, rfl⟩ := Int.eq_ofNat_of_zero_le h4
    have hc2 := s_l5List p N h1 (by omega) K (by omega) w
    have h8 : ¬ c < 0 := by omega
    have h9 : ¬ c > 200 := by omega
    simp only [Int.toNat_natCast] at HL
    clear hok
    go_enter Try.func4, Try.ntmps4
    go_wp2_with fail
    refine hcon.mono ?_; rintro e w1 ⟨rfl, rfl⟩
    go_wp2_with fail
    refine hc2.mono ?_; rintro e w2 ⟨v, rfl, hv, hb⟩
    have HX := Lib.hid (show SpcOK (spcL p N K) true w (.returned (.tuple #[v, .bool true])) w2 from ⟨v, rfl, by rw [HL.out]; exact hv, hb⟩)
    clear hv hb
    go_wp2
    go_ret2
    exact HX.out
end Go.Proofs.Ytjcgommdeplbbaa

namespace Go.Proofs.Ytjcgommdeplbbaa
set_option linter.unusedVariables false
set_option linter.unusedSimpArgs false

theorem mem_rawL {p : Int} {n k : Nat} {B : List (List Int)} : ∀ {M : Nat}, B ∈ rawL p n k M ↔ ∃ s, s < M ∧ B ∈ rawS p n k s
  | 0 => by simp [rawL]
  | M + 1 => by
    rw [rawL, List.mem_append, mem_rawL (M := M)]
    constructor
    · rintro (⟨s, h1, h2⟩ | h)
      · exact ⟨s, by omega, h2⟩
      · exact ⟨M, by omega, h⟩
    · rintro ⟨s, h1, h2⟩
      rcases Nat.lt_or_ge s M with h | h
      · exact .inl ⟨s, h, h2⟩
      · have : s = M := by omega
        subst this
        exact .inr h2
theorem mem_rawS {p : Int} {n k s : Nat} {B : List (List Int)} : B ∈ rawS p n k s ↔ (pivL s n).length = k ∧ ∃ x : Nat, x < (p ^ (csX n k s).length).toNat ∧ B = basX n k s (vecL p (csX n k s).length (x : Int)) := by
  unfold rawS
  split
  · rename_i h
    simp only [rawC, List.mem_map, List.mem_range, h, true_and]
    constructor
    · rintro ⟨x, h1, rfl⟩; exact ⟨x, h1, rfl⟩
    · rintro ⟨x, h1, rfl⟩; exact ⟨x, h1, rfl⟩
  · rename_i h
    simp [h]
theorem bas_lead {n k s : Nat} (hl : (pivL s n).length = k) (vals : List Int) : (basX n k s vals).map leadI = (pivL s n).map Int.toNat := by
  have h := bas_RS hl vals
  have e := bas_len (n := n) (k := k) (s := s) vals
  apply List.ext_getElem (by simp [e, hl])
  intro i h1 h2
  have hi : i < k := by simpa [e] using h1
  have h3 := rs_lead (n := n) (B := basX n k s vals) (L := (pivL s n).map Int.toNat) (bas_rows vals) (by rw [e]; exact h) (i := i) (by omega)
  simp only [List.getElem_map]
  simp only [List.getD, List.getElem?_eq_getElem (show i < (basX n k s vals).length by omega), Option.getD_some, List.getElem?_map, List.getElem?_eq_getElem (show i < (pivL s n).length by omega), Option.map_some] at h3
  exact h3
theorem bas_inj {p : Int} (hp : 2 ≤ p) {n k s : Nat} {x y : Nat} (hx : (x : Int) < p ^ (csX n k s).length) (hy : (y : Int) < p ^ (csX n k s).length) (h : basX n k s (vecL p (csX n k s).length (x : Int)) = basX n k s (vecL p (csX n k s).length (y : Int))) : x = y := by
  have hv : vecL p (csX n k s).length (x : Int) = vecL p (csX n k s).length (y : Int) := by
    apply List.ext_getElem (by simp [vecL_len])
    intro t h1 h2
    have ht : t < (csX n k s).length := by simpa [vecL_len] using h1
    obtain ⟨r, c, e, hr, hc, _⟩ := cs_at ht
    have e1 := bas_fn (s := s) (vecL p (csX n k s).length (x : Int)) hr hc
    have e2 := bas_fn (s := s) (vecL p (csX n k s).length (y : Int)) hr hc
    rw [h, e2, mat_cell _ hc ht e, mat_cell _ hc ht e] at e1
    simpa [List.getD, vecL_len, ht] using e1.symm
  rcases Nat.lt_trichotomy x y with hlt | rfl | hlt
  · have := vec_lt hp (csX n k s).length x y (by omega) (by rw [Int.ediv_eq_zero_of_lt (by omega) hx, Int.ediv_eq_zero_of_lt (by omega) hy])
    rw [hv, ordV.refl] at this; omega
  · rfl
  · have := vec_lt hp (csX n k s).length y x (by omega) (by rw [Int.ediv_eq_zero_of_lt (by omega) hx, Int.ediv_eq_zero_of_lt (by omega) hy])
    rw [hv, ordV.refl] at this; omega
theorem rawL_nodup {p : Int} (hp : 2 ≤ p) {n k : Nat} (hn : n ≤ 4) : ∀ M, M ≤ 2 ^ n → (rawL p n k M).Nodup
  | 0, _ => by simp [rawL]
  | M + 1, hM => by
    have h16 : 2 ^ n ≤ 16 := Nat.le_trans (Nat.pow_le_pow_right (by omega) hn) (by decide)
    rw [rawL, List.nodup_append]
    refine ⟨rawL_nodup hp hn M (by omega), ?_, fun a ha b hb e => ?_⟩
    · unfold rawS
      split
      · unfold rawC
        unfold List.Nodup
        rw [List.pairwise_map]
        refine (List.nodup_range (n := (p ^ (csX n k M).length).toNat)).imp_of_mem ?_
        intro x y hx hy hne e
        have hx' := List.mem_range.1 hx
        have hy' := List.mem_range.1 hy
        exact hne (bas_inj hp (by omega) (by omega) e)
      · exact List.nodup_nil
    · subst e
      obtain ⟨s, hs, h1⟩ := mem_rawL.1 ha
      obtain ⟨h2, x, hx, e1⟩ := mem_rawS.1 h1
      obtain ⟨h3, y, hy, e2⟩ := mem_rawS.1 hb
      have e3 : (pivL s n).map Int.toNat = (pivL M n).map Int.toNat := by
        rw [← bas_lead h2 (vecL p (csX n k s).length (x : Int)), ← e1, e2, bas_lead h3]
      have e4 : pivL s n = pivL M n := by
        have hid : ∀ t, ((pivL t n).map Int.toNat).map (fun z : Nat => (z : Int)) = pivL t n := fun t => by
          rw [List.map_map]
          refine (List.map_congr_left (g := id) fun z hz => ?_).trans (List.map_id _)
          have := pivL_in hz
          show ((z.toNat : Nat) : Int) = z
          omega
        rw [← hid s, ← hid M, e3]
      have := piv_inj ⟨n, by omega⟩ ⟨s, by omega⟩ ⟨M, by omega⟩ (by show s < 2 ^ n; omega) (by show M < 2 ^ n; omega) e4
      simp only [Fin.mk.injEq] at this
      omega
theorem ref_raw {p : Int} (hp : 2 ≤ p) {n k : Nat} {B : List (List Int)} (h : B ∈ refL p n (p ^ n).toNat k) : B ∈ rawL p n k (2 ^ n) := by
  obtain ⟨h1, h2, h3⟩ := refL_iff.1 h
  have hrow : ∀ b ∈ B, b.length = n ∧ ∀ x ∈ b, 0 ≤ x ∧ x < p := fun b hb => by
    have := h2 b hb
    unfold vecs at this
    simp only [List.mem_map] at this
    obtain ⟨c, _, rfl⟩ := this
    exact ⟨vecL_len _ _ _, vecL_dig hp⟩
  have hlen : ∀ b ∈ B, b.length = n := fun b hb => (hrow b hb).1
  have hrs := rs_of_rr hlen h3
  rw [h1] at hrs
  obtain ⟨L, hL⟩ : ∃ L, L = B.map leadI := ⟨_, rfl⟩
  rw [← hL] at hrs
  have hLl : L.length = k := hrs.len
  obtain ⟨s, hs, hps⟩ := piv_surj n (L.map fun z : Nat => (z : Int)) (by
    rw [List.pairwise_map, List.pairwise_iff_getElem]
    intro i j hi hj hij
    have := hrs.inc i j hij (by omega)
    simp only [List.getD, List.getElem?_eq_getElem hi, List.getElem?_eq_getElem hj, Option.getD_some] at this
    omega) (by
    intro x hx
    simp only [List.mem_map] at hx
    obtain ⟨z, hz, rfl⟩ := hx
    obtain ⟨i, hi, rfl⟩ := List.mem_iff_getElem.1 hz
    have := hrs.lt i (by omega)
    simp only [List.getD, List.getElem?_eq_getElem hi, Option.getD_some] at this
    omega)
  have hpl : (pivL s n).length = k := by rw [hps]; simp [hLl]
  have hpg : ∀ i, i < k → (pivL s n).getD i 0 = ((L.getD i 0 : Nat) : Int) := fun i hi => by rw [hps]; simp [List.getD, show i < L.length by omega]
  have hfd : ∀ r c, r < k → c < n → 0 ≤ fnB B r c ∧ fnB B r c < p := fun r c hr hc => by
    have hm : B.getD r [] ∈ B := by simp [List.getD, show r < B.length by omega]
    obtain ⟨e1, e2⟩ := hrow _ hm
    exact e2 _ (by unfold fnB; simp [List.getD, show c < (B[r]?.getD []).length from by simpa [List.getD] using (by omega : c < (B.getD r []).length)])
  obtain ⟨x, hx, hvx⟩ := vec_surj hp (csX n k s).length ((csX n k s).map fun z => fnB B z.1.toNat z.2.toNat) (by simp) (by
    intro y hy
    simp only [List.mem_map] at hy
    obtain ⟨z, hz, rfl⟩ := hy
    obtain ⟨t, ht, rfl⟩ := List.mem_iff_getElem.1 hz
    obtain ⟨r, c, e, hr, hc, _⟩ := cs_at ht
    have e' : (csX n k s)[t] = ((r : Int), (c : Int)) := by simpa [List.getD, ht] using e
    rw [e']
    exact hfd _ _ (by simpa using hr) (by simpa using hc))
  refine mem_rawL.2 ⟨s, hs, mem_rawS.2 ⟨hpl, x, by omega, ?_⟩⟩
  rw [← hvx]
  -- cell by cell
  apply List.ext_getElem (by rw [bas_len]; exact h1)
  intro r hr1 hr2
  have hr : r < k := by omega
  have eb : (basX n k s ((csX n k s).map fun z => fnB B z.1.toNat z.2.toNat))[r] = (basX n k s ((csX n k s).map fun z => fnB B z.1.toNat z.2.toNat)).getD r [] := by simp [List.getD, hr2]
  rw [eb, bas_row _ hr]
  have hlr : B[r].length = n := hlen _ (List.getElem_mem hr1)
  apply List.ext_getElem (by rw [rowL_len (mat_len _) hr]; exact hlr)
  intro c hc1 hc2
  have hc : c < n := by omega
  have ec : (rowL n r (matX n k s ((csX n k s).map fun z => fnB B z.1.toNat z.2.toNat)))[c] = (rowL n r (matX n k s ((csX n k s).map fun z => fnB B z.1.toNat z.2.toNat))).getD c 0 := by simp [List.getD, hc2]
  have ef : B[r][c] = fnB B r c := by simp [fnB, List.getD, hr1, hc1]
  rw [ec, rowL_get hc, ef]
  by_cases hp1 : (pivL s n).getD r 0 = (c : Int)
  · rw [mat_piv hpl _ hr hc hp1]
    have := hrs.one r hr
    rw [hpg r hr] at hp1
    rw [show L.getD r 0 = c by omega] at this
    exact this
  · by_cases hp2 : ∃ t, t < (csX n k s).length ∧ (csX n k s).getD t (0, 0) = ((r : Int), (c : Int))
    · obtain ⟨t, ht, e⟩ := hp2
      rw [mat_cell _ hc ht e]
      have e' : (csX n k s)[t] = ((r : Int), (c : Int)) := by simpa [List.getD, ht] using e
      simp [List.getD, ht, e']
    · rw [matX_zero hpl _ hr hc hp1 (fun j hj e => hp2 ⟨j, hj, e⟩)]
      cases hm : memI (c : Int) (pivL s n) with
      | true =>
        unfold memI at hm
        rw [List.any_eq_true] at hm
        obtain ⟨y, hy, hy2⟩ := hm
        obtain ⟨i, hi, rfl⟩ := List.mem_iff_getElem.1 hy
        have hik : i < k := by omega
        have e5 : (pivL s n).getD i 0 = (c : Int) := by simp at hy2; simp [List.getD, hi, ← hy2]
        have := hrs.zer i r hik hr (fun e => by subst e; exact hp1 e5)
        rw [hpg i hik] at e5
        rw [show L.getD i 0 = c by omega] at this
        exact this
      | false =>
        by_cases hlt : (pivL s n).getD r 0 < (c : Int)
        · exact absurd (cs_ex hpl hr hc hm hlt) hp2
        · rw [hpg r hr] at hlt hp1
          exact hrs.lef r c hr (by omega)
theorem raw_perm {p : Int} (hp : 2 ≤ p) {n k : Nat} (hn : n ≤ 4) : (rawL p n k (2 ^ n)).Perm (refL p n (p ^ n).toNat k) := by
  have hd : (refL p n (p ^ n).toNat k).Nodup := (refL_sorted hp n k).imp fun h e => by subst e; rw [ordR.refl] at h; omega
  rw [List.perm_ext_iff_of_nodup (rawL_nodup hp hn _ (Nat.le_refl _)) hd]
  intro B
  constructor
  · intro h
    obtain ⟨s, _, h1⟩ := mem_rawL.1 h
    obtain ⟨h2, x, _, rfl⟩ := mem_rawS.1 h1
    exact bas_ref hp h2 x
  · exact ref_raw hp
/-- the program's list, sorted, is the reference's -/
theorem spaces_same {p : Int} (hp : 2 ≤ p) {n k : Nat} (hn : n ≤ 4) {L' : List Sp} (h1 : L'.Perm (outS n (rawL p n k (2 ^ n)))) (h2 : L'.Pairwise (fun a b => ¬ cmpR b.2 a.2 < 0)) : L' = outS n (refL p n (p ^ n).toNat k) := by
  have h3 : (L'.map (·.2)).Perm (refL p n (p ^ n).toNat k) := by
    refine (h1.map _).trans ?_
    unfold outS
    rw [List.map_map]
    refine List.Perm.trans (List.Perm.of_eq ?_) (raw_perm hp hn)
    exact (List.map_congr_left (g := id) fun _ _ => rfl).trans (List.map_id _)
  have h4 : L'.map (·.2) = refL p n (p ^ n).toNat k := sorted_one ordR h3 (by rw [List.pairwise_map]; exact h2) (refL_sorted hp n k)
  have h5 : ∀ x ∈ L', x.1 = (n : Int) := fun x hx => by
    have := h1.mem_iff.1 hx
    unfold outS at this
    simp only [List.mem_map] at this
    obtain ⟨B, _, rfl⟩ := this
    rfl
  rw [← h4]
  unfold outS
  rw [List.map_map]
  refine ((List.map_congr_left (g := id) fun x hx => ?_).trans (List.map_id _)).symm
  show ((n : Int), x.2) = x
  rw [← h5 x hx]
end Go.Proofs.Ytjcgommdeplbbaa
