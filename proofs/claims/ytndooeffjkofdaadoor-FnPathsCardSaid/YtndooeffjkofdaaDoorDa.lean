/- FnPaths: l6Acyclic, l6Any: a quiver is drawn. -/
import Derived.Test.YtndooeffjkofdaaDoorDq
import Derived.Test.YtndooeffjkofdaaDoorPtsC
import Derived.Deep.CutRange
namespace Go.Proofs.YtndooeffjkofdaaDoor
open Go.RowKit
set_option linter.unusedVariables false
set_option linter.unusedSimpArgs false

theorem CChg.cell {c : Nat} {w w' : World} (h : CChg c w w') {p : Addr} (hp : p.block < w.heap.size) (hc : p.block ≠ c) : w'.cell? p = w.cell? p := by
  unfold World.cell?
  simp only [h.block p.block hp hc]
/-- a quiver was drawn, its rows owned -/
def DrawnQ (c : Nat) (w : World) (e : Ending) (w' : World) : Prop :=
  ∃ (n : Int) (vf vt : Value) (lf lt : List Int), e = .returned (.agg #[.int .i64 n, vf, vt]) ∧ Own w' w.heap.size 3 .i64 vf lf ∧ Own w' w.heap.size 3 .i64 vt lt ∧ (∀ k, vf.ownBlock = some k → vt.ownBlock ≠ some k) ∧ lf.length ≤ 1100010 ∧ lt.length ≤ 1100010 ∧ Cur w' c ∧ CChg c w w'
/-- append of any slice to the call's own row, in a plain region -/
theorem app_any2 {ops : Array Oper} {rest : List Oper} {o : Oper} {a : Act} {Q : Exit → Act → World → Prop} (w : World) (hgd : o.guard = none) (s x : Operand)
    (ho : o.op = .call { callee := .builtin .append, args := #[s, x], argTypes := #[24, 24] }) (B : Nat) (v vx : Value) (l ls : List Int)
    (hs : a.eval s = v) (hx : a.eval x = vx) (hown : Own w B 3 .i64 v l) (hx2 : Ints w vx ls) (hB : B ≤ w.heap.size) (hl : l.length + ls.length ≤ 17592186044416)
    (hK : ∀ v' w', Own w' B 3 .i64 v' (l ++ ls) → w.grownBy w' v.ownBlock → (v'.ownBlock = v.ownBlock ∨ v'.ownBlock = some w.heap.size) → wpList Tryd.prog ops Q rest (a.put o.dst v') w') :
    wpList Tryd.prog ops Q (o :: rest) a w :=
  wpList_plain hgd fun _ hK' => by
    obtain ⟨v', w', hrun, h1, h2, h3⟩ := run_app_any2 o.type B v vx l ls w hown hx2 hB hl
    unfold Oper.wp execOp
    simp only [ho, resolve, invoke, builtin, Sem.run_bind, Sem.run_pure, Result.andThen_ok, List.map_toArray, List.map_cons, List.map_nil, hs, hx, hrun]
    exact hK' _ _ (hK v' w' h1 h2 h3)
theorem step_app_any3 {ops : Array Oper} {o : Oper} {a : Act} {K : Act → World → Prop} {Q : Exit → Act → World → Prop} {E : Prop} (w : World) (hgd : o.guard = none) (s x : Operand)
    (ho : o.op = .call { callee := .builtin .append, args := #[s, x], argTypes := #[24, 24] }) (B : Nat) (v vx : Value) (l ls : List Int)
    (hs : a.eval s = v) (hx : a.eval x = vx) (hown : Own w B 3 .i64 v l) (hsrc : Ints w vx ls) (hB : B ≤ w.heap.size) (hl : l.length + ls.length ≤ 17592186044416)
    (hK : ∀ v' w', Own w' B 3 .i64 v' (l ++ ls) → w.grownBy w' v.ownBlock → (v'.ownBlock = v.ownBlock ∨ v'.ownBlock = some w.heap.size) → K (a.put o.dst v') w') :
    if Region.wanted o (yielded ops a.tmps) = true then Oper.wp Tryd.prog o a w K Q else E := by
  have hw : Region.wanted o (yielded ops a.tmps) = true := by simp [Region.wanted, hgd]
  rw [if_pos hw]
  obtain ⟨v', w', hrun, h1, h2, h3⟩ := run_app_any2 o.type B v vx l ls w hown hsrc hB hl
  unfold Oper.wp
  simp [execOp, ho, resolve, invoke, builtin, hs, hx, hrun, Result.andThen]
  exact hK v' w' h1 h2 h3
set_option maxRecDepth 100000 in
set_option maxHeartbeats 8000000 in
theorem s_l6Acyclic (c : Nat) (w : World) (hcur : Cur w c) : Calls Tryd.prog 50 #[.pointer (some ⟨c, 0, none⟩)] w (DrawnQ c w) := by
  have hcl := hcur.lt
  have hb0 : Below w.heap.size w (w.alloc (.cells #[.int .i64 0, .slice none 0 0, .slice none 0 0] 26)) := (Below.refl _ w).alloc (Nat.le_refl _) _
  have HR0 := Lib.hid (Blk.new w #[.int .i64 0, .slice none 0 0, .slice none 0 0] 26)
  have H0 := Lib.hid (And.intro (hcur.below hb0) (TChg.of_b (c := c) hb0))
  clear hcur hb0
  go_enter Tryd.func50, Tryd.ntmps50
  go_wp2_with fail
  refine (s_l1Once c _ _ H0.out.1).mono ?_; rintro e w1 ⟨bb, rfl, hc1, hg1⟩
  have hs1 : w.heap.size + 1 ≤ w1.heap.size := by have := hg1.size; simpa using this
  have HR1 : Hid (Blk w1 w.heap.size #[.int .i64 0, .slice none 0 0, .slice none 0 0] 26) := Lib.hid ((hg1.block _ (by simp) (by omega)).trans HR0.out)
  have H1 := Lib.hid (And.intro hc1 (H0.out.2.trans (TChg.of_c hg1)))
  clear hc1 hg1
  cases bb with
  | true =>
    go_wp2_with fail
    refine (s_l6Names _).mono ?_; rintro e w2 ⟨rfl, hw2⟩
    have hal : Below w1.heap.size w1 w2 := by rw [hw2]; exact (Below.refl _ w1).alloc (Nat.le_refl _) _
    have HN := Lib.hid (show ∀ k, k < 12 → ∃ s, w2.cell? ⟨w1.heap.size, k, none⟩ = some (.string s) from by rw [hw2]; exact names_cell w1)
    have hs2 : w1.heap.size + 1 ≤ w2.heap.size := by rw [hw2]; simp
    have HR2 := Lib.hid (HR1.out.below hal)
    have H2 := Lib.hid (And.intro (H1.out.1.below hal) (H1.out.2.trans (TChg.of_b (hal.mono (by omega)))))
    clear hal hw2
    go_wp2_with fail
    refine (s_l1Below c _ _ H2.out.1).mono ?_; rintro e w3 ⟨r, hr, rfl, hc3, hg3⟩
    obtain ⟨r0, r1⟩ : 0 ≤ r ∧ r < 10 := by rcases hr with h | h <;> omega
    obtain ⟨k, rfl⟩ := Int.eq_ofNat_of_zero_le r0
    obtain ⟨s, hs⟩ := HN.out k (by omega)
    have hc := hg3.cell (p := ⟨w1.heap.size, k, none⟩) (by show w1.heap.size < w2.heap.size; omega) (by show w1.heap.size ≠ c; omega)
    rw [hs] at hc
    have HR3 : Hid (Blk w3 w.heap.size #[.int .i64 0, .slice none 0 0, .slice none 0 0] 26) := Lib.hid ((hg3.block _ (by omega) (by omega)).trans HR2.out)
    have hs3 : w2.heap.size ≤ w3.heap.size := hg3.size
    have H3 := Lib.hid (And.intro hc3 (H2.out.2.trans (TChg.of_c hg3)))
    clear hc3 hg3 hr hs
    have hk0 : (0 : Int) ≤ (k : Int) := by omega
    have hk1 : (k : Int) < (12 : Int) := by omega
    go_wp2_with fail
    refine (s_NamedQuiverO s _).mono ?_; rintro e w4 ⟨n, vf, vt, lf, lt, ok, rfl, h1, h2, hd, hl1, hl2, b4⟩
    obtain ⟨af, cf, rfl, hlf, hmf⟩ := (Ints.of_own h1).1.shape
    obtain ⟨at', ct, rfl, hlt', hmt⟩ := (Ints.of_own h2).1.shape
    have hs4 := b4.size
    have b5 : Below w4.heap.size w4 (w4.alloc (.cells #[.int .i64 n, .slice af lf.length cf, .slice at' lt.length ct] 26)) := (Below.refl _ w4).alloc (Nat.le_refl _) _
    have hR5 := (HR3.out.below b4).below b5
    obtain ⟨x0, x1, x2⟩ := blk3 hR5
    have q0 := hR5.frozen 0; have q1 := hR5.frozen 1; have q2 := hR5.frozen 2
    have hne1 : ∀ q, (Value.slice af lf.length cf).ownBlock = some q → q ≠ w.heap.size := fun q hq => by have := (World.ownsRow.lt h1 q hq).1; omega
    have hne2 : ∀ q, (Value.slice at' lt.length ct).ownBlock = some q → q ≠ w.heap.size := fun q hq => by have := (World.ownsRow.lt h2 q hq).1; omega
    have hcu := (H3.out.1.below b4).below b5
    have hch := (H3.out.2.trans (TChg.of_b (b4.mono (show w.heap.size ≤ w3.heap.size by omega)))).trans (TChg.of_b (b5.mono (show w.heap.size ≤ w4.heap.size by omega)))
    have HX := Lib.hid (And.intro (set3_blk hR5 (.int .i64 n) (.slice af lf.length cf) (.slice at' lt.length ct))
      (And.intro (set3_own (h1.below b5) hne1 (.int .i64 n) (.slice af lf.length cf) (.slice at' lt.length ct))
      (And.intro (set3_own (h2.below b5) hne2 (.int .i64 n) (.slice af lf.length cf) (.slice at' lt.length ct))
      (And.intro (((hcu.setFar (p := ⟨w.heap.size, 0, none⟩) hcl (.int .i64 n)).setFar (p := ⟨w.heap.size, 1, none⟩) hcl (.slice af lf.length cf)).setFar (p := ⟨w.heap.size, 2, none⟩) hcl (.slice at' lt.length ct))
        (((hch.setCell (p := ⟨w.heap.size, 0, none⟩) (Nat.le_refl _) (.int .i64 n)).setCell (p := ⟨w.heap.size, 1, none⟩) (Nat.le_refl _) (.slice af lf.length cf)).setCell (p := ⟨w.heap.size, 2, none⟩) (Nat.le_refl _) (.slice at' lt.length ct))))))
    have HF := Lib.hid (And.intro hl1 (And.intro hl2 hd))
    have hb3 : w.heap.size ≤ w3.heap.size := by omega
    clear hR5 hne1 hne2 b4 b5 h1 h2 hl1 hl2 hd hcu hch hc
    unfold set3 at HX
    go_wp2
    refine bodyPost_ret (v := .agg #[.int .i64 n, .slice af lf.length cf, .slice at' lt.length ct]) (by simp [results, Tryd.results50, go_sem, HX.out.1.cell 0, HX.out.1.cell 1, HX.out.1.cell 2]) rfl ?_
    exact ⟨n, _, _, _, _, rfl, HX.out.2.1.mono hb3, HX.out.2.2.1.mono hb3, HF.out.2.2, by have := HF.out.1; omega, by have := HF.out.2.1; omega, HX.out.2.2.2.1, HX.out.2.2.2.2.cchg (Nat.le_refl _)⟩
  | false =>
    go_wp2_with fail
    refine (s_l1Below c _ _ H1.out.1).mono ?_; rintro e w2 ⟨x, hx, rfl, hc2, hg2⟩
    obtain ⟨x0, x1⟩ : 0 ≤ x ∧ x < 4 := by rcases hx with h | h <;> omega
    have hs2 := hg2.size
    have HR2 : Hid (Blk w2 w.heap.size #[.int .i64 0, .slice none 0 0, .slice none 0 0] 26) := Lib.hid ((hg2.block _ (by omega) (by omega)).trans HR1.out)
    have H2 := Lib.hid (And.intro hc2 (H1.out.2.trans (TChg.of_c hg2)))
    obtain ⟨V, hV⟩ : ∃ V, V = 1 + x := ⟨_, rfl⟩
    have hV1 : 1 ≤ V := by omega
    have hV4 : V ≤ 4 := by omega
    clear hc2 hg2 hx
    have bE2 : Below w2.heap.size w2 ((w2.alloc (.cells #[] 3)).alloc (.cells #[] 3)) := ((Below.refl _ w2).alloc (Nat.le_refl _) _).alloc (by simp) _
    obtain ⟨b, hb⟩ : ∃ b, b = w2.heap.size + 1 + 1 := ⟨_, rfl⟩
    have HBQ := Lib.hid hb
    have hbge : w2.heap.size + 2 ≤ b := by omega
    have Q0 : Hid (GQ c w.heap.size w.heap.size b V (.slice (some ⟨w2.heap.size, 0, none⟩) 0 0) (.slice (some ⟨w2.heap.size + 1, 0, none⟩) 0 0) (.slice (some ⟨w2.heap.size, 0, none⟩) 0 0) (.slice (some ⟨w2.heap.size + 1, 0, none⟩) 0 0) [] [] w
        (((w2.alloc (.cells #[] 3)).alloc (.cells #[] 3)).alloc (.cells #[.int .i64 V, .slice (some ⟨w2.heap.size, 0, none⟩) 0 0, .slice (some ⟨w2.heap.size + 1, 0, none⟩) 0 0] 26))) := by
      have bE3 := bE2.alloc (by simp; omega) (.cells #[.int .i64 V, .slice (some ⟨w2.heap.size, 0, none⟩) 0 0, .slice (some ⟨w2.heap.size + 1, 0, none⟩) 0 0] 26)
      refine ⟨?_, ?_, (((Own.made w2 3 .i64 (by omega)).alloc _).alloc _), ?_, fun k hk => ?_, H2.out.1.below bE3, H2.out.2.trans (TChg.of_b (bE3.mono (by omega))), by simp; omega, fun k hk => ?_, fun k hk => ?_, by omega, Nat.le_refl _, by omega, hcl⟩
      · rw [HBQ.out]
        have := Blk.new ((w2.alloc (.cells #[] 3)).alloc (.cells #[] 3)) #[.int .i64 V, .slice (some ⟨w2.heap.size, 0, none⟩) 0 0, .slice (some ⟨w2.heap.size + 1, 0, none⟩) 0 0] 26
        simpa using this
      · exact ⟨_, _, _, HR2.out.below bE3⟩
      · have := ((Own.made (w2.alloc (.cells #[] 3)) (B := w.heap.size) 3 .i64 (by simp; omega)).alloc (.cells #[.int .i64 V, .slice (some ⟨w2.heap.size, 0, none⟩) 0 0, .slice (some ⟨w2.heap.size + 1, 0, none⟩) 0 0] 26))
        rwa [World.size_alloc] at this
      · simp [Value.ownBlock] at hk ⊢; omega
      · simp [Value.ownBlock] at hk; omega
      · simp [Value.ownBlock] at hk; omega
    have hwx : IntKind.i64.wrap (1 + x) = V := by rw [hV]; exact IntWalk.i64_in _ (by omega)
    clear bE2
    go_wp2_with fail
    simp only [← hV, ← hb]
    generalize (((w2.alloc (.cells #[] 3)).alloc (.cells #[] 3)).alloc (.cells #[.int .i64 V, .slice (some ⟨w2.heap.size, 0, none⟩) 0 0, .slice (some ⟨w2.heap.size + 1, 0, none⟩) 0 0] 26)) = w3 at Q0 ⊢
    clear hb hV
    refine (s_l1Below c _ _ Q0.out.2.2.2.2.2.1).mono ?_; rintro e w4 ⟨m, hm, rfl, hc4, hg4⟩
    have Q4 := Lib.hid (Q0.out.chg hc4 hg4)
    obtain ⟨m0, m1⟩ : 0 ≤ m ∧ m < 5 := by rcases hm with h | h <;> omega
    obtain ⟨M, rfl⟩ := Int.eq_ofNat_of_zero_le m0
    clear hc4 hg4 hm
    go_wp2
    go_loopw [6, 7] (fun iv av wr => ∃ (k : Nat) (vf vt : Value) (lf lt : List Int), iv = .int .i64 k ∧ k ≤ 5 ∧ lf.length + k ≤ 6 ∧ lt.length + k ≤ 6 ∧ Hid (GQ c w.heap.size w.heap.size b V vf vt vf vt lf lt w wr)) (fun iv _ _ => (intOf iv).toNat)
    case atStart => exact ⟨M, _, _, [], [], rfl, by omega, by simp; omega, by simp; omega, Q4⟩
    case round =>
      obtain ⟨k, vf, vt, lf, lt, rfl, hk, hlf, hlt, HQ⟩ := hrel
      obtain ⟨af, cf, rfl, _, _⟩ := (Ints.of_own HQ.out.2.2.1).1.shape
      obtain ⟨at', ct, rfl, _, _⟩ := (Ints.of_own HQ.out.2.2.2.1).1.shape
      obtain ⟨u0, u1, u2⟩ := blk3 HQ.out.1
      by_cases hgo : 0 < k ∧ 1 < V
      · obtain ⟨hk1, hV2⟩ := hgo
        obtain ⟨k', rfl⟩ : ∃ k', k = k' + 1 := ⟨k - 1, by omega⟩
        have hd1 : decide ((0 : Int) < ((k' + 1 : Nat) : Int)) = true := by simp
        go_wp2_with fail
        refine (s_l1Below c _ _ HQ.out.2.2.2.2.2.1).mono ?_; rintro e w5 ⟨a, ha, rfl, hc5, hg5⟩
        obtain ⟨a0, a1⟩ : 0 ≤ a ∧ a < V - 1 := by rcases ha with h | h <;> omega
        have Q5 := Lib.hid (HQ.out.chg hc5 hg5)
        clear u0 u1 u2 hc5 hg5 ha
        obtain ⟨u0, u1, u2⟩ := blk3 Q5.out.1
        have hf1 := Q5.out.1.frozen 1
        have Q5a := Lib.hid (Q5.out.alloc (.cells #[.int .i64 a] 3))
        go_wp2_with (at_builtin; refine app_any2 (w5.alloc (.cells #[.int .i64 a] 3)) rfl (.tmp 43) (.tmp 45) rfl w.heap.size _ (.slice (some ⟨w5.heap.size, 0, none⟩) 1 1) lf [a] rfl rfl Q5a.out.2.2.1 (Ints.of_own (own_1 w5 a)).1 (by have := Q5.out.2.2.2.2.2.2.2.1; simp; omega) (by simp; omega) ?_)
        intro v1 w6 ho6 hg6 hloc6
        have q6 := Q5a.out.grow hg6 ho6 (by rw [World.size_alloc]; exact hloc6)
        obtain ⟨a1', c1', rfl, _, _⟩ := (Ints.of_own ho6).1.shape
        rw [List.length_append] at q6 ⊢
        obtain ⟨y0, y1, y2⟩ := blk3 q6.1
        have hy1 := q6.1.frozen 1
        have Q6 := Lib.hid q6.store1
        clear ho6 hg6 hloc6 u0 u1 u2 hf1
        go_wp2
        generalize w6.setCell ⟨b, 1, none⟩ (.slice a1' (lf.length + [a].length) c1') = w7 at Q6 ⊢
        clear q6 y0 y1 y2 hy1
        obtain ⟨u0, u1, u2⟩ := blk3 Q6.out.1
        have hf2 := Q6.out.1.frozen 2
        have hw1 : IntKind.i64.wrap (a + 1) = a + 1 := IntWalk.i64_in _ (by omega)
        have hw2 : IntKind.i64.wrap (V - 1) = V - 1 := IntWalk.i64_in _ (by omega)
        have hw3 : IntKind.i64.wrap (V - 1 - a) = V - 1 - a := IntWalk.i64_in _ (by omega)
        have HC7 := Lib.hid Q6.out.drew.2.2.2.2.2.1
        go_region_law (first
          | (refine step_app_any3 (w8.alloc (.cells #[.int .i64 (a + 1 + d)] 3)) (by rfl) (.tmp 49) (.tmp 60) (by rfl) w.heap.size _ _ lt [a + 1 + d] (by rfl) (by rfl) (q8.alloc (.cells #[.int .i64 (a + 1 + d)] 3)).2.2.2.1 (Ints.of_own (own_1 w8 (a + 1 + d))).1 (by have := q8.2.2.2.2.2.2.2.1; simp; omega) (by simp; omega) ?_; intro v2 w9 ho9 hg9 hloc9; have q9 := (q8.alloc (.cells #[.int .i64 (a + 1 + d)] 3)).swap.grow hg9 ho9 hloc9; obtain ⟨a2', c2', rfl, _, _⟩ := (Ints.of_own ho9).1.shape; rw [List.length_append] at q9 ⊢; obtain ⟨z0, z1, z2⟩ := blk3 q9.1; have fz := q9.1.frozen 2)
          | (go_simp; go_at_call 33; (with_reducible refine (s_l1Below c _ _ HC7.out).mono ?_); rintro e w8 ⟨d, hd, rfl, hc8, hg8⟩; have q8 := Q6.out.drew.chg hc8 hg8; have hl8 := (blk3 q8.1).2.2; have hl9 := (blk3 (q8.alloc (.cells #[.int .i64 (a + 1 + d)] 3)).1).2.2; have hd2 : 0 ≤ d ∧ d < 10 := (by rcases hd with h | h <;> omega); have hw4 : IntKind.i64.wrap (a + 1 + d) = a + 1 + d := IntWalk.i64_in _ (by omega)))
        all_goals
          have Q9 := Lib.hid q9.swap.store2
          clear q9 ho9 hg9 hloc9 z0 z1 z2 fz q8 hc8 hg8 hl8 hl9 u0 u1 u2 hf2 hw1 hw2 hw3 hw4
          go_wp2
          go_roundw
          case rel => exact ⟨k', _, _, _, _, by go_num, by omega, by simp; omega, by simp; omega, Q9⟩
          case measure => simp [intOf]
      · have hR := HQ.out.2.1
        obtain ⟨x0', x1', x2', q0, q1, q2, t0, t1, t2⟩ := hR.open_
        have h9 := HQ.out.2.2.2.2.2.2.2.2
        have HX := Lib.hid (And.intro (hR.blk_set (.int .i64 V) (.slice af lf.length cf) (.slice at' lt.length ct))
          (And.intro (set3_own HQ.out.2.2.1 (fun q hq => (h9.1 q hq).2) (.int .i64 V) (.slice af lf.length cf) (.slice at' lt.length ct))
          (And.intro (set3_own HQ.out.2.2.2.1 (fun q hq => (h9.2.1 q hq).2) (.int .i64 V) (.slice af lf.length cf) (.slice at' lt.length ct))
          (And.intro (((HQ.out.2.2.2.2.2.1.setFar (p := ⟨w.heap.size, 0, none⟩) hcl (.int .i64 V)).setFar (p := ⟨w.heap.size, 1, none⟩) hcl (.slice af lf.length cf)).setFar (p := ⟨w.heap.size, 2, none⟩) hcl (.slice at' lt.length ct))
            (And.intro (((HQ.out.2.2.2.2.2.2.1.setCell (p := ⟨w.heap.size, 0, none⟩) (Nat.le_refl _) (.int .i64 V)).setCell (p := ⟨w.heap.size, 1, none⟩) (Nat.le_refl _) (.slice af lf.length cf)).setCell (p := ⟨w.heap.size, 2, none⟩) (Nat.le_refl _) (.slice at' lt.length ct)) HQ.out.2.2.2.2.1)))))
        clear h9 hR
        unfold set3 at HX
        go_wp2
        all_goals
          refine bodyPost_ret (v := .agg #[.int .i64 V, .slice af lf.length cf, .slice at' lt.length ct]) (by simp [results, Tryd.results50, go_sem, HX.out.1.cell 0, HX.out.1.cell 1, HX.out.1.cell 2]) rfl ?_
          exact ⟨V, _, _, _, _, rfl, HX.out.2.1, HX.out.2.2.1, HX.out.2.2.2.2.2, by omega, by omega, HX.out.2.2.2.1, HX.out.2.2.2.2.1.cchg (Nat.le_refl _)⟩
end Go.Proofs.YtndooeffjkofdaaDoor
