/- Paths that go on: a clone that the call owns; appends inside regions that draw; the list of the paths that go on from a path. -/
import Derived.Test.YtndooeffjkofdaaDoorMg3
import Derived.Test.YtndooeffjkofdaaDoorIsPath
namespace Go.Proofs.YtndooeffjkofdaaDoor
open Go.RowKit
set_option linter.unusedVariables false
set_option linter.unusedSimpArgs false

set_option maxRecDepth 100000 in
set_option maxHeartbeats 400000 in
theorem Clone_own (v : Value) (l : List Int) (w : World) (hv : Ints w v l) (hl : l.length ≤ 1048576) :
    Calls Tryd.prog 58 #[v] w (fun e w' => ∃ v', e = .returned v' ∧ Own w' w.heap.size 3 .i64 v' l ∧ Below w.heap.size w w') := by
  obtain ⟨a, cap, rfl, hlc, hcm⟩ := hv.shape
  obtain ⟨B, hB⟩ : ∃ B, B = w.heap.size := ⟨_, rfl⟩
  have HB := Lib.hid hB
  have hB1 : B ≤ w.heap.size := by omega
  clear hB
  cases a with
  | none =>
    have hl0 : l = [] := by
      obtain ⟨a', cap', e, h1, h2, h3⟩ := hv
      simp only [Value.slice.injEq] at e
      obtain ⟨rfl, _, _⟩ := e
      rcases h3 with h3 | ⟨_, _, _, h, _⟩
      · exact h3
      · cases h
    subst hl0
    have hnil := Lib.run_eql_slice_nil (P := Tryd.prog) w 24 3 none 0 cap 0 0 Tryd.underlying24
    go_enter Tryd.func58, Tryd.ntmps58
    go_wp2
    go_ret
    exact ⟨_, rfl, Own.nil _ _ _ _, Below.refl _ _⟩
  | some ad =>
    have hnil := Lib.run_eql_slice_nil (P := Tryd.prog) w 24 3 (some ad) l.length cap 0 0 Tryd.underlying24
    have hv2 := Lib.hid (hv.below ((Below.refl w.heap.size w).alloc (Nat.le_refl _) (.cells #[] 3)))
    have hmd := Lib.hid (Own.made w (B := B) 3 .i64 hB1)
    have hbl := Lib.hid ((Below.refl B w).alloc hB1 (.cells #[] 3))
    clear hv
    go_enter Tryd.func58, Tryd.ntmps58
    go_wp2_with (at_builtin; refine app_src w _ rfl (.tmp 5) (.tmp 6) rfl B _ [] l ad l.length cap rfl rfl hv2.out hmd.out hbl.out (by simp; omega) (by simp; omega) ?_)
    intro v' w1 hown1 hbel1 hB2
    have hq := Lib.hid hown1
    go_wp2
    go_ret
    exact ⟨_, rfl, by rw [← HB.out]; exact hq.out, hbel1.mono (by rw [HB.out]; exact Nat.le_refl _)⟩
theorem step_app_any2 {ops : Array Oper} {o : Oper} {a : Act} {K : Act → World → Prop} {Q : Exit → Act → World → Prop} {E : Prop} (w : World) (hgd : o.guard = none) (s x : Operand)
    (ho : o.op = .call { callee := .builtin .append, args := #[s, x], argTypes := #[24, 24] }) (B : Nat) (v vx : Value) (l ls : List Int)
    (hs : a.eval s = v) (hx : a.eval x = vx) (hown : Own w B 3 .i64 v l) (hsrc : Ints w vx ls) (hB : B ≤ w.heap.size) (hl : l.length + ls.length ≤ 17592186044416)
    (hK : ∀ v' w', Own w' B 3 .i64 v' (l ++ ls) → Below B w w' → K (a.put o.dst v') w') :
    if Region.wanted o (yielded ops a.tmps) = true then Oper.wp Tryd.prog o a w K Q else E := by
  have hw : Region.wanted o (yielded ops a.tmps) = true := by simp [Region.wanted, hgd]
  rw [if_pos hw]
  obtain ⟨v', w', hrun, h1, h2, _⟩ := run_app_any2 o.type B v vx l ls w hown hsrc hB hl
  unfold Oper.wp
  simp [execOp, ho, resolve, invoke, builtin, hs, hx, hrun, Result.andThen]
  exact hK v' w' h1 ((Below.refl B w).grown h2 hB (fun k hk => (World.ownsRow.lt hown k hk).1))
theorem run_app_pts (ty : TypeId) (w : World) (B : Nat) (v vx : Value) (L L2 : List Pt) (hown : OwnP w B v L) (hx2 : OwnP w B vx L2) (hne : 0 < L2.length) (hB : B ≤ w.heap.size) (hl : L.length + L2.length ≤ 1099511627776) :
    ∃ v' w', (Builtin.append_ #[36, 36] ty #[v, vx]).run Tryd.prog w = .ok v' w' ∧ OwnP w' B v' (L ++ L2) ∧ w.grownBy w' v.ownBlock ∧ (v'.ownBlock = v.ownBlock ∨ v'.ownBlock = some w.heap.size) := by
  obtain ⟨i, hi, h0, h1, h2⟩ := info_parts infoPath
  obtain ⟨us, hu1, hu2⟩ := hown
  obtain ⟨us2, hv1, hv2⟩ := hx2
  obtain ⟨_, hcase⟩ := hv1
  rcases hcase with ⟨_, hz⟩ | ⟨g, cap, cur, rfl, hb, hg, hnc, hcm, hcs, htake⟩
  · omega
  have hfl := flatP_len hv2.len
  obtain ⟨v', w', hrun, h3, h4, _, h5⟩ := run_append_own_at (P := Tryd.prog) w B 36 ty 28 i (.agg #[.int .i64 0, .slice none 0 0]) 2 32 Tryd.underlying36 hi h0 h1 h2 rfl (by decide) v L.length (flatP us L) hu1
    ⟨g, 0, none⟩ L2.length cap (flatP us2 L2) (by rw [hfl]) (fun j u hj => by
      have hadd : (⟨g, 0, none⟩ : Addr).add j = ⟨g, j, none⟩ := by unfold Addr.add; split <;> simp_all
      have hjl : j < L2.length * 2 := by
        rw [← hfl]
        exact (List.getElem?_eq_some_iff.1 hj).1
      rw [hadd, cell_of_row w g j cur _ _ hg, ← hj, ← htake, List.getElem?_take_of_lt (by omega), Array.getElem?_toList]) (flatP_one hv2) (by unfold maxLen; omega) (by omega) hB
  refine ⟨v', w', hrun, ⟨us ++ us2, ?_, ?_⟩, h4, h5⟩
  · rw [flatP_app hu2.len, List.length_append]; exact h3
  · have hkeep : ∀ u l, Ints w u l → FreshV B u → Ints w' u l := fun u l hu _ => grown_ints h4 hu (hu.farP hu1)
    exact arP.app (hv2.keep hkeep) (hu2.keep hkeep)
theorem step_app_pts {ops : Array Oper} {o : Oper} {a : Act} {K : Act → World → Prop} {Q : Exit → Act → World → Prop} {E : Prop} (w : World) (hgd : o.guard = none) (s x : Operand)
    (ho : o.op = .call { callee := .builtin .append, args := #[s, x], argTypes := #[36, 36] }) (B : Nat) (v vx : Value) (L L2 : List Pt)
    (hs : a.eval s = v) (hx : a.eval x = vx) (hown : OwnP w B v L) (hx2 : OwnP w B vx L2) (hne : 0 < L2.length) (hB : B ≤ w.heap.size) (hl : L.length + L2.length ≤ 1099511627776)
    (hK : ∀ v' w', OwnP w' B v' (L ++ L2) → w.grownBy w' v.ownBlock → (v'.ownBlock = v.ownBlock ∨ v'.ownBlock = some w.heap.size) → K (a.put o.dst v') w') :
    if Region.wanted o (yielded ops a.tmps) = true then Oper.wp Tryd.prog o a w K Q else E := by
  have hw : Region.wanted o (yielded ops a.tmps) = true := by simp [Region.wanted, hgd]
  rw [if_pos hw]
  obtain ⟨v', w', hrun, h1, h2, h3⟩ := run_app_pts o.type w B v vx L L2 hown hx2 hne hB hl
  unfold Oper.wp
  simp [execOp, ho, resolve, invoke, builtin, hs, hx, hrun, Result.andThen]
  exact hK v' w' h1 h2 h3
theorem own_1 (w : World) (c : Int) : Own (w.alloc (.cells #[.int .i64 c] 3)) w.heap.size 3 .i64 (.slice (some ⟨w.heap.size, 0, none⟩) 1 1) [c] :=
  World.ownsRow_lit (size := 1) (e := 3) (base := w.heap.size) w #[.int .i64 c] 1 (Nat.le_refl _) (by decide) rfl
/-- paths that go on from a path -/
def qP (st : Int) (ar : List Int) (P : List (List Int)) : List Pt := P.map fun p => (st, ar ++ p)
theorem qP_nil (st : Int) (P : List (List Int)) : qP st [] P = P.map fun p => ((st, p) : Pt) := rfl
theorem qP_zero (f t : List Int) (d : Nat) (e st : Int) (ar : List Int) : qP st ar (pK f t d e 0) = [(st, ar)] := by simp [qP, pK_zero]
theorem qP_no {f t : List Int} {d : Nat} {e : Int} {st : Int} {ar : List Int} {k : Nat} (h : f.getD k 0 ≠ e) : qP st ar (pK f t d e (k + 1)) = qP st ar (pK f t d e k) := by rw [pK_succ, if_neg h, List.append_nil]
theorem qP_yes {f t : List Int} {d : Nat} {e : Int} {st : Int} {ar : List Int} {k : Nat} (h : f.getD k 0 = e) : qP st ar (pK f t d e (k + 1)) = qP st ar (pK f t d e k) ++ qP st (ar ++ [(k : Int)]) (pF f t d (t.getD k 0)) := by
  unfold qP; rw [pK_succ, if_pos h, List.map_append, List.map_map]; simp
theorem qP_all (f t : List Int) (d : Nat) (e st : Int) (ar : List Int) : qP st ar (pK f t d e f.length) = qP st ar (pF f t (d + 1) e) := by rw [pK_all]
theorem qP_len (st : Int) (ar : List Int) (P : List (List Int)) : (qP st ar P).length = P.length := by simp [qP]
theorem pF_pos (f t : List Int) (d : Nat) (v : Int) : 0 < (pF f t d v).length := by cases d <;> simp [pF]
theorem pK_small {f t : List Int} {d k : Nat} (h6 : f.length ≤ 6) (hd : d ≤ 6) (v : Int) (hk : k ≤ 6) : (pK f t d v k).length ≤ 705895 := by
  have h := pPK_small (t := t) h6 hd v hk
  unfold pPK at h
  rwa [List.length_map] at h
theorem isP_snoc {n : Int} {f t : List Int} {st : Int} {ar : List Int} {k : Nat} (h : isP n f t st ar = true) (hk : k < f.length) (he : f.getD k 0 = curP t st ar ar.length) (hl : ar.length + 1 ≤ 20) : isP n f t st (ar ++ [(k : Int)]) = true := by
  unfold isP at h
  simp only [Bool.and_eq_true, decide_eq_true_eq, List.all_eq_true, List.mem_range] at h
  obtain ⟨⟨⟨h1, h2⟩, h3⟩, h4⟩ := h
  refine isP_of h1 h2 (by simp; omega) (fun j hj => ?_)
  rw [List.length_append] at hj
  have hcur : ∀ j, j ≤ ar.length → curP t st (ar ++ [(k : Int)]) j = curP t st ar j := fun j hj => by
    cases j with
    | zero => rfl
    | succ j =>
      simp only [curP]
      rw [show (ar ++ [(k : Int)]).getD j 0 = ar.getD j 0 by simp [List.getD, List.getElem?_append, show j < ar.length by omega]]
  by_cases e : j < ar.length
  · have := h4 j e
    unfold okP at this ⊢
    rw [hcur j (by omega), show (ar ++ [(k : Int)]).getD j 0 = ar.getD j 0 by simp [List.getD, List.getElem?_append, e]]
    exact this
  · have e2 : j = ar.length := by simp at hj; omega
    subst e2
    unfold okP
    rw [hcur _ (Nat.le_refl _), show (ar ++ [(k : Int)]).getD ar.length 0 = (k : Int) by simp [List.getD]]
    have : (k : Int).toNat = k := by omega
    rw [this, he]
    unfold inR
    simp
    omega
theorem curP_snoc (t : List Int) (st : Int) (ar : List Int) (k : Nat) : curP t st (ar ++ [(k : Int)]) (ar ++ [(k : Int)]).length = t.getD k 0 := by
  rw [List.length_append]
  show curP t st (ar ++ [(k : Int)]) (ar.length + 1) = _
  simp only [curP]
  rw [show (ar ++ [(k : Int)]).getD ar.length 0 = (k : Int) by simp [List.getD], show (k : Int).toNat = k by omega]
/-- the paths that go on, their row new, their arrows new from B0 on -/
def PtsFrom (B0 : Nat) (L : List Pt) (w : World) (e : Ending) (w' : World) : Prop := ∃ v, e = .returned v ∧ OwnP w' B0 v L ∧ (∀ q, v.ownBlock = some q → w.heap.size ≤ q) ∧ Below w.heap.size w w'
end Go.Proofs.YtndooeffjkofdaaDoor
