/- slices.Clone and addMultiple at integers. -/
import Derived.Test.YthlmggogeeedjaaVec
import Derived.Test.YthlmggogeeedjaaAux
import Derived.Deep.AppendLies
import Derived.Deep.RegionHeld3
namespace Go.Proofs.Ythlmggogeeedjaa
open Go.RowKit
set_option linter.unusedVariables false
set_option linter.unusedSimpArgs false

/-- append of a slice that reads as ls to one that the call owns -/
theorem app_src {ops : Array Oper} {rest : List Oper} {o : Oper} {a : Act} {Q : Exit → Act → World → Prop} (w0 w : World) (hgd : o.guard = none) (s x : Operand)
    (ho : o.op = .call { callee := .builtin .append, args := #[s, x], argTypes := #[22, 22] }) (B : Nat) (v : Value) (l ls : List Int) (ad : Addr) (m c : Nat)
    (hs : a.eval s = v) (hx : a.eval x = .slice (some ad) m c) (hsrc : Ints w (.slice (some ad) m c) ls) (hown : Own w B 3 .i64 v l) (hbel : Below B w0 w) (hB : B ≤ w.heap.size) (hl : l.length + ls.length ≤ 17592186044416)
    (hK : ∀ v' w', Own w' B 3 .i64 v' (l ++ ls) → Below B w0 w' → B ≤ w'.heap.size → wpList Try.prog ops Q rest (a.put o.dst v') w') :
    wpList Try.prog ops Q (o :: rest) a w := by
  obtain ⟨i, hi, h0, h1, h2⟩ := info_parts infoInt
  obtain ⟨a1, c1, e, hlc, hcm, hcells⟩ := hsrc
  simp only [Value.slice.injEq] at e
  obtain ⟨rfl, rfl, rfl⟩ := e
  refine wpList_append_own w hgd s x 22 ho B 3 i (.int .i64 0) 1 8 Try.underlying22 hi h0 h1 h2 rfl (by decide) v l.length (l.map (Value.int .i64)) hs hown
    ad ls.length c (ls.map (Value.int .i64)) hx (by simp) ?_ (ints_oneCell _ _) (by unfold maxLen; omega) (by omega) hB ?_
  · intro j u hj
    rcases hcells with rfl | ⟨g, off, cur, e, hg, hs, hc⟩
    · simp at hj
    · simp only [Option.some.injEq] at e
      subst e
      have hjl : j < ls.length := by
        rcases Nat.lt_or_ge j ls.length with h | h
        · exact h
        · simp [List.getElem?_eq_none (show (ls.map (Value.int .i64)).length ≤ j by simpa using h)] at hj
      have hadd : (⟨g, off, none⟩ : Addr).add j = ⟨g, off + j, none⟩ := by unfold Addr.add; split <;> simp_all
      rw [hadd, cell_of_row w g _ cur _ _ hg, hc j hjl, ← hj]
      simp [List.getD, hjl]
  · intro v' w' ho' hg _
    have hb : Below B w0 w' := hbel.grown hg (by omega) (fun k hk => (World.ownsRow.lt hown k hk).1)
    refine hK v' w' ?_ hb ?_
    · unfold Own; simpa using ho'
    · have := hg.size; omega

/-- inside a region that draws its order: append of the one new element of the block just made -/
theorem step_app_int {ops : Array Oper} {o : Oper} {a : Act} {K : Act → World → Prop} {Q : Exit → Act → World → Prop} {E : Prop} {c : Int} (w0 w : World) (hgd : o.guard = none) (s x : Operand)
    (ho : o.op = .call { callee := .builtin .append, args := #[s, x], argTypes := #[22, 22] }) (B : Nat) (v : Value) (l : List Int)
    (hs : a.eval s = v) (hx : a.eval x = .slice (some ⟨w.heap.size, 0, none⟩) 1 1) (hown : Own w B 3 .i64 v l) (hbel : Below B w0 w) (hB : B ≤ w.heap.size) (hl : l.length + 1 ≤ 17592186044416)
    (hK : ∀ v' w', Own w' B 3 .i64 v' (l ++ [c]) → Below B w0 w' → B ≤ w'.heap.size → K (a.put o.dst v') w') :
    if Region.wanted o (yielded ops a.tmps) = true then Oper.wp Try.prog o a (w.alloc (.cells #[.int .i64 c] 3)).drew K Q else E := by
  obtain ⟨i, hi, h0, h1, h2⟩ := info_parts infoInt
  refine step_append_lies _ hgd s x 22 ho B 3 i (.int .i64 0) 1 8 Try.underlying22 hi h0 h1 h2 rfl (by decide) v l.length (l.map (Value.int .i64)) hs ((World.ownsRow.alloc hown _).drew)
    ⟨w.heap.size, 0, none⟩ 1 1 [.int .i64 c] hx rfl (news_cells w _ [.int .i64 c]) (ints_oneCell .i64 [c]) (by decide) (by unfold maxLen; omega) (by omega) (by simp; omega) _ rfl ?_
  intro g cap w' ho' hg _ _
  have hb : Below B w0 w' := ((hbel.alloc hB _).drew).grown hg (by simp; omega) (fun k hk => (World.ownsRow.lt hown k hk).1)
  refine hK _ w' ?_ hb ?_
  · unfold Own; simpa using ho'
  · have := hg.size; simp at this; omega

set_option maxRecDepth 100000 in
set_option maxHeartbeats 400000 in
theorem Clone_ints (v : Value) (l : List Int) (w : World) (hv : Ints w v l) (hl : l.length ≤ 1048576) :
    Calls Try.prog 40 #[v] w (IntsNew l w) := by
  obtain ⟨a, cap, rfl, hlc, hcm⟩ := hv.shape
  obtain ⟨B, hB⟩ : ∃ B, B = w.heap.size := ⟨_, rfl⟩
  have HB := Lib.hid hB
  have hB1 : B ≤ w.heap.size := by omega
  clear hB
  cases a with
  | none =>
    have hl0 : l = [] := by
      obtain ⟨a', cap', e, h1, h2, h3⟩ := hv
      simp only [Value.slice.injEq] at e
      obtain ⟨rfl, _, _⟩ := e
      rcases h3 with h3 | ⟨_, _, _, h, _⟩
      · exact h3
      · cases h
    subst hl0
    have hnil := Lib.run_eql_slice_nil (P := Try.prog) w 22 3 none 0 cap 0 0 Try.underlying22
    go_enter Try.func40, Try.ntmps40
    go_wp2
    go_ret
    exact ⟨_, rfl, Ints.nil w, FreshV.nil _, Below.refl _ _⟩
  | some ad =>
    have hnil := Lib.run_eql_slice_nil (P := Try.prog) w 22 3 (some ad) l.length cap 0 0 Try.underlying22
    have hv2 := Lib.hid (hv.below ((Below.refl w.heap.size w).alloc (Nat.le_refl _) (.cells #[] 3)))
    have hmd := Lib.hid (Own.made w (B := B) 3 .i64 hB1)
    have hbl := Lib.hid ((Below.refl B w).alloc hB1 (.cells #[] 3))
    clear hv
    go_enter Try.func40, Try.ntmps40
    go_wp2_with (at_builtin; refine app_src w _ rfl (.tmp 5) (.tmp 6) rfl B _ [] l ad l.length cap rfl rfl hv2.out hmd.out hbl.out (by simp; omega) (by simp; omega) ?_)
    intro v' w1 hown1 hbel1 hB2
    have hq := Lib.hid (Ints.of_own hown1)
    go_wp2
    go_ret
    exact ⟨_, rfl, hq.out.1, hq.out.2.mono (by rw [HB.out]; exact Nat.le_refl _), hbel1.mono (by rw [HB.out]; exact Nat.le_refl _)⟩

/-- a row of a list to which a multiple of another list has been added, up to the place j -/
def addAt (p : Int) (L : List Int) (d : Nat) (k : Int) (lb : List Int) (j : Nat) : List Int :=
  (List.range L.length).map fun (t : Nat) => if d ≤ t ∧ t < d + j then (L.getD t 0 + k * lb.getD (t - d) 0) % p else L.getD t 0
theorem addAt_len (p : Int) (L : List Int) (d : Nat) (k : Int) (lb : List Int) (j : Nat) : (addAt p L d k lb j).length = L.length := by simp [addAt]
theorem addAt_zero (p : Int) (L : List Int) (d : Nat) (k : Int) (lb : List Int) : addAt p L d k lb 0 = L := by
  apply List.ext_getElem (by simp [addAt])
  intro t h1 h2
  simp only [addAt, List.getElem_map, List.getElem_range]
  rw [if_neg (by omega)]
  simp [List.getD, h2]
theorem addAt_get (p : Int) (L : List Int) (d : Nat) (k : Int) (lb : List Int) (j t : Nat) (ht : t < L.length) :
    (addAt p L d k lb j).getD t 0 = if d ≤ t ∧ t < d + j then (L.getD t 0 + k * lb.getD (t - d) 0) % p else L.getD t 0 := by
  simp [addAt, List.getD, ht]
theorem addAt_here (p : Int) (L : List Int) (d : Nat) (k : Int) (lb : List Int) (j : Nat) (ht : d + j < L.length) : (addAt p L d k lb j).getD (d + j) 0 = L.getD (d + j) 0 := by
  rw [addAt_get _ _ _ _ _ _ _ ht, if_neg (by omega)]
theorem addAt_step (p : Int) (L : List Int) (d : Nat) (k : Int) (lb : List Int) (j : Nat) (hj : d + j < L.length) :
    (addAt p L d k lb j).set (d + j) ((L.getD (d + j) 0 + k * lb.getD j 0) % p) = addAt p L d k lb (j + 1) := by
  apply List.ext_getElem (by simp [addAt])
  intro t h1 h2
  rw [List.getElem_set]
  simp only [addAt, List.getElem_map, List.getElem_range]
  by_cases h : d + j = t
  · subst h
    rw [if_pos rfl, if_pos (by omega), Nat.add_sub_cancel_left]
  · rw [if_neg h]
    by_cases h3 : d ≤ t ∧ t < d + j
    · rw [if_pos h3, if_pos (by omega)]
    · rw [if_neg h3, if_neg (by omega)]


end Go.Proofs.Ythlmggogeeedjaa
