/- slices.Grow at nil and slices.Concat, at integers. -/
import Derived.Test.YtmcjgaffecimlaaRws
import Derived.Lib.AppendZerosOnto
import Derived.Deep.RegionHeld3
namespace Go.Proofs.Ytmcjgaffecimlaa
open Go.RowKit
set_option linter.unusedVariables false
set_option linter.unusedSimpArgs false

/-- append of any slice that reads as ls to one that the call owns -/
theorem run_app_any (ty : TypeId) (B : Nat) (v vx : Value) (l ls : List Int) (w : World) (hown : Own w B 3 .i64 v l) (hx : Ints w vx ls) (hB : B ≤ w.heap.size) (hl : l.length + ls.length ≤ 17592186044416) :
    ∃ v' w', (Builtin.append_ #[22, 22] ty #[v, vx]).run Try.prog w = .ok v' w' ∧ Own w' B 3 .i64 v' (l ++ ls) ∧ w.grownBy w' v.ownBlock ∧ (v'.ownBlock = v.ownBlock ∨ v'.ownBlock = some w.heap.size) := by
  obtain ⟨i, hi, h0, h1, h2⟩ := info_parts infoInt
  have ht := Try.underlying22
  obtain ⟨a, cap, rfl, hlc, hcm, hcells⟩ := hx
  cases a with
  | none =>
    have hne : ls = [] := by
      rcases hcells with h | ⟨_, _, _, h, _⟩
      · exact h
      · cases h
    subst hne
    refine ⟨v, w, ?_, by simpa using hown, World.grownBy.refl w _, .inl rfl⟩
    rcases hown.2 with ⟨rfl, _⟩ | ⟨g, cap', cur, rfl, _, _, hnc, _⟩
    · simp [Builtin.append_, run_underlying ht, sizeOf, typeInfo, hi, Builtin.lenOf, Builtin.firstCells]
    · simp [Builtin.append_, run_underlying ht, sizeOf, typeInfo, hi, Builtin.lenOf, Builtin.firstCells, hnc, storeCells]
  | some ad =>
    obtain ⟨v', w', hrun, h3, h4, _, h5⟩ := run_append_own_at (P := Try.prog) w B 22 ty 3 i (.int .i64 0) 1 8 ht hi h0 h1 h2 rfl (by decide) v l.length (l.map (Value.int .i64)) hown
      ad ls.length cap (ls.map (Value.int .i64)) (by simp) (fun j u hj => by
        have hjl : j < ls.length := by
          rcases Nat.lt_or_ge j ls.length with h | h
          · exact h
          · rw [List.getElem?_eq_none (show (ls.map (Value.int .i64)).length ≤ j by simpa using h)] at hj; cases hj
        rcases hcells with h | ⟨g', off, cur, e, hg, hs, hc⟩
        · subst h; simp at hjl
        · simp only [Option.some.injEq] at e
          subst e
          have hadd : (⟨g', off, none⟩ : Addr).add j = ⟨g', off + j, none⟩ := by unfold Addr.add; split <;> simp_all
          rw [hadd, cell_of_row w g' _ cur _ _ hg, hc j hjl, ← hj]
          simp [List.getD, hjl]) (ints_oneCell _ _) (by unfold maxLen; omega) (by omega) hB
    exact ⟨v', w', hrun, by unfold Own; simpa using h3, h4, h5⟩
/-- in a plain region -/
theorem app_any {ops : Array Oper} {rest : List Oper} {o : Oper} {a : Act} {Q : Exit → Act → World → Prop} (w0 w : World) (hgd : o.guard = none) (s x : Operand)
    (ho : o.op = .call { callee := .builtin .append, args := #[s, x], argTypes := #[22, 22] }) (B : Nat) (v vx : Value) (l ls : List Int)
    (hs : a.eval s = v) (hx : a.eval x = vx) (hsrc : Ints w vx ls) (hown : Own w B 3 .i64 v l) (hbel : Below B w0 w) (hB : B ≤ w.heap.size) (hl : l.length + ls.length ≤ 17592186044416)
    (hK : ∀ v' w', Own w' B 3 .i64 v' (l ++ ls) → Below B w0 w' → B ≤ w'.heap.size → wpList Try.prog ops Q rest (a.put o.dst v') w') :
    wpList Try.prog ops Q (o :: rest) a w :=
  wpList_plain hgd fun _ hK' => by
    obtain ⟨v', w', hrun, h1, h2, _⟩ := run_app_any o.type B v vx l ls w hown hsrc hB hl
    unfold Oper.wp execOp
    simp only [ho, resolve, invoke, builtin, Sem.run_bind, Sem.run_pure, Result.andThen_ok, List.map_toArray, List.map_cons, List.map_nil, hs, hx, hrun]
    exact hK' _ _ (hK v' w' h1 (hbel.grown h2 hB (fun k hk => (World.ownsRow.lt hown k hk).1)) (Nat.le_trans hB h2.size))

/-- append of so many zeros to nil -/
theorem app_make {ops : Array Oper} {rest : List Oper} {o : Oper} {a : Act} {Q : Exit → Act → World → Prop} (w : World) (hgd : o.guard = none) (s x : Operand)
    (ho : o.op = .call { callee := .builtin .append, args := #[s, x], argTypes := #[22, 3] }) (n : Nat)
    (hs : a.eval s = .slice none 0 0) (hx : a.eval x = .int .i64 n) (hpos : 0 < n) (hn : n ≤ 1048576)
    (hK : ∀ (G : Nat) w', n ≤ G → Own w' w.heap.size 3 .i64 (.slice (some ⟨w.heap.size, 0, none⟩) 0 G) [] → Below w.heap.size w w' → wpList Try.prog ops Q rest (a.put o.dst (.slice (some ⟨w.heap.size, 0, none⟩) n G)) w') :
    wpList Try.prog ops Q (o :: rest) a w :=
  wpList_plain hgd fun _ hK' => by
    obtain ⟨i, hi, hz0, hz1, hz2⟩ := info_parts infoInt
    have hGn := grownCap_ge w n 0 3
    have hG63 := grownCap_le_maxLen w n 0 3 (by unfold maxLen; omega)
    have h := Lib.run_append_grow_zeros w 22 3 o.type 3 i (.int .i64 0) .i64 .i64 Try.underlying22 Try.underlying3 hi hz0 none 0 0 [] (run_firstCells_none w.drew i.size 0 0 0) n hpos (by omega) (by omega) (by omega) (by rw [hz2]; omega)
        (growslice_fits (by omega) (by rw [hz2]; omega))
    rw [Nat.zero_add] at h
    unfold Oper.wp execOp
    simp only [ho, resolve, invoke, builtin, Sem.run_bind, Sem.run_pure, Result.andThen_ok, List.map_toArray, List.map_cons, List.map_nil, hs, hx, h]
    refine hK' _ _ (hK _ _ hGn ⟨rfl, .inr ⟨w.heap.size, _, _, rfl, Nat.le_refl _, heap_alloc_new w.drew _, Nat.zero_le _, hG63, ?_, by simp⟩⟩ (((Below.refl _ w).drew).alloc (Nat.le_refl _) _))
    rw [Array.size_append, Array.size_append, size_zeroCells, size_zeroCells]
    simp [Value.cells]
    omega
def GrowAns (w : World) (e : Ending) (w' : World) : Prop := ∃ v, e = .returned v ∧ Own w' w.heap.size 3 .i64 v [] ∧ Below w.heap.size w w'
set_option maxRecDepth 100000 in
set_option maxHeartbeats 1000000 in
theorem Grow_nil (n : Nat) (w : World) (hn : n ≤ 1048576) : Calls Try.prog 92 #[.slice none 0 0, .int .i64 n] w (GrowAns w) := by
  rcases Nat.eq_zero_or_pos n with h0 | hpos
  · subst h0
    go_enter Try.func92, Try.ntmps92
    go_wp2
    go_ret
    exact ⟨_, rfl, Own.nil _ _ _ _, Below.refl _ _⟩
  · go_enter Try.func92, Try.ntmps92
    go_wp2_with (at_builtin; refine app_make w rfl (.tmp 20) (.tmp 21) rfl n rfl rfl hpos hn ?_)
    intro G w1 hG hown hb
    go_wp2
    go_ret
    exact ⟨_, rfl, hown, hb⟩

theorem flat_succ {ll : List (List Int)} {k : Nat} (h : k < ll.length) : (ll.take (k + 1)).flatten = (ll.take k).flatten ++ ll.getD k [] := by
  rw [List.take_succ_eq_append_getElem h, List.flatten_append]
  simp [List.getD, h]
theorem flat_le (ll : List (List Int)) (k : Nat) : (ll.take k).flatten.length ≤ ll.flatten.length := by
  have h : ll.flatten = (ll.take k).flatten ++ (ll.drop k).flatten := by rw [← List.flatten_append, List.take_append_drop]
  rw [h, List.length_append]; omega

set_option maxRecDepth 100000 in
set_option maxHeartbeats 2000000 in
theorem Concat_ints (B0 : Nat) (v : Value) (ll : List (List Int)) (w : World) (hv : Rws B0 w v ll) (hT : ll.flatten.length ≤ 1048576) (hn : ll.length ≤ 1048576) :
    Calls Try.prog 86 #[v] w (IntsNew ll.flatten w) := by
  have HV := Lib.hid hv
  obtain ⟨a, cap, rfl, hlc, hcm⟩ := hv.shape
  clear hv
  obtain ⟨B, hB⟩ : ∃ B, B = w.heap.size := ⟨_, rfl⟩
  have HB := Lib.hid hB
  have hBl : B ≤ w.heap.size := by omega
  clear hB
  go_enter Try.func86, Try.ntmps86
  go_wp2
  go_loop [3, 11] (fun s i => ∃ k : Nat, k ≤ ll.length ∧ i = .int .i64 k ∧ s = .int .i64 ((ll.take k).flatten.length : Nat)) (fun _ i => ll.length - (intOf i).toNat)
  case atStart => exact ⟨0, Nat.zero_le _, rfl, rfl⟩
  case round =>
    obtain ⟨k, hk, rfl, rfl⟩ := hrel
    have hle := flat_le ll k
    by_cases hlt : k < ll.length
    · obtain ⟨g, off, u, rfl, _, _, hc, hu, _⟩ := HV.out.cell hlt
      obtain ⟨au, cu, rfl, hxu, hyu⟩ := hu.shape
      have hs := flat_succ hlt
      have hle2 := flat_le ll (k + 1)
      have hln : (ll.take (k + 1)).flatten.length = (ll.take k).flatten.length + (ll.getD k []).length := by rw [hs, List.length_append]
      obtain ⟨S, hS⟩ : ∃ S, (ll.take k).flatten.length = S := ⟨_, rfl⟩
      obtain ⟨S2, hS2⟩ : ∃ S2, (ll.take (k + 1)).flatten.length = S2 := ⟨_, rfl⟩
      obtain ⟨m, hm⟩ : ∃ m, (ll.getD k []).length = m := ⟨_, rfl⟩
      rw [hm] at hc hln
      rw [hS] at hle hln ⊢
      rw [hS2] at hle2 hln
      have HL := Lib.hid hln; have HS2 := Lib.hid hS2
      have hle3 : S + m ≤ 1048576 := by omega
      clear hs hu hS hm hln hS2 hle2
      go_wp2
      go_round
      case rel => exact ⟨k + 1, by omega, by go_num, by rw [HS2.out, HL.out]; go_num⟩
      case measure => simp [intOf]; omega
    · have hk' : k = ll.length := by omega
      have hfl : (ll.take k).flatten = ll.flatten := by rw [hk', List.take_length]
      obtain ⟨S, hS⟩ : ∃ S, (ll.take k).flatten.length = S := ⟨_, rfl⟩
      rw [hS] at hle ⊢
      clear hS hk' hfl
      go_wp2_with fail
      refine (Grow_nil S _ (by omega)).mono ?_; rintro e w1 ⟨v1, rfl, hown, b1⟩
      have HO := Lib.hid hown; have HB1 := Lib.hid b1
      clear hown b1
      go_wp2
      go_loopw [6, 27] (fun s i wr => ∃ k : Nat, k ≤ ll.length ∧ i = .int .i64 k ∧ Own wr w.heap.size 3 .i64 s ((ll.take k).flatten) ∧ Below w.heap.size w wr) (fun _ i _ => ll.length - (intOf i).toNat)
      case atStart => exact ⟨0, Nat.zero_le _, rfl, HO.out, HB1.out⟩
      case round =>
        obtain ⟨k, hk, rfl, hown, hbel⟩ := hrel
        have HO' := Lib.hid hown; have HB' := Lib.hid hbel
        by_cases hlt : k < ll.length
        · obtain ⟨g, off, u, rfl, _, hgs, hc, hu, _⟩ := HV.out.cell hlt
          have hcr := (hbel.cell (p := ⟨g, off + k, none⟩) hgs).trans hc
          have HU := Lib.hid (hu.below hbel)
          have hle2 := flat_le ll (k + 1)
          have hfs := flat_succ hlt
          obtain ⟨row, hrow⟩ : ∃ row, ll.getD k [] = row := ⟨_, rfl⟩
          rw [hrow] at hfs HU hu
          rw [hfs, List.length_append] at hle2
          have HFS := Lib.hid hfs
          obtain ⟨au, cu, rfl, hxu, hyu⟩ := hu.shape
          have HLE := Lib.hid hle2
          clear hc hu hown hbel hle2 hfs hrow
          go_wp2_with (at_builtin; refine app_any w _ rfl (.tmp 31) (.tmp 32) rfl w.heap.size _ _ ((ll.take k).flatten) row rfl rfl HU.out HO'.out HB'.out HB'.out.size (by have := HLE.out; omega) ?_)
          intro v2 w2 hown2 hbel2 hB2
          rw [← HFS.out] at hown2
          have HO2 := Lib.hid hown2; have HB2 := Lib.hid hbel2
          clear hown2 hbel2 hB2
          go_wp2
          go_roundw
          case rel => exact ⟨k + 1, by omega, by go_num, HO2.out, HB2.out⟩
          case measure => simp [intOf]; omega
        · have hk' : k = ll.length := by omega
          have hq := Ints.of_own hown
          rw [hk', List.take_length] at hq
          have HQ := Lib.hid hq
          clear hq hk' hown hbel
          go_wp2
          go_ret
          exact ⟨_, rfl, HQ.out.1, HQ.out.2, HB'.out⟩

end Go.Proofs.Ytmcjgaffecimlaa
