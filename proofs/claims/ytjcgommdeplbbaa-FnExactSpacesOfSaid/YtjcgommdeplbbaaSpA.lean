/- SpacesOf, of the reference: l5Rows; appends of any slice of integers. -/
import Derived.Test.YtjcgommdeplbbaaMg3
import Derived.Test.YtjcgommdeplbbaaSS2
import Derived.Test.YtjcgommdeplbbaaLawR
import Derived.Deep.RegionLaw
namespace Go.Proofs.Ytjcgommdeplbbaa
open Go.RowKit
set_option linter.unusedVariables false
set_option linter.unusedSimpArgs false

theorem Own.same {w w' : World} {B : Nat} {e : TypeId} {k : IntKind} {v : Value} {l : List Int} (h : Own w B e k v l) (hb : ∀ g, v.ownBlock = some g → w'.heap[g]? = w.heap[g]?) : Own w' B e k v l := by
  refine ⟨h.1, ?_⟩
  rcases h.2 with h2 | ⟨g, cap, cur, rfl, h4, h5, h6⟩
  · exact .inl h2
  · refine .inr ⟨g, cap, cur, rfl, h4, ?_, h6⟩
    rw [hb g rfl]; exact h5
/-- append of any slice to the call's own row, in a plain region -/
theorem app_any2 {ops : Array Oper} {rest : List Oper} {o : Oper} {a : Act} {Q : Exit → Act → World → Prop} (w : World) (hgd : o.guard = none) (s x : Operand)
    (ho : o.op = .call { callee := .builtin .append, args := #[s, x], argTypes := #[37, 37] }) (B : Nat) (v vx : Value) (l ls : List Int)
    (hs : a.eval s = v) (hx : a.eval x = vx) (hown : Own w B 3 .i64 v l) (hx2 : Ints w vx ls) (hB : B ≤ w.heap.size) (hl : l.length + ls.length ≤ 17592186044416)
    (hK : ∀ v' w', Own w' B 3 .i64 v' (l ++ ls) → w.grownBy w' v.ownBlock → (v'.ownBlock = v.ownBlock ∨ v'.ownBlock = some w.heap.size) → wpList Try.prog ops Q rest (a.put o.dst v') w') :
    wpList Try.prog ops Q (o :: rest) a w :=
  wpList_plain hgd fun _ hK' => by
    obtain ⟨v', w', hrun, h1, h2, h3⟩ := run_app_any2 o.type B v vx l ls w hown hx2 hB hl
    unfold Oper.wp execOp
    simp only [ho, resolve, invoke, builtin, Sem.run_bind, Sem.run_pure, Result.andThen_ok, List.map_toArray, List.map_cons, List.map_nil, hs, hx, hrun]
    exact hK' _ _ (hK v' w' h1 h2 h3)
theorem step_app_any3 {ops : Array Oper} {o : Oper} {a : Act} {K : Act → World → Prop} {Q : Exit → Act → World → Prop} {E : Prop} (w : World) (hgd : o.guard = none) (s x : Operand)
    (ho : o.op = .call { callee := .builtin .append, args := #[s, x], argTypes := #[37, 37] }) (B : Nat) (v vx : Value) (l ls : List Int)
    (hs : a.eval s = v) (hx : a.eval x = vx) (hown : Own w B 3 .i64 v l) (hsrc : Ints w vx ls) (hB : B ≤ w.heap.size) (hl : l.length + ls.length ≤ 17592186044416)
    (hK : ∀ v' w', Own w' B 3 .i64 v' (l ++ ls) → w.grownBy w' v.ownBlock → (v'.ownBlock = v.ownBlock ∨ v'.ownBlock = some w.heap.size) → K (a.put o.dst v') w') :
    if Region.wanted o (yielded ops a.tmps) = true then Oper.wp Try.prog o a w K Q else E := by
  have hw : Region.wanted o (yielded ops a.tmps) = true := by simp [Region.wanted, hgd]
  rw [if_pos hw]
  obtain ⟨v', w', hrun, h1, h2, h3⟩ := run_app_any2 o.type B v vx l ls w hown hsrc hB hl
  unfold Oper.wp
  simp [execOp, ho, resolve, invoke, builtin, hs, hx, hrun, Result.andThen]
  exact hK v' w' h1 h2 h3
/-- a matrix under way: the struct's block b (its third cell cv), the result's block t, the row v -/
def MH (w0 : World) (t b B : Nat) (R C : Int) (cv v : Value) (l : List Int) (w : World) : Prop :=
  Blk w b #[.int .i64 R, .int .i64 C, cv] 49 ∧ Res3 w t 49 ∧ Own w B 3 .i64 v l ∧ (∀ k, v.ownBlock = some k → k ≠ b ∧ k ≠ t) ∧ Below w0.heap.size w0 w ∧ B ≤ w.heap.size ∧ w0.heap.size ≤ b ∧ t ≠ b ∧ w0.heap.size ≤ B ∧ w0.heap.size ≤ t
theorem MH.drew {w0 w : World} {t b B : Nat} {R C : Int} {cv v : Value} {l : List Int} (h : MH w0 t b B R C cv v l w) : MH w0 t b B R C cv v l w.drew := by
  obtain ⟨h1, h2, h3, h4, h5, h6⟩ := h
  exact ⟨h1, h2, h3.drewN 1, h4, h5.drew, h6⟩
theorem MH.store {w0 w : World} {t b B : Nat} {R C : Int} {cv v : Value} {l : List Int} (h : MH w0 t b B R C cv v l w) : MH w0 t b B R C v v l (w.setCell ⟨b, 2, none⟩ v) := by
  obtain ⟨h1, ⟨x, y, z, h2⟩, h3, h4, h5, h6, h7, h8, h9⟩ := h
  refine ⟨h1.set 2 v, ⟨x, y, z, h2.setOther (p := ⟨b, 2, none⟩) (by simpa using h8) v⟩, h3.same fun g hg => heap_setCell_other w ⟨b, 2, none⟩ g v (fun e => (h4 g hg).1 e), h4, h5.setCell (p := ⟨b, 2, none⟩) h7 v, ?_, h7, h8, h9⟩
  have := ((Chg.refl (fun q => q = b) w).setCell (p := ⟨b, 2, none⟩) rfl v).size
  omega
theorem MH.grow {w0 w w' : World} {t b B : Nat} {R C : Int} {cv v v' : Value} {l l' : List Int} (h : MH w0 t b B R C cv v l w) (hg : w.grownBy w' v.ownBlock) (ho : Own w' B 3 .i64 v' l')
    (hloc : v'.ownBlock = v.ownBlock ∨ v'.ownBlock = some w.heap.size) : MH w0 t b B R C cv v' l' w' := by
  obtain ⟨h1, ⟨x, y, z, h2⟩, h3, h4, h5, h6, h7, h8, h9, h10⟩ := h
  have hbl := h1.lt
  have htl := h2.lt
  have hsz := hg.size
  refine ⟨?_, ⟨x, y, z, ?_⟩, ho, ?_, ?_, by omega, h7, h8, h9, h10⟩
  · unfold Blk; rw [hg.block b hbl (fun e => (h4 b e.symm).1 rfl)]; exact h1
  · unfold Blk; rw [hg.block t htl (fun e => (h4 t e.symm).2 rfl)]; exact h2
  · intro k hk
    rcases hloc with e | e
    · exact h4 k (e.symm.trans hk)
    · rw [e] at hk; simp at hk; omega
  · exact Below.grown h5 hg h5.size (fun k hk => by have := (World.ownsRow.lt h3 k hk).1; omega)
theorem MH.fin {w0 w : World} {t b B : Nat} {R C : Int} {cv v : Value} {l : List Int} (h : MH w0 t b B R C cv v l w) :
    Blk (set3 w t (.int .i64 R) (.int .i64 C) v) t #[.int .i64 R, .int .i64 C, v] 49 ∧ Ints (set3 w t (.int .i64 R) (.int .i64 C) v) v l ∧ Below w0.heap.size w0 (set3 w t (.int .i64 R) (.int .i64 C) v) := by
  obtain ⟨h1, h2, h3, h4, h5, h6, h7, h8, h9, h10⟩ := h
  refine ⟨h2.blk_set _ _ _, (Ints.of_own (h3.same (w' := set3 w t (.int .i64 R) (.int .i64 C) v) fun g hg => set3_other _ _ _ (h4 g hg).2)).1, set3_below h5 h10 _ _ _⟩
theorem flat_take {ll : List (List Int)} {m : Nat} (hlen : ∀ i, i < ll.length → (ll.getD i []).length ≤ m) : ∀ k, (ll.take k).flatten.length ≤ k * m := by
  intro k
  induction k with
  | zero => simp
  | succ k ih =>
    rw [Nat.succ_mul]
    by_cases hk : k < ll.length
    · have h3 := hlen k hk
      have h5 : (ll.take (k + 1)).flatten = (ll.take k).flatten ++ ll.getD k [] := by
        rw [List.take_add_one, List.flatten_append, List.getElem?_eq_getElem hk]; simp [List.getD, hk]
      rw [h5]
      generalize (ll.take k).flatten = A at ih ⊢
      rw [List.length_append]
      omega
    · rw [List.take_of_length_le (by omega)] at ih ⊢
      omega
/-- a matrix in new memory -/
def MatCells (R C : Int) (l : List Int) (w : World) (e : Ending) (w' : World) : Prop := ∃ c, e = .returned (.agg #[.int .i64 R, .int .i64 C, c]) ∧ Ints w' c l ∧ Below w.heap.size w w'
set_option maxRecDepth 100000 in
set_option maxHeartbeats 4000000 in
theorem s_l5Rows (n : Int) (v : Value) (ll : List (List Int)) (w : World) (hv : IntsS w v ll) (hlen : ∀ i, i < ll.length → (ll.getD i []).length ≤ 64) (hll : ll.length ≤ 64) :
    Calls Try.prog 41 #[.int .i64 n, v] w (MatCells ll.length n ll.flatten w) := by
  obtain ⟨a, cap, rfl, hlc, hcm⟩ := hv.shape
  have h2 : Below w.heap.size w ((w.alloc (.cells #[.int .i64 0, .int .i64 0, .slice none 0 0] 49)).alloc (.cells #[.int .i64 ll.length, .int .i64 n, .slice none 0 0] 49)) := ((Below.refl _ w).alloc (Nat.le_refl _) _).alloc (by simp) _
  have hs1 : (w.alloc (.cells #[.int .i64 0, .int .i64 0, .slice none 0 0] 49)).heap.size = w.heap.size + 1 := by simp
  have Q0 : Hid (MH w w.heap.size (w.heap.size + 1) w.heap.size ll.length n (.slice none 0 0) (.slice none 0 0) [] ((w.alloc (.cells #[.int .i64 0, .int .i64 0, .slice none 0 0] 49)).alloc (.cells #[.int .i64 ll.length, .int .i64 n, .slice none 0 0] 49))) := by
    refine ⟨?_, ⟨_, _, _, (Blk.new w _ _).below ((Below.refl _ _).alloc (Nat.le_refl _) _)⟩, Own.nil _ _ _ _, fun k hk => by simp [Value.ownBlock] at hk, h2, by simp; omega, by omega, by omega, Nat.le_refl _, Nat.le_refl _⟩
    have := Blk.new (w.alloc (.cells #[.int .i64 0, .int .i64 0, .slice none 0 0] 49)) #[.int .i64 ll.length, .int .i64 n, .slice none 0 0] 49
    rwa [hs1] at this
  have HV := Lib.hid hv
  have HLN := Lib.hid hlen
  have HFL := Lib.hid (flat_take (m := 64) hlen)
  clear hv h2 hs1 hlen
  go_enter Try.func41, Try.ntmps41
  go_wp2
  go_loopw [6] (fun iv wr => ∃ (k : Nat) (cv : Value) (F : List Int), iv = .int .i64 k ∧ k ≤ ll.length ∧ Hid (F = (ll.take k).flatten) ∧ Hid (MH w w.heap.size (w.heap.size + 1) w.heap.size ll.length n cv cv F wr)) (fun iv _ => ll.length - (intOf iv).toNat)
  case atStart => exact ⟨0, _, [], rfl, by omega, by unfold Hid; simp, Q0⟩
  case round =>
    obtain ⟨k, cv, F, rfl, hk, HFE, HQ⟩ := hrel
    obtain ⟨u0, u1, u2⟩ := blk3 HQ.out.1
    by_cases hlt : k < ll.length
    · obtain ⟨g, off, u, rfl, hgs, hc, hu⟩ := (HV.out.below HQ.out.2.2.2.2.1).cell hlt
      have hk0 : (0 : Int) ≤ (k : Int) := by omega
      have hk1 : (k : Int) < (ll.length : Int) := by omega
      have hf2 := HQ.out.1.frozen 2
      have HU := Lib.hid hu.drew
      have hulen := HLN.out k hlt
      have hfl : F.length ≤ k * 64 := by rw [HFE.out]; exact HFL.out k
      obtain ⟨row, hrow⟩ : ∃ row, row = ll.getD k [] := ⟨_, rfl⟩
      rw [← hrow] at hu hulen HU
      have HE := Lib.hid (show F ++ row = (ll.take (k + 1)).flatten by
        rw [HFE.out, hrow, List.take_add_one, List.flatten_append, List.getElem?_eq_getElem hlt]; simp [List.getD, hlt])
      obtain ⟨af, cf, rfl, _, _⟩ := (Ints.of_own HQ.out.2.2.1).1.shape
      obtain ⟨au, cu, rfl, _, _⟩ := hu.shape
      clear hu hrow
      go_wp2
      go_region_law (first
        | (refine step_app_any3 wr.drew (by rfl) (.tmp 18) (.tmp 22) (by rfl) w.heap.size _ _ F row (by rfl) (by rfl) HQ.out.drew.2.2.1 HU.out HQ.out.2.2.2.2.2.1 (by omega) ?_; intro v2 w9 ho9 hg9 hloc9; have q9 := HQ.out.drew.grow hg9 ho9 hloc9; obtain ⟨a2', c2', rfl, _, _⟩ := (Ints.of_own ho9).1.shape; rw [List.length_append] at q9 ⊢; obtain ⟨z0, z1, z2⟩ := blk3 q9.1; have fz := q9.1.frozen 2))
      all_goals
        have Q9 := Lib.hid q9.store
        clear q9 ho9 hg9 hloc9 z0 z1 z2 fz u0 u1 u2 hf2 hc
        go_wp2
        go_roundw
        case rel => exact ⟨k + 1, _, _, by go_num, by omega, HE, Q9⟩
        case measure => simp [intOf]; omega
    · have hke : k = ll.length := by omega
      have hX := HQ.out.fin
      obtain ⟨af, cf, rfl, _, _⟩ := (Ints.of_own HQ.out.2.2.1).1.shape
      have HFF := Lib.hid (show ll.flatten = F by rw [HFE.out, hke, List.take_length])
      have HX := Lib.hid hX
      unfold set3 at HX
      obtain ⟨y0, y1, y2, q0, q1, q2, t0, t1, t2⟩ := HQ.out.2.1.open_
      clear hX
      go_wp2
      refine bodyPost_ret (v := .agg #[.int .i64 ll.length, .int .i64 n, .slice af F.length cf]) (by simp [results, Try.results41, go_sem, HX.out.1.cell 0, HX.out.1.cell 1, HX.out.1.cell 2]) rfl ?_
      exact ⟨_, rfl, by rw [HFF.out]; exact HX.out.2.1, HX.out.2.2⟩
end Go.Proofs.Ytjcgommdeplbbaa
