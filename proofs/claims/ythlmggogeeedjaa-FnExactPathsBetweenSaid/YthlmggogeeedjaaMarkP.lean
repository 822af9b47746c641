/- The laws' marks on slices of paths: laid. The paths' arrows lie in blocks of their own. -/
import Derived.Test.YthlmggogeeedjaaHeldP
import Derived.Test.YthlmggogeeedjaaPtsS
namespace Go.Proofs.Ythlmggogeeedjaa
open Go.RowKit
set_option linter.unusedVariables false
set_option linter.unusedSimpArgs false

/-- no two of the arrows' slices lie in one block -/
def dis (us : List Value) : Prop := us.Pairwise fun a b => ∀ q, blk a = some q → blk b ≠ some q
/-- a slice of paths that the call owns, the arrows in blocks of their own -/
def OwnD (w : World) (B : Nat) (v : Value) (L : List Pt) : Prop := ∃ us, w.ownsRow B 42 2 v L.length (flatP us L) ∧ arP B w us L ∧ dis us
theorem OwnD.own {w : World} {B : Nat} {v : Value} {L : List Pt} (h : OwnD w B v L) : OwnP w B v L := by
  obtain ⟨us, h1, h2, _⟩ := h; exact ⟨us, h1, h2⟩
theorem OwnD.nil (w : World) (B : Nat) : OwnD w B (.slice none 0 0) [] := ⟨[], World.ownsRow_nil w B _ 2, trivial, List.Pairwise.nil⟩
theorem OwnD.below {w w' : World} {B : Nat} {v : Value} {L : List Pt} (h : OwnD w B v L) (b : Below w.heap.size w w') : OwnD w' B v L := by
  obtain ⟨us, h1, h2, h3⟩ := h
  refine ⟨us, World.ownsRow.kept h1 (row := none) ⟨b.os, b.tape, b.output, b.size, fun i hi _ => b.block i hi⟩ ?_, h2.keep fun _ _ hv _ => hv.below b, h3⟩
  cases v.ownBlock <;> simp
theorem OwnD.mono {w : World} {B B' : Nat} {v : Value} {L : List Pt} (h : OwnD w B v L) (hB : B' ≤ B) : OwnD w B' v L := by
  obtain ⟨us, ⟨h1, h2⟩, h3, h4⟩ := h
  refine ⟨us, ⟨h1, ?_⟩, h3.mono hB, h4⟩
  rcases h2 with h2 | ⟨g, cap, cur, e, hb, r⟩
  · exact .inl h2
  · exact .inr ⟨g, cap, cur, e, Nat.le_trans hB hb, r⟩
theorem arP_lt {B : Nat} {w : World} : ∀ {us : List Value} {L : List Pt}, arP B w us L → ∀ u ∈ us, ∀ q, blk u = some q → B ≤ q ∧ q < w.heap.size
  | [], [], _, u, hu => by simp at hu
  | v :: us, _ :: L, h, u, hu => by
    intro q hq
    rcases List.mem_cons.1 hu with rfl | hu
    · exact ⟨h.2.1 q hq, h.1.lt q hq⟩
    · exact arP_lt h.2.2 u hu q hq
  | [], _ :: _, h, _, _ => h.elim
  | _ :: _, [], h, _, _ => h.elim
/-- the second one's arrows lie above M, the first one's below -/
theorem dis_app {us us2 : List Value} {M : Nat} (h : dis us) (h2 : dis us2) (hlo : ∀ u ∈ us, ∀ q, blk u = some q → q < M) (hhi : ∀ u ∈ us2, ∀ q, blk u = some q → M ≤ q) : dis (us ++ us2) := by
  unfold dis at *
  rw [List.pairwise_append]
  exact ⟨h, h2, fun a ha b hb q hq e => by have := hlo a ha q hq; have := hhi b hb q e; omega⟩
/-- append of a slice's paths to older ones -/
theorem run_app_ptd (ty : TypeId) (w1 w : World) (hb1 : Below w1.heap.size w1 w) (B : Nat) (v vx : Value) (L L2 : List Pt) (hown : OwnD w1 B v L) (hx2 : OwnD w w1.heap.size vx L2) (hBM : B ≤ w1.heap.size) (hne : 0 < L2.length) (hB : B ≤ w.heap.size) (hl : L.length + L2.length ≤ 1099511627776) :
    ∃ v' w', (Builtin.append_ #[26, 26] ty #[v, vx]).run Try.prog w = .ok v' w' ∧ OwnD w' B v' (L ++ L2) ∧ w.grownBy w' v.ownBlock ∧ (v'.ownBlock = v.ownBlock ∨ v'.ownBlock = some w.heap.size) := by
  obtain ⟨i, hi, h0, h1, h2⟩ := info_parts infoPath
  obtain ⟨us, hu1', hu2', hu3⟩ := hown
  have hlo := fun u hu q hq => (arP_lt hu2' u hu q hq).2
  have hu1 : w.ownsRow B 42 2 v L.length (flatP us L) := World.ownsRow.kept hu1' (row := none) ⟨hb1.os, hb1.tape, hb1.output, hb1.size, fun i hi _ => hb1.block i hi⟩ (by cases v.ownBlock <;> simp)
  have hu2 : arP B w us L := hu2'.keep fun _ _ hv _ => hv.below hb1
  obtain ⟨us2, hv1, hv2, hv3⟩ := hx2
  obtain ⟨_, hcase⟩ := hv1
  rcases hcase with ⟨_, hz⟩ | ⟨g, cap, cur, rfl, hb, hg, hnc, hcm, hcs, htake⟩
  · omega
  have hfl := flatP_len hv2.len
  obtain ⟨v', w', hrun, h3, h4, _, h5⟩ := run_append_own_at (P := Try.prog) w B 26 ty 42 i (.agg #[.int .i64 0, .slice none 0 0]) 2 32 Try.underlying26 hi h0 h1 h2 rfl (by decide) v L.length (flatP us L) hu1
    ⟨g, 0, none⟩ L2.length cap (flatP us2 L2) (by rw [hfl]) (fun j u hj => by
      have hadd : (⟨g, 0, none⟩ : Addr).add j = ⟨g, j, none⟩ := by unfold Addr.add; split <;> simp_all
      have hjl : j < L2.length * 2 := by
        rw [← hfl]
        exact (List.getElem?_eq_some_iff.1 hj).1
      rw [hadd, cell_of_row w g j cur _ _ hg, ← hj, ← htake, List.getElem?_take_of_lt (by omega), Array.getElem?_toList]) (flatP_one hv2) (by unfold maxLen; omega) (by omega) hB
  refine ⟨v', w', hrun, ⟨us ++ us2, ?_, ?_, dis_app hu3 hv3 hlo (fun u hu q hq => (arP_lt hv2 u hu q hq).1)⟩, h4, h5⟩
  · rw [flatP_app hu2.len, List.length_append]; exact h3
  · have hkeep : ∀ u l, Ints w u l → FreshV B u → Ints w' u l := fun u l hu _ => grown_ints h4 hu (hu.farP hu1)
    exact arP.app ((hv2.mono hBM).keep hkeep) (hu2.keep hkeep)
theorem step_app_ptd {ops : Array Oper} {o : Oper} {a : Act} {K : Act → World → Prop} {Q : Exit → Act → World → Prop} {E : Prop} (w1 w : World) (hb1 : Below w1.heap.size w1 w) (hgd : o.guard = none) (s x : Operand)
    (ho : o.op = .call { callee := .builtin .append, args := #[s, x], argTypes := #[26, 26] }) (B : Nat) (v vx : Value) (L L2 : List Pt)
    (hs : a.eval s = v) (hx : a.eval x = vx) (hown : OwnD w1 B v L) (hx2 : OwnD w w1.heap.size vx L2) (hBM : B ≤ w1.heap.size) (hne : 0 < L2.length) (hB : B ≤ w.heap.size) (hl : L.length + L2.length ≤ 1099511627776)
    (hK : ∀ v' w', OwnD w' B v' (L ++ L2) → w.grownBy w' v.ownBlock → (v'.ownBlock = v.ownBlock ∨ v'.ownBlock = some w.heap.size) → K (a.put o.dst v') w') :
    if Region.wanted o (yielded ops a.tmps) = true then Oper.wp Try.prog o a w K Q else E := by
  have hw : Region.wanted o (yielded ops a.tmps) = true := by simp [Region.wanted, hgd]
  rw [if_pos hw]
  obtain ⟨v', w', hrun, h1, h2, h3⟩ := run_app_ptd o.type w1 w hb1 B v vx L L2 hown hx2 hBM hne hB hl
  unfold Oper.wp
  simp [execOp, ho, resolve, invoke, builtin, hs, hx, hrun, Result.andThen]
  exact hK v' w' h1 h2 h3
theorem app_ptd {ops : Array Oper} {rest : List Oper} {o : Oper} {a : Act} {Q : Exit → Act → World → Prop} (w1 w : World) (hb1 : Below w1.heap.size w1 w) (hgd : o.guard = none) (s x : Operand)
    (ho : o.op = .call { callee := .builtin .append, args := #[s, x], argTypes := #[26, 26] }) (B : Nat) (v vx : Value) (L L2 : List Pt)
    (hs : a.eval s = v) (hx : a.eval x = vx) (hown : OwnD w1 B v L) (hx2 : OwnD w w1.heap.size vx L2) (hBM : B ≤ w1.heap.size) (hne : 0 < L2.length) (hB : B ≤ w.heap.size) (hl : L.length + L2.length ≤ 1099511627776)
    (hK : ∀ v' w', OwnD w' B v' (L ++ L2) → w.grownBy w' v.ownBlock → (v'.ownBlock = v.ownBlock ∨ v'.ownBlock = some w.heap.size) → wpList Try.prog ops Q rest (a.put o.dst v') w') :
    wpList Try.prog ops Q (o :: rest) a w :=
  wpList_plain hgd fun _ hK' => by
    obtain ⟨v', w', hrun, h1, h2, h3⟩ := run_app_ptd o.type w1 w hb1 B v vx L L2 hown hx2 hBM hne hB hl
    unfold Oper.wp execOp
    simp only [ho, resolve, invoke, builtin, Sem.run_bind, Sem.run_pure, Result.andThen_ok, List.map_toArray, List.map_cons, List.map_nil, hs, hx, hrun]
    exact hK' _ _ (hK v' w' h1 h2 h3)
theorem OwnD.one (w : World) {B : Nat} (st : Int) {u : Value} {ar : List Int} (hu : Ints w u ar) (hf : FreshV B u) (hB : B ≤ w.heap.size) : OwnD (w.alloc (.cells #[.int .i64 st, u] 42)) B (.slice (some ⟨w.heap.size, 0, none⟩) 1 1) [(st, ar)] :=
  ⟨[u], World.ownsRow_lit (size := 2) (e := 42) (base := B) w #[.int .i64 st, u] 1 hB (by decide) rfl, ⟨hu.below ((Below.refl _ w).alloc (Nat.le_refl _) _), hf, trivial⟩, by unfold dis; simp⟩
/-- the paths that go on, their row new, their arrows new from B0 on, in blocks of their own -/
def PtsFromD (B0 : Nat) (L : List Pt) (w : World) (e : Ending) (w' : World) : Prop := ∃ v, e = .returned v ∧ OwnD w' B0 v L ∧ (∀ q, v.ownBlock = some q → w.heap.size ≤ q) ∧ Below w.heap.size w w'
/-- new paths and a word, the arrows in blocks of their own -/
def PtsOKD (L : List Pt) (ok : Bool) (w : World) (e : Ending) (w' : World) : Prop := ∃ v, e = .returned (.tuple #[v, .bool ok]) ∧ OwnD w' w.heap.size v L ∧ Below w.heap.size w w'
theorem PtsOKD.of_eq {L L' : List Pt} {ok ok' : Bool} {w w' : World} {e : Ending} (h : PtsOKD L ok w e w') (h1 : L = L') (h2 : ok = ok') : PtsOKD L' ok' w e w' := by subst h1; subst h2; exact h
end Go.Proofs.Ythlmggogeeedjaa
