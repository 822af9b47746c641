/- A slice of paths that the call owns: reading, append of one, append of many. -/
import Derived.Test.YthlmggogeeedjaaPtL
import Derived.Test.YthlmggogeeedjaaMB
import Derived.Maps.AppendAt
namespace Go.Proofs.Ythlmggogeeedjaa
open Go.RowKit
set_option linter.unusedVariables false
set_option linter.unusedSimpArgs false

abbrev Pt := Int × List Int
theorem infoPath : (Try.prog.info? 42).map (fun i => (i.zero, i.size, i.bytes)) = some (some (.agg #[.int .i64 0, .slice none 0 0]), 2, 32) := by kernel_rfl
def flatP : List Value → List Pt → List Value
  | u :: us, p :: L => .int .i64 p.1 :: u :: flatP us L
  | _, _ => []
def arP (B : Nat) (w : World) : List Value → List Pt → Prop
  | [], [] => True
  | u :: us, p :: L => Ints w u p.2 ∧ FreshV B u ∧ arP B w us L
  | _, _ => False
theorem arP.len {B : Nat} {w : World} : ∀ {us : List Value} {L : List Pt}, arP B w us L → us.length = L.length
  | [], [], _ => rfl
  | _ :: _, _ :: _, h => by simp [arP.len h.2.2]
  | [], _ :: _, h => h.elim
  | _ :: _, [], h => h.elim
theorem arP.keep {B : Nat} {w w' : World} (hk : ∀ v l, Ints w v l → FreshV B v → Ints w' v l) : ∀ {us : List Value} {L : List Pt}, arP B w us L → arP B w' us L
  | [], [], _ => trivial
  | _ :: _, _ :: _, h => ⟨hk _ _ h.1 h.2.1, h.2.1, arP.keep hk h.2.2⟩
  | [], _ :: _, h => h.elim
  | _ :: _, [], h => h.elim
theorem arP.mono {B B' : Nat} {w : World} (hB : B' ≤ B) : ∀ {us : List Value} {L : List Pt}, arP B w us L → arP B' w us L
  | [], [], _ => trivial
  | _ :: _, _ :: _, h => ⟨h.1, h.2.1.mono hB, arP.mono hB h.2.2⟩
  | [], _ :: _, h => h.elim
  | _ :: _, [], h => h.elim
theorem arP.app {B : Nat} {w : World} {us2 : List Value} {L2 : List Pt} (h2 : arP B w us2 L2) : ∀ {us : List Value} {L : List Pt}, arP B w us L → arP B w (us ++ us2) (L ++ L2)
  | [], [], _ => h2
  | _ :: _, _ :: _, h => ⟨h.1, h.2.1, arP.app h2 h.2.2⟩
  | [], _ :: _, h => h.elim
  | _ :: _, [], h => h.elim
theorem flatP_app {us2 : List Value} {L2 : List Pt} : ∀ {us : List Value} {L : List Pt}, us.length = L.length → flatP (us ++ us2) (L ++ L2) = flatP us L ++ flatP us2 L2
  | [], [], _ => rfl
  | u :: us, p :: L, h => by
    have := flatP_app (us2 := us2) (L2 := L2) (us := us) (L := L) (by simpa using h)
    simp [flatP, this]
  | [], _ :: _, h => by simp at h
  | _ :: _, [], h => by simp at h
theorem flatP_len : ∀ {us : List Value} {L : List Pt}, us.length = L.length → (flatP us L).length = L.length * 2
  | [], [], _ => rfl
  | u :: us, p :: L, h => by
    have := flatP_len (us := us) (L := L) (by simpa using h)
    simp [flatP, this]; omega
  | [], _ :: _, h => by simp at h
  | _ :: _, [], h => by simp at h
theorem arP.get {B : Nat} {w : World} : ∀ {us : List Value} {L : List Pt}, arP B w us L → ∀ i, i < L.length → ∃ u, (flatP us L)[i * 2]? = some (.int .i64 (L.getD i (0, [])).1) ∧ (flatP us L)[i * 2 + 1]? = some u ∧ Ints w u (L.getD i (0, [])).2 ∧ FreshV B u
  | [], [], _, i, hi => by simp at hi
  | u :: _, p :: _, h, 0, _ => ⟨u, rfl, rfl, h.1, h.2.1⟩
  | _ :: _, _ :: L, h, i + 1, hi => by
    obtain ⟨v, e1, e2, h1, h2⟩ := arP.get h.2.2 i (by simpa using hi)
    refine ⟨v, ?_, ?_, by simpa [List.getD] using h1, h2⟩
    · rw [show (i + 1) * 2 = i * 2 + 1 + 1 by omega]; simpa [flatP, List.getD] using e1
    · rw [show (i + 1) * 2 + 1 = i * 2 + 1 + 1 + 1 by omega]; simpa [flatP] using e2
  | [], _ :: _, h, _, _ => h.elim
  | _ :: _, [], h, _, _ => h.elim
theorem flatP_one : ∀ {B : Nat} {w : World} {us : List Value} {L : List Pt}, arP B w us L → ∀ x ∈ flatP us L, x.oneCell' = true
  | _, _, [], [], _ => by simp [flatP]
  | _, _, u :: us, p :: L, h => by
    intro x hx
    simp only [flatP, List.mem_cons] at hx
    rcases hx with rfl | rfl | hx
    · rfl
    · obtain ⟨a, c, rfl, _⟩ := h.1.shape; rfl
    · exact flatP_one h.2.2 x hx
  | _, _, [], _ :: _, h => h.elim
  | _, _, _ :: _, [], h => h.elim
/-- a slice of paths that the call owns -/
def OwnP (w : World) (B : Nat) (v : Value) (L : List Pt) : Prop := ∃ us, w.ownsRow B 42 2 v L.length (flatP us L) ∧ arP B w us L
theorem OwnP.nil (w : World) (B : Nat) : OwnP w B (.slice none 0 0) [] := ⟨[], World.ownsRow_nil w B _ 2, trivial⟩
theorem OwnP.below {w w' : World} {B : Nat} {v : Value} {L : List Pt} (h : OwnP w B v L) (b : Below w.heap.size w w') : OwnP w' B v L := by
  obtain ⟨us, h1, h2⟩ := h
  refine ⟨us, World.ownsRow.kept h1 (row := none) ⟨b.os, b.tape, b.output, b.size, fun i hi _ => b.block i hi⟩ ?_, h2.keep fun _ _ hv _ => hv.below b⟩
  cases v.ownBlock <;> simp
theorem OwnP.shape {w : World} {B : Nat} {v : Value} {L : List Pt} (h : OwnP w B v L) : ∃ a c, v = .slice a L.length c ∧ L.length ≤ c ∧ c ≤ 9223372036854775807 := by
  obtain ⟨us, ⟨_, h2⟩, _⟩ := h
  rcases h2 with ⟨rfl, h0⟩ | ⟨g, cap, cur, rfl, _, _, hnc, hcm, _⟩
  · exact ⟨none, 0, by rw [h0], by omega, by omega⟩
  · exact ⟨_, cap, rfl, hnc, by simpa [maxLen] using hcm⟩
theorem OwnP.cell {w : World} {B : Nat} {a : Option Addr} {n c : Nat} {L : List Pt} (h : OwnP w B (.slice a n c) L) {i : Nat} (hi : i < L.length) :
    ∃ g u, a = some ⟨g, 0, none⟩ ∧ B ≤ g ∧ g < w.heap.size ∧ w.cell? ⟨g, i * 2, none⟩ = some (.int .i64 (L.getD i (0, [])).1) ∧ w.cell? ⟨g, i * 2 + 1, none⟩ = some u ∧ Ints w u (L.getD i (0, [])).2 ∧ FreshV B u := by
  obtain ⟨us, ⟨hl, h2⟩, hr⟩ := h
  rcases h2 with ⟨_, h0⟩ | ⟨g, cap, cur, e, hb, hg, hnc, hcm, hcs, htake⟩
  · omega
  · simp only [Value.slice.injEq] at e
    obtain ⟨rfl, rfl, rfl⟩ := e
    obtain ⟨u, e1, e2, h1, h2⟩ := hr.get i hi
    refine ⟨g, u, rfl, hb, (Array.getElem?_eq_some_iff.1 hg).1, ?_, ?_, h1, h2⟩
    · rw [cell_of_row w g _ cur _ _ hg, ← e1, ← htake, List.getElem?_take_of_lt (by omega), Array.getElem?_toList]
    · rw [cell_of_row w g _ cur _ _ hg, ← e2, ← htake, List.getElem?_take_of_lt (by omega), Array.getElem?_toList]
/-- a slice of integers lies in no row of paths -/
theorem Ints.farP {w : World} {B : Nat} {v : Value} {n : Nat} {xs : List Value} {u : Value} {l : List Int} (h : Ints w u l) (ho : w.ownsRow B 42 2 v n xs) : ∀ k, blk u = some k → some k ≠ v.ownBlock := by
  intro k hk e
  obtain ⟨a, cap, rfl, _, _, rfl | ⟨g, off, cur, rfl, hg, _, _⟩⟩ := h
  · cases a <;> simp [blk] at hk
  · have hgk : g = k := by
      cases l with
      | nil => simp [blk] at hk
      | cons y l => simpa [blk] using hk
    subst hgk
    rcases ho.2 with ⟨rfl, _⟩ | ⟨g2, cap2, cur2, rfl, _, hg2, _⟩
    · simp [Value.ownBlock] at e
    · have : g = g2 := by simpa [Value.ownBlock] using e
      subst this
      rw [hg] at hg2
      simp at hg2
theorem grown_ints {w w' : World} {row : Option Nat} {u : Value} {l : List Int} (hg : w.grownBy w' row) (h : Ints w u l) (hf : ∀ k, blk u = some k → some k ≠ row) : Ints w' u l :=
  h.keep fun k hk => hg.block k (h.lt k hk) (hf k hk)
theorem OwnP.mono {w : World} {B B' : Nat} {v : Value} {L : List Pt} (h : OwnP w B v L) (hB : B' ≤ B) : OwnP w B' v L := by
  obtain ⟨us, ⟨h1, h2⟩, h3⟩ := h
  refine ⟨us, ⟨h1, ?_⟩, h3.mono hB⟩
  rcases h2 with h2 | ⟨g, cap, cur, e, hb, r⟩
  · exact .inl h2
  · exact .inr ⟨g, cap, cur, e, Nat.le_trans hB hb, r⟩
/-- a row of paths is as it was behind the growth of another one -/
theorem OwnP.other {w w' : World} {B B2 : Nat} {u v : Value} {L L2 : List Pt} (h : OwnP w B2 u L2) (hv : OwnP w B v L) (hg : w.grownBy w' v.ownBlock) (hd : ∀ g, u.ownBlock = some g → v.ownBlock ≠ some g) : OwnP w' B2 u L2 := by
  obtain ⟨us, h1, h2⟩ := h
  obtain ⟨us', h1', _⟩ := hv
  refine ⟨us, ?_, h2.keep fun x l hx _ => grown_ints hg hx (hx.farP h1')⟩
  refine ⟨h1.1, ?_⟩
  rcases h1.2 with hn | ⟨g, cap, cur, rfl, hb, hh, r⟩
  · exact .inl hn
  · exact .inr ⟨g, cap, cur, rfl, hb, by rw [hg.block g (Array.getElem?_eq_some_iff.1 hh).1 (fun e => hd g rfl e.symm)]; exact hh, r⟩
theorem OwnP.ownLt {w : World} {B : Nat} {v : Value} {L : List Pt} (h : OwnP w B v L) : ∀ g, v.ownBlock = some g → B ≤ g ∧ g < w.heap.size := by
  obtain ⟨us, h1, _⟩ := h
  exact World.ownsRow.lt h1
/-- append of the paths of a slice -/
theorem app_pts {ops : Array Oper} {rest : List Oper} {o : Oper} {a : Act} {Q : Exit → Act → World → Prop} (w : World) (hgd : o.guard = none) (s x : Operand)
    (ho : o.op = .call { callee := .builtin .append, args := #[s, x], argTypes := #[26, 26] }) (B : Nat) (v vx : Value) (L L2 : List Pt)
    (hs : a.eval s = v) (hx : a.eval x = vx) (hown : OwnP w B v L) (hx2 : OwnP w B vx L2) (hne : 0 < L2.length) (hB : B ≤ w.heap.size) (hl : L.length + L2.length ≤ 1099511627776)
    (hK : ∀ v' w', OwnP w' B v' (L ++ L2) → w.grownBy w' v.ownBlock → (v'.ownBlock = v.ownBlock ∨ v'.ownBlock = some w.heap.size) → wpList Try.prog ops Q rest (a.put o.dst v') w') :
    wpList Try.prog ops Q (o :: rest) a w := by
  obtain ⟨i, hi, h0, h1, h2⟩ := info_parts infoPath
  obtain ⟨us, hu1, hu2⟩ := hown
  obtain ⟨us2, hv1, hv2⟩ := hx2
  obtain ⟨_, hcase⟩ := hv1
  rcases hcase with ⟨_, hz⟩ | ⟨g, cap, cur, rfl, hb, hg, hnc, hcm, hcs, htake⟩
  · omega
  have hfl := flatP_len hv2.len
  refine wpList_append_own_at _ hgd s x 26 ho B 42 i (.agg #[.int .i64 0, .slice none 0 0]) 2 32 Try.underlying26 hi h0 h1 h2 rfl (by decide) v L.length (flatP us L) hs hu1
    ⟨g, 0, none⟩ L2.length cap (flatP us2 L2) hx (by rw [hfl]) (fun j u hj => ?_) (flatP_one hv2) (by unfold maxLen; omega) (by omega) hB ?_
  · have hadd : (⟨g, 0, none⟩ : Addr).add j = ⟨g, j, none⟩ := by unfold Addr.add; split <;> simp_all
    have hjl : j < L2.length * 2 := by
      rw [← hfl]
      exact (List.getElem?_eq_some_iff.1 hj).1
    rw [hadd, cell_of_row w g j cur _ _ hg, ← hj, ← htake, List.getElem?_take_of_lt (by omega), Array.getElem?_toList]
  · intro v' w' ho' hg' _ hloc
    refine hK v' w' ⟨us ++ us2, ?_, ?_⟩ hg' hloc
    · rw [flatP_app hu2.len, List.length_append]; exact ho'
    · have hkeep : ∀ u l, Ints w u l → FreshV B u → Ints w' u l := fun u l hu _ => grown_ints hg' hu (hu.farP hu1)
      exact arP.app (hv2.keep hkeep) (hu2.keep hkeep)
/-- append of one path, laid into a block of its own -/
theorem app_pt {ops : Array Oper} {rest : List Oper} {o : Oper} {a : Act} {Q : Exit → Act → World → Prop} (w : World) (hgd : o.guard = none) (s x : Operand)
    (ho : o.op = .call { callee := .builtin .append, args := #[s, x], argTypes := #[26, 26] }) (B : Nat) (v : Value) (L : List Pt) (st : Int) (u : Value) (ar : List Int)
    (hs : a.eval s = v) (hx : a.eval x = .slice (some ⟨w.heap.size, 0, none⟩) 1 1) (hown : OwnP w B v L) (hu : Ints w u ar) (hf : FreshV B u) (hB : B ≤ w.heap.size) (hl : L.length + 1 ≤ 1099511627776)
    (hK : ∀ v' w', OwnP w' B v' (L ++ [(st, ar)]) → (w.alloc (.cells #[.int .i64 st, u] 42)).grownBy w' v.ownBlock → (v'.ownBlock = v.ownBlock ∨ v'.ownBlock = some (w.heap.size + 1)) → wpList Try.prog ops Q rest (a.put o.dst v') w') :
    wpList Try.prog ops Q (o :: rest) a (w.alloc (.cells #[.int .i64 st, u] 42)) := by
  have hb1 : Below w.heap.size w (w.alloc (.cells #[.int .i64 st, u] 42)) := (Below.refl _ w).alloc (Nat.le_refl _) _
  refine app_pts _ hgd s x ho B v (.slice (some ⟨w.heap.size, 0, none⟩) 1 1) L [(st, ar)] hs hx (hown.below hb1) ⟨[u], ?_, hu.below hb1, hf, trivial⟩ (by simp) (by simp; omega) (by simpa using hl) (fun v' w' h1 h2 h3 => hK v' w' h1 h2 (by simpa using h3))
  exact World.ownsRow_lit (size := 2) (e := 42) (base := B) w #[.int .i64 st, u] 1 hB (by decide) rfl
end Go.Proofs.Ythlmggogeeedjaa
