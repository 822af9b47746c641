/- IsConnectedQuiver, of the program. -/
import Derived.Test.YtpenaobodcjimaaConn
import Derived.Deep.AppendLies
namespace Go.Proofs.Ytpenaobodcjimaa
open Go.RowKit
set_option linter.unusedVariables false
set_option linter.unusedSimpArgs false

/-- append of one new element, and which blocks it leaves -/
theorem app_int_k {ops : Array Oper} {rest : List Oper} {o : Oper} {a : Act} {Q : Exit → Act → World → Prop} {c : Int} (w0 w : World) (hgd : o.guard = none) (s x : Operand)
    (ho : o.op = .call { callee := .builtin .append, args := #[s, x], argTypes := #[22, 22] }) (B : Nat) (v : Value) (l : List Int)
    (hs : a.eval s = v) (hx : a.eval x = .slice (some ⟨w.heap.size, 0, none⟩) 1 1) (hown : Own w B 3 .i64 v l) (hbel : Below B w0 w) (hB : B ≤ w.heap.size) (hl : l.length + 1 ≤ 17592186044416)
    (hK : ∀ v' w', Own w' B 3 .i64 v' (l ++ [c]) → Below B w0 w' → B ≤ w'.heap.size → (∀ k, k < w.heap.size → some k ≠ v.ownBlock → w'.heap[k]? = w.heap[k]?) → (∀ k, v'.ownBlock = some k → v.ownBlock = some k ∨ w.heap.size ≤ k) → w.heap.size ≤ w'.heap.size → wpList Try.prog ops Q rest (a.put o.dst v') w') :
    wpList Try.prog ops Q (o :: rest) a (w.alloc (.cells #[.int .i64 c] 3)) := by
  obtain ⟨i, hi, h0, h1, h2⟩ := info_parts infoInt
  refine wpList_append_lies _ hgd s x 22 ho B 3 i (.int .i64 0) 1 8 Try.underlying22 hi h0 h1 h2 rfl (by decide) v l.length (l.map (Value.int .i64)) hs (World.ownsRow.alloc hown _)
    ⟨w.heap.size, 0, none⟩ 1 1 [.int .i64 c] hx rfl (news_cells w _ [.int .i64 c]) (ints_oneCell .i64 [c]) (by decide) (by unfold maxLen; omega) (by omega) (by simp; omega) _ rfl ?_
  intro g cap w' ho' hg hgb hlt
  have hb : Below B w0 w' := (hbel.alloc hB _).grown hg (by simp; omega) (fun k hk => (World.ownsRow.lt hown k hk).1)
  have hsz := hg.size
  rw [World.size_alloc] at hsz
  refine hK _ w' ?_ hb (by omega) ?_ ?_ (by omega)
  · unfold Own; simpa using ho'
  · intro k hk hne
    rw [hg.block k (by rw [World.size_alloc]; omega) hne]
    exact heap_alloc_old w _ hk
  · intro k hk
    have hk' : g = k := by simpa [Value.ownBlock] using hk
    rcases hgb with h | h
    · exact .inl (by rw [h, hk'])
    · exact .inr (by rw [World.size_alloc] at h; omega)

end Go.Proofs.Ytpenaobodcjimaa
