/- The sort of an own slice of spaces, by the library's contract. -/
import Derived.Test.YtjcgommdeplbbaaSrt
import Derived.Test.YtjcgommdeplbbaaSort
import Derived.Test.YtjcgommdeplbbaaMg10
import Derived.Shelf.SlSortCmp.WholeK
namespace Go.Proofs.Ytjcgommdeplbbaa
open Go.RowKit Go.Shelf Go.Sort
set_option linter.unusedVariables false
set_option linter.unusedSimpArgs false

/-- a space's rows of rows, its rows, the space: as they lie in w -/
abbrev GT (P : Nat → Prop) (w : World) : Type := { x : Value × List Value × Sp // RwV w x.1 x.2.1 x.2.2.2 ∧ (∀ q, blk x.1 = some q → P q) ∧ ∀ y ∈ x.2.1, ∀ q, blk y = some q → P q }
instance (P : Nat → Prop) (w : World) : Inhabited (GT P w) := ⟨⟨(.slice none 0 0, [], (0, [])), ⟨⟨_, 0, rfl, Nat.le_refl _, by decide, .inl rfl⟩, trivial⟩, fun q hq => by simp [blk] at hq, fun y hy => by simp at hy⟩⟩
def encT {P : Nat → Prop} {w : World} (x : GT P w) : List Value := [.int .i64 x.1.2.2.1, x.1.1]
def cmpT {P : Nat → Prop} {w : World} (x y : GT P w) : Int := cmpR x.1.2.2.2 y.1.2.2.2
theorem arX.tri {P : Nat → Prop} {w : World} : ∀ {us : List Value} {vss : List (List Value)} {L : List Sp}, arX P w us vss L → ∃ T : List (GT P w), us = T.map (·.1.1) ∧ vss = T.map (·.1.2.1) ∧ L = T.map (·.1.2.2)
  | [], [], [], _ => ⟨[], rfl, rfl, rfl⟩
  | u :: us, vs :: vss, p :: L, h => by
    obtain ⟨T, h1, h2, h3⟩ := arX.tri h.2.2.2
    exact ⟨⟨(u, vs, p), h.1, h.2.1, h.2.2.1⟩ :: T, congrArg (u :: ·) h1, congrArg (vs :: ·) h2, congrArg (p :: ·) h3⟩
  | [], [], _ :: _, h => h.elim
  | [], _ :: _, _, h => h.elim
  | _ :: _, [], _, h => h.elim
  | _ :: _, _ :: _, [], h => h.elim
theorem arX_of {P : Nat → Prop} {w : World} : ∀ T : List (GT P w), arX P w (T.map (·.1.1)) (T.map (·.1.2.1)) (T.map (·.1.2.2))
  | [] => trivial
  | x :: T => ⟨x.2.1, x.2.2.1, x.2.2.2, arX_of T⟩
theorem flatS_tri {P : Nat → Prop} {w : World} : ∀ T : List (GT P w), flatS (T.map (·.1.1)) (T.map (·.1.2.2)) = T.flatMap encT
  | [] => rfl
  | x :: T => by simp [flatS, encT, flatS_tri T]
theorem flat_at {P : Nat → Prop} {w : World} : ∀ (T : List (GT P w)) (j : Nat), j < T.length * 2 → (T.flatMap encT)[j]? = some ((encT T.toArray[j / 2]!)[j % 2]!)
  | [], j, h => by simp at h
  | x :: T, 0, _ => by simp [encT]
  | x :: T, 1, _ => by simp [encT]
  | x :: T, j + 2, h => by
    have h1 := flat_at T j (by simp at h; omega)
    have e1 : (j + 2) / 2 = j / 2 + 1 := by omega
    have e2 : (j + 2) % 2 = j % 2 := by omega
    rw [List.flatMap_cons, e1, e2]
    have e3 : (x :: T).toArray[j / 2 + 1]! = T.toArray[j / 2]! := by simp
    rw [e3, ← h1]
    simp [encT]
theorem flatK_list {P : Nat → Prop} {w : World} (d : Array (GT P w)) : (flatK encT 2 d).toList = d.toList.flatMap encT := by
  have hlen : (d.toList.flatMap encT).length = d.size * 2 := by
    have : ∀ T : List (GT P w), (T.flatMap encT).length = T.length * 2 := fun T => by
      induction T with
      | nil => rfl
      | cons x T ih => simp [encT, ih]; omega
    simpa using this d.toList
  apply List.ext_getElem (by simp [hlen])
  intro j h1 h2
  have hj : j < d.size * 2 := by simpa using h1
  have h3 := flat_at d.toList j (by simpa using hj)
  rw [List.getElem?_eq_getElem h2] at h3
  have h4 := get_flatK encT 2 d j hj
  simp only [Option.some.injEq] at h3
  rw [h3]
  simp only [Array.getElem_toList]
  rw [getElem!_pos _ j (by simpa using hj)] at h4
  exact h4
theorem ltT {P : Nat → Prop} {w : World} : SWO (ltOf (cmpT (P := P) (w := w))) where
  irrefl x := by
    refine decide_eq_false ?_
    show ¬ cmpR _ _ < 0
    rw [ordR.refl]; omega
  trans x y z h1 h2 := by
    have h1' : cmpR x.1.2.2.2 y.1.2.2.2 < 0 := of_decide_eq_true h1
    have h2' : cmpR y.1.2.2.2 z.1.2.2.2 < 0 := of_decide_eq_true h2
    exact decide_eq_true (show cmpR x.1.2.2.2 z.1.2.2.2 < 0 from ordR.trans _ _ _ h1' h2')
  ntrans x y z h1 h2 := by
    have h1' : ¬ cmpR x.1.2.2.2 y.1.2.2.2 < 0 := of_decide_eq_false h1
    have h2' : ¬ cmpR y.1.2.2.2 z.1.2.2.2 < 0 := of_decide_eq_false h2
    refine decide_eq_false (show ¬ cmpR x.1.2.2.2 z.1.2.2.2 < 0 from fun h3 => ?_)
    by_cases h4 : cmpR y.1.2.2.2 x.1.2.2.2 < 0
    · exact h2' (ordR.trans _ _ _ h4 h3)
    · have h6 := (ordR.anti y.1.2.2.2 x.1.2.2.2)
      have h7 : cmpR x.1.2.2.2 y.1.2.2.2 = 0 := by omega
      rw [ordR.eq _ _ h7] at h3
      exact h2' h3
theorem grownBy_put {w : World} {g n : Nat} {os : Array Obj} (F : Array Value) : w.grownBy (grow (putRow id (Sort.ahead w n) g 0 F) os) (some g) := by
  refine ⟨rfl, rfl, rfl, by simp, fun k hk hne => ?_⟩
  rw [heap_grow_old _ _ (by simpa using hk)]
  have : g ≠ k := fun e => hne (by rw [e])
  simp [putRow, mapBlock, Sort.ahead, Array.getElem?_modify, this]
theorem heap_put {w : World} {g n : Nat} {os : Array Obj} {cur : Array Value} {e : TypeId} {fr : Nat × Nat} (F : Array Value) (hb : w.heap[g]? = some (.cells cur e fr)) :
    (grow (putRow id (Sort.ahead w n) g 0 F) os).heap[g]? = some (.cells (putCells id 0 F cur) e fr) := by
  have hg : g < w.heap.size := (Array.getElem?_eq_some_iff.1 hb).1
  rw [heap_grow_old _ _ (by simpa using hg)]
  simp [putRow, mapBlock, Sort.ahead, Array.getElem?_modify, hb, onCells]
theorem take_put (cur F : Array Value) (h : F.size ≤ cur.size) : (putCells id 0 F cur).toList.take F.size = F.toList := by
  apply List.ext_getElem?
  intro j
  by_cases hj : j < F.size
  · rw [List.getElem?_take_of_lt hj, Array.getElem?_toList]
    simp [putCells, hj, show j < cur.size by omega]
  · rw [List.getElem?_take_eq_none (by omega), List.getElem?_eq_none (by simp; omega)]
set_option maxRecDepth 100000 in
set_option maxHeartbeats 1000000 in
theorem i_spacesOf1 (n1 n2 : Int) (u1 u2 : Value) (l m : List (List Int)) (W : World) (h1 : Rws 0 W u1 l) (h2 : Rws 0 W u2 m) :
    Calls Try.prog 31 #[.agg #[.int .i64 n1, u1], .agg #[.int .i64 n2, u2]] W (fun e w' => e = .returned (.int .i64 (cmpR l m)) ∧ ∃ q os', w' = grow (W.drewN q) os') := by
  obtain ⟨a1, c1, rfl, _, _⟩ := h1.shape
  obtain ⟨a2, c2, rfl, _, _⟩ := h2.shape
  have hb : Below W.heap.size W ((W.alloc (.cells #[.int .i64 n1, .slice a1 l.length c1] 33)).alloc (.cells #[.int .i64 n2, .slice a2 m.length c2] 33)) := ((Below.refl _ W).alloc (Nat.le_refl _) _).alloc (by simp) _
  have hcon := Compare_rows _ _ l m _ (show IntsS _ _ l from h1.below hb) (show IntsS _ _ m from h2.below hb)
  generalize cmpR l m = r at hcon
  clear h1 h2 hb
  go_enter Try.func31, Try.ntmps31
  go_wp2_with fail
  refine hcon.mono ?_; rintro e w1 ⟨rfl, rfl⟩
  go_wp2
  go_ret
  exact ⟨rfl, 0, _, by rw [alloc_eq_grow, alloc_eq_grow, grow_grow]; rfl⟩
theorem agg33 : ∀ w, (isAgg 33).run Try.prog w = .ok true w := Try.isAgg33
theorem size33 : ∀ w, (Go.sizeOf 33).run Try.prog w = .ok 2 w := Try.sizeOf33
set_option maxRecDepth 100000 in
set_option maxHeartbeats 1000000 in
theorem sort_spx {P : Nat → Prop} (w : World) (v : Value) (L : List Sp) (hown : OwnX P w v L) (hne : 0 < L.length) (hl : L.length ≤ 1099511627776) :
    Calls Try.prog 30 #[v, .func (.func 31) #[] #[]] w
      (fun e w' => e = .returned (.tuple #[]) ∧ (∃ L', L'.Perm L ∧ L'.Pairwise (fun a b => ¬ cmpR b.2 a.2 < 0) ∧ OwnX P w' v L') ∧ w.grownBy w' v.ownBlock) := by
  obtain ⟨us, vss, ⟨hr1, hr2⟩, hP, hax, hdis⟩ := hown
  rcases hr2 with ⟨_, h0⟩ | ⟨g, cap, cur, rfl, hb, hg, hnc, hcm, hcs, htake⟩
  · omega
  obtain ⟨T, rfl, rfl, rfl⟩ := hax.tri
  rw [List.length_map] at *
  rw [flatS_tri] at htake
  have hgl : g < w.heap.size := (Array.getElem?_eq_some_iff.1 hg).1
  have hH : HoldsK (encT (P := P) (w := w)) 2 w g 0 T.toArray := by
    intro j hj
    have hj' : j < T.length * 2 := by simpa using hj
    refine ⟨?_, by simp [World.frozen?, hg]⟩
    rw [cell_of_row w g _ cur _ _ hg, Nat.zero_add, ← Array.getElem?_toList, ← List.getElem?_take_of_lt hj', htake, flat_at T j hj']
    rw [get_flatK encT 2 T.toArray j (by simpa using hj')]
    rfl
  have eg : ∀ args w, (callFunc 31 args).run Try.prog w = .ok (.enter 31 args) w := enters_of Try.func31 (by kernel_rfl) rfl
  have hcmp : CmpLays Try.prog 31 #[] (encT (P := P) (w := w)) 2 cmpT g 0 T.toArray.size w := by
    intro m os dk hdk x y
    have hsame : ∀ (z : GT P w), Rws 0 (sortWorldK encT 2 w g 0 m dk os) z.1.1 z.1.2.2.2 := fun z => by
      have hgr := grownBy_put (w := w) (g := g) (n := m) (os := os) (flatK encT 2 dk)
      have hf := z.2.1.far hg
      exact (z.2.1.keep (w' := sortWorldK encT 2 w g 0 m dk os) (fun q hq => hgr.block q (z.2.1.ult q hq) (by simp; exact hf.1 q hq)) (fun y hy q hq => hgr.block q (z.2.1.vlt y hy q hq) (by simp; exact hf.2 y hy q hq))).rws
    exact i_spacesOf1 _ _ _ _ _ _ _ (hsame x) (hsame y)
  have hcon := AnyQ.slices_SortFunc Try.sortSp 2 agg33 size33 encT (fun _ => rfl) (fun x y hy => by
    simp only [encT, List.mem_cons, List.not_mem_nil, or_false] at hy
    rcases hy with rfl | rfl
    · rfl
    · obtain ⟨a, c, e, _⟩ := x.2.1.shape
      rw [e]; rfl) cmpT ltT 31 #[] g 0 cap T.toArray w eg hcmp hH hgl (by simp; omega)
  simp only [List.size_toArray] at hcon
  refine Calls.mono hcon ?_
  rintro e w' ⟨rfl, d', n, os, ⟨hd1, _, hd2⟩, hso, rfl⟩
  have hsz : d'.size = T.length := by simpa using hd1
  have hperm : d'.toList.Perm T := by
    have e1 : (d'.extract 0 T.length).toList = d'.toList := by simp [← hsz]
    have e2 : (T.toArray.extract 0 T.length).toList = T := by simp
    rw [e1, e2] at hd2
    exact hd2
  have hgr := grownBy_put (w := w) (g := g) (n := n) (os := os) (flatK encT 2 d')
  have hsym : ∀ {a b : Value}, (∀ q, blk a = some q → blk b ≠ some q) → ∀ q, blk b = some q → blk a ≠ some q := fun h q hq e => h q e hq
  refine ⟨rfl, ⟨d'.toList.map (·.1.2.2), hperm.map _, ?_, ?_⟩, hgr⟩
  · rw [List.pairwise_map, List.pairwise_iff_getElem]
    intro i j hi hj hij
    have h3 := hso i j (Nat.zero_le _) hij (by simpa [hsz] using hj)
    rw [getElem!_pos d' j (by simpa using hj), getElem!_pos d' i (by simpa using hi)] at h3
    exact of_decide_eq_false h3
  · have hlen : (d'.toList.map (fun x : GT P w => x.1.2.2)).length = T.length := by simp [hsz]
    refine ⟨d'.toList.map (·.1.1), d'.toList.map (·.1.2.1), ?_, hP, ?_, ?_⟩
    · rw [flatS_tri, hlen]
      have hF : (flatK encT 2 d').size = T.length * 2 := by simp [hsz]
      refine ⟨?_, .inr ⟨g, cap, _, rfl, hb, heap_put (w := w) (n := n) (os := os) (flatK encT 2 d') hg, hnc, hcm, by simp [putCells, hcs], ?_⟩⟩
      · rw [← flatK_list]; simp [hsz]
      · rw [← hF, take_put cur _ (by rw [hF]; omega), flatK_list]
    · exact (arX_of d'.toList).far hg (fun q hq hne => hgr.block q hq (by simp; exact hne))
    · unfold disV at *
      exact ((hperm.map _).flatten).symm.pairwise hdis (fun {a b} h => hsym h)
end Go.Proofs.Ytjcgommdeplbbaa
