/- Slices of slices of integers that came in; the laws' own helpers on them (size, copy, comparison). -/
import Derived.Test.YtmcjgaffecimlaaRws
import Derived.Test.YtmcjgaffecimlaaAux
import Derived.Test.YtmcjgaffecimlaaEqual
import Derived.Deep.RegionHeld3
namespace Go.Proofs.Ytmcjgaffecimlaa
open Go.RowKit
set_option linter.unusedVariables false
set_option linter.unusedSimpArgs false

/-- a slice of slices that came in: it can be read -/
def RawS (w : World) (v : Value) (ll : List (List Int)) : Prop :=
  ∃ a cap, v = .slice a ll.length cap ∧ ll.length ≤ cap ∧ cap ≤ 9223372036854775807 ∧
    (ll = [] ∨ ∃ b off, a = some ⟨b, off, none⟩ ∧ b < w.heap.size ∧ ∀ i, i < ll.length → ∃ u, w.cell? ⟨b, off + i, none⟩ = some u ∧ Raw w u (ll.getD i []))
theorem RawS.shape {w : World} {v : Value} {ll : List (List Int)} (h : RawS w v ll) : ∃ a cap, v = .slice a ll.length cap ∧ ll.length ≤ cap ∧ cap ≤ 9223372036854775807 := by
  obtain ⟨a, cap, rfl, h1, h2, _⟩ := h; exact ⟨a, cap, rfl, h1, h2⟩
theorem RawS.below {w w' : World} {v : Value} {ll : List (List Int)} (h : RawS w v ll) (b : Below w.heap.size w w') : RawS w' v ll := by
  obtain ⟨a, cap, rfl, h1, h2, h3 | ⟨g, off, rfl, hb, hc⟩⟩ := h
  · exact ⟨a, cap, rfl, h1, h2, .inl h3⟩
  · refine ⟨_, cap, rfl, h1, h2, .inr ⟨g, off, rfl, Nat.lt_of_lt_of_le hb b.size, fun i hi => ?_⟩⟩
    obtain ⟨u, hu, hr⟩ := hc i hi
    exact ⟨u, by rw [b.cell (p := ⟨g, off + i, none⟩) hb]; exact hu, hr.below b⟩
theorem RawS.drew {w : World} {v : Value} {ll : List (List Int)} (h : RawS w v ll) : RawS w.drew v ll := h
theorem RawS.cell {w : World} {a : Option Addr} {n cap : Nat} {ll : List (List Int)} (h : RawS w (.slice a n cap) ll) {i : Nat} (hi : i < ll.length) :
    ∃ b off u, a = some ⟨b, off, none⟩ ∧ b < w.heap.size ∧ w.cell? ⟨b, off + i, none⟩ = some u ∧ Raw w u (ll.getD i []) := by
  obtain ⟨a', cap', e, h1, h2, h3⟩ := h
  simp only [Value.slice.injEq] at e
  obtain ⟨rfl, rfl, rfl⟩ := e
  rcases h3 with rfl | ⟨g, off, rfl, hg, hc⟩
  · simp at hi
  · obtain ⟨u, hu, hr⟩ := hc i hi; exact ⟨g, off, u, rfl, hg, hu, hr⟩
theorem RawS.nil (w : World) : RawS w (.slice none 0 0) [] := ⟨none, 0, rfl, Nat.le_refl _, by omega, .inl rfl⟩

def BdS (ll : List (List Int)) : Prop := True
theorem RawS.mk {W : World} {base : Nat} {a : Addr} {len cap : Nat} {A : Nat → Option Addr} {L C : Nat → Nat} {Z : Nat → List Int} (hl : len ≤ cap) (hm : cap ≤ maxLen)
    (hr : ∀ r, r < cap → W.cell? (a.add r) = some (.slice (A r) (L r) (C r)) ∧ L r ≤ C r ∧ C r ≤ maxLen ∧ (Z r).length = C r ∧ (∀ n ∈ Z r, (Lit.int .i64 n).wf = true) ∧ (A r = none → C r = 0) ∧
      ∀ a', A r = some a' → base ≤ a'.block ∧ ∀ c, c < C r → W.cell? (a'.add c) = some (.int .i64 ((Z r).getD c 0))) :
    RawS W (.slice (some a) len cap) ((List.range len).map fun r => (Z r).take (L r)) := by
  have hlen : ((List.range len).map fun r => (Z r).take (L r)).length = len := by simp
  refine ⟨some a, cap, by rw [hlen], by omega, by simpa [maxLen] using hm, ?_⟩
  by_cases h0 : len = 0
  · left; simp [h0]
  · right
    obtain ⟨b, off, spot⟩ := a
    have hc0 := (hr 0 (by omega)).1
    obtain rfl : spot = none := by simpa [Addr.add] using World.cell?_spot hc0
    have hadd : ∀ i, (⟨b, off, none⟩ : Addr).add i = ⟨b, off + i, none⟩ := fun i => by unfold Addr.add; split <;> simp_all
    rw [hadd] at hc0
    refine ⟨b, off, rfl, World.block_lt_of_cell? W _ hc0, fun i hi => ?_⟩
    rw [hlen] at hi
    obtain ⟨h1, h2, h3, h4, h5, h6, h7⟩ := hr i (by omega)
    rw [hadd] at h1
    refine ⟨_, h1, ?_⟩
    have hg : ((List.range len).map fun r => (Z r).take (L r)).getD i [] = (Z i).take (L i) := by simp [List.getD, hi]
    rw [hg]
    cases hA : A i with
    | none =>
      have hC := h6 hA
      have hL : L i = 0 := by omega
      rw [hL, hC, List.take_zero]
      exact Raw.nil W
    | some a' =>
      obtain ⟨_, hcell⟩ := h7 a' hA
      exact Raw.mk h2 h3 h4 (fun c hc => hcell c (by omega))

/-- what a call made -/
def IntsS (w : World) (v : Value) (ll : List (List Int)) : Prop := Rws 0 w v ll
theorem IntsS.shape {w : World} {v : Value} {ll : List (List Int)} (h : IntsS w v ll) : ∃ a cap, v = .slice a ll.length cap ∧ ll.length ≤ cap ∧ cap ≤ 9223372036854775807 := Rws.shape h
theorem IntsS.below {w w' : World} {v : Value} {ll : List (List Int)} (h : IntsS w v ll) (b : Below w.heap.size w w') : IntsS w' v ll := Rws.below h b
theorem IntsS.cell {w : World} {a : Option Addr} {n cap : Nat} {ll : List (List Int)} (h : IntsS w (.slice a n cap) ll) {i : Nat} (hi : i < ll.length) :
    ∃ g off v, a = some ⟨g, off, none⟩ ∧ g < w.heap.size ∧ w.cell? ⟨g, off + i, none⟩ = some v ∧ Ints w v (ll.getD i []) := by
  obtain ⟨g, off, v, h1, _, h2, h3, h4, _⟩ := Rws.cell h hi; exact ⟨g, off, v, h1, h2, h3, h4⟩
theorem IntsS.lt {w : World} {v : Value} {ll : List (List Int)} (h : IntsS w v ll) : ∀ k, blk v = some k → k < w.heap.size := by
  intro k hk
  obtain ⟨a, cap, rfl, _, _, rfl | ⟨g, off, cur, rfl, _, hg, _, _⟩⟩ := h
  · cases a <;> simp [blk] at hk
  · have : g = k := by
      cases ll with
      | nil => simp [blk] at hk
      | cons x l => simpa [blk] using hk
    subst this
    exact (Array.getElem?_eq_some_iff.1 hg).1
theorem sep_newS {w : World} {u v : Value} {l : List (List Int)} (hu : IntsS w u l) (hf : FreshV w.heap.size v) : ∀ k, blk u = some k → ¬ blk v = some k :=
  fun k hk hk' => by have := hu.lt k hk; have := hf k hk'; omega
theorem sep_blk_oldS {w : World} {u : Value} {l : List (List Int)} (hu : IntsS w u l) : ¬ blk u = some w.heap.size :=
  fun h => by have := hu.lt _ h; omega
theorem Ints.setTag {w : World} {u : Value} {l : List Int} (h : Ints w u l) {b i : Nat} {cs : Array Value} {T : TypeId} {x : Value} (hb : Blk w b cs T) (hT : T ≠ 3) : Ints (w.setCell ⟨b, i, none⟩ x) u l :=
  h.keep fun k hk => heap_setCell_other w ⟨b, i, none⟩ k x (fun e => by
    obtain ⟨a, cap, rfl, _, _, rfl | ⟨g, off, cur, rfl, hg, _, _⟩⟩ := h
    · cases a <;> simp [blk] at hk
    · have hgk : g = k := by
        cases l with
        | nil => simp [blk] at hk
        | cons y l => simpa [blk] using hk
      have e' : k = b := e
      subst hgk; subst e'
      unfold Blk at hb
      rw [hg] at hb
      simp at hb
      exact hT hb.2.symm)
theorem IntsS.setTag {w : World} {v : Value} {ll : List (List Int)} (h : IntsS w v ll) {b i : Nat} {cs : Array Value} {T : TypeId} {x : Value} (hb : Blk w b cs T) (hT : T ≠ 3) (hT2 : T ≠ 22) : IntsS (w.setCell ⟨b, i, none⟩ x) v ll := by
  obtain ⟨a, cap, rfl, h1, h2, rfl | ⟨g, off, cur, rfl, hB, hg, hs, hr⟩⟩ := h
  · exact ⟨_, cap, rfl, h1, h2, .inl rfl⟩
  · refine ⟨_, cap, rfl, h1, h2, .inr ⟨g, off, cur, rfl, hB, ?_, hs, hr.keep fun u l hu _ => hu.setTag hb hT⟩⟩
    rw [heap_setCell_other w ⟨b, i, none⟩ g x (fun e => ?_)]
    · exact hg
    · have e' : g = b := e
      subst e'
      unfold Blk at hb
      rw [hg] at hb
      simp at hb
      exact hT2 hb.2.symm
def IntsNewS (l : List (List Int)) (w : World) (e : Ending) (w' : World) : Prop := ∃ v, e = .returned v ∧ IntsS w' v l ∧ FreshV w.heap.size v ∧ Below w.heap.size w w'

/-- how many values a slice of slices holds, its own headers among them -/
def szU (ll : List (List Int)) (k : Nat) : Nat := ((ll.take k).map List.length).sum
def szT (ll : List (List Int)) : Nat := ll.length + szU ll ll.length
def szII (left : Int) (ll : List (List Int)) : Int := if left < szT ll then -1 else left - szT ll
theorem szU_succ {ll : List (List Int)} {k : Nat} (h : k < ll.length) : szU ll (k + 1) = szU ll k + (ll.getD k []).length := by
  unfold szU
  rw [List.take_succ_eq_append_getElem h, List.map_append, List.sum_append, List.getD_eq_getElem?_getD, List.getElem?_eq_getElem h]; simp
theorem szU_le {ll : List (List Int)} : ∀ j k, j ≤ k → k ≤ ll.length → szU ll j ≤ szU ll k := by
  intro j k hjk hk
  induction k with
  | zero =>
    obtain rfl : j = 0 := by omega
    exact Nat.le_refl _
  | succ k ih =>
    by_cases e : j = k + 1
    · rw [e]; exact Nat.le_refl _
    · have := ih (by omega) (by omega); rw [szU_succ (show k < ll.length by omega)]; omega
theorem szT_row {ll : List (List Int)} {k : Nat} (h : k < ll.length) : (ll.getD k []).length ≤ szT ll ∧ ll.length ≤ szT ll := by
  have h1 := szU_succ h
  have h2 := szU_le (ll := ll) (k + 1) ll.length (by omega) (Nat.le_refl _)
  unfold szT; omega

set_option maxRecDepth 100000 in
set_option maxHeartbeats 1000000 in
theorem l_szIntSS (v : Value) (ll : List (List Int)) (left : Int) (w : World) (hv : RawS w v ll) (h0 : 0 ≤ left) (h1 : left ≤ 1048576) :
    Calls Try.prog 40 #[v, .int .i64 left] w (IntAns (szII left ll) w) := by
  obtain ⟨a, cap, rfl, hlc, hcm⟩ := hv.shape
  have HV := Lib.hid hv
  clear hv
  by_cases hlt : left < ll.length
  · have HE := Lib.hid (show szII left ll = -1 from if_pos (by unfold szT; omega))
    go_enter Try.func40, Try.ntmps40
    go_wp2
    go_ret
    exact ⟨ret_int HE.out.symm, rfl⟩
  · go_enter Try.func40, Try.ntmps40
    go_wp2
    go_loop [1, 5] (fun l i => ∃ (k : Nat) (r : Int), k ≤ ll.length ∧ i = .int .i64 k ∧ l = .int .i64 r ∧ 0 ≤ r ∧ r = left - ll.length - (szU ll k : Int)) (fun _ i => ll.length - (intOf i).toNat)
    case atStart => exact ⟨0, left - ll.length, Nat.zero_le _, rfl, rfl, by omega, by simp [szU]⟩
    case round =>
      obtain ⟨k, r, hk, rfl, rfl, hr0, hr⟩ := hrel
      have HR := Lib.hid hr
      have hr1 : r ≤ 1048576 := by omega
      clear hr
      by_cases hkn : k < ll.length
      · obtain ⟨b, off, u, rfl, hbs, hc, hu⟩ := HV.out.cell hkn
        have hsu := Lib.hid (szU_succ hkn)
        have hmono := Lib.hid (szU_le (ll := ll) (k + 1) ll.length (by omega) (Nat.le_refl _))
        have hcon := l_szIntS u (ll.getD k []) r w hu hr0 hr1
        clear hu
        by_cases hbad : r < (ll.getD k []).length
        · have e1 : szI r (ll.getD k []) = -1 := if_pos hbad
          have HE := Lib.hid (show szII left ll = -1 from if_pos (by have := HR.out; have := hsu.out; have := hmono.out; unfold szT; omega))
          rw [e1] at hcon
          clear e1 hbad
          go_wp2_with fail
          refine hcon.mono ?_; rintro e w' ⟨rfl, rfl⟩
          go_wp2
          go_ret
          exact ⟨ret_int HE.out.symm, rfl⟩
        · obtain ⟨q, hq⟩ : ∃ q, szI r (ll.getD k []) = q := ⟨_, rfl⟩
          have hq2 : q = r - (ll.getD k []).length := by rw [← hq]; exact if_neg hbad
          have hq0 : 0 ≤ q := by omega
          rw [hq] at hcon
          have HQ := Lib.hid hq2
          clear hq hq2 hbad
          go_wp2_with fail
          refine hcon.mono ?_; rintro e w' ⟨rfl, rfl⟩
          go_wp2
          go_round
          case rel => exact ⟨k + 1, q, by omega, by go_num, rfl, hq0, by rw [HQ.out, HR.out, hsu.out]; simp; omega⟩
          case measure => simp [intOf]; omega
      · have HE := Lib.hid (show szII left ll = r by
          obtain rfl : k = ll.length := by omega
          have := HR.out
          unfold szII szT
          rw [if_neg (by omega)]; omega)
        go_wp2
        go_ret
        exact ⟨ret_int HE.out.symm, rfl⟩

/-- make of n rows -/
theorem mk_rows {ops : Array Oper} {rest : List Oper} {o : Oper} {a : Act} {Q : Exit → Act → World → Prop} (w0 w : World) (hgd : o.guard = none) (l c : Operand) (ho : o.op = Op.makeSlice 35 l c)
    (B n : Nat) (hl : a.eval l = .int .i64 n) (hc : a.eval c = .int .i64 n) (hbel : Below B w0 w) (hB : B ≤ w.heap.size) (hn : n ≤ 1048576)
    (hK : ∀ w', OwnR w' B (.slice (some ⟨w.heap.size, 0, none⟩) n n) (List.replicate n []) → Below B w0 w' → B ≤ w'.heap.size → wpList Try.prog ops Q rest (a.put o.dst (.slice (some ⟨w.heap.size, 0, none⟩) n n)) w') :
    wpList Try.prog ops Q (o :: rest) a w := by
  obtain ⟨i, hi, h0, h1, h2⟩ := info_parts infoRow
  refine wpList_make_full w hgd l c 35 ho B 22 i (.slice none 0 0) 1 Try.underlying35 hi h0 h1 .i64 .i64 n n n hl hc rfl rfl (by rw [h2]; omega) (by unfold maxLen; omega) hB ?_
  intro w' ho' hg
  refine hK w' ?_ (hbel.grown hg hB (fun k hk => by cases hk)) (by have := hg.size; omega)
  simp only [Nat.mul_one] at ho'
  rw [show (Value.slice none 0 0).cells = #[.slice none 0 0] from rfl, toList_madeCells_one] at ho'
  refine ⟨List.replicate n (.slice none 0 0), by simpa using ho', ?_⟩
  have : ∀ m, arR B w' (List.replicate m (.slice none 0 0)) (List.replicate m []) := by
    intro m
    induction m with
    | zero => trivial
    | succ m ih => exact ⟨Ints.nil w', FreshV.nil B, ih⟩
  exact this n
theorem arR.set {B : Nat} {w : World} {u : Value} {l : List Int} (hu : Ints w u l) (hf : FreshV B u) : ∀ {vs : List Value} {ll : List (List Int)} (j : Nat), arR B w vs ll → arR B w (vs.set j u) (ll.set j l)
  | [], [], _, _ => trivial
  | _ :: _, _ :: _, 0, h => ⟨hu, hf, h.2.2⟩
  | _ :: _, _ :: _, j + 1, h => ⟨h.1, h.2.1, arR.set hu hf j h.2.2⟩
  | [], _ :: _, _, h => h.elim
  | _ :: _, [], _, h => h.elim
theorem OwnR.store {w : World} {B g n c : Nat} {ll : List (List Int)} (h : OwnR w B (.slice (some ⟨g, 0, none⟩) n c) ll) (j : Nat) {u : Value} {l : List Int} (hu : Ints w u l) (hf : FreshV B u) :
    OwnR (w.setCell ⟨g, j, none⟩ u) B (.slice (some ⟨g, 0, none⟩) n c) (ll.set j l) := by
  obtain ⟨vs, ho, hr⟩ := h
  have hk : ∀ v l, Ints w v l → Ints (w.setCell ⟨g, j, none⟩ u) v l := fun v l hv => hv.keep fun k hk => heap_setCell_other w ⟨g, j, none⟩ k u (by
    have := hv.far ho k hk; simp [Value.ownBlock] at this; exact fun e => this e)
  have hl : n = ll.length := by
    rcases ho.2 with ⟨e, _⟩ | ⟨_, _, _, e, _⟩
    · cases e
    · simp only [Value.slice.injEq] at e; exact e.2.1
  subst hl
  have h2 := (World.ownsRow.stored ho j u).1
  refine ⟨vs.set j u, ?_, (hr.keep fun v l hv _ => hk v l hv).set (hk u l hu) hf j⟩
  rw [List.length_set]
  exact h2
theorem set_fillS (F : List (List Int)) (N k : Nat) (hF : F.length = N) (hk : k < N) :
    (F.take k ++ List.replicate (N - k) []).set k (F.getD k []) = F.take (k + 1) ++ List.replicate (N - (k + 1)) [] := by
  have e1 : N - k = (N - (k + 1)) + 1 := by omega
  have e2 : (F.take k).length = k := by rw [List.length_take]; omega
  have e3 : F.take (k + 1) = F.take k ++ [F.getD k []] := by
    rw [List.take_succ_eq_append_getElem (by omega)]
    congr 2
    simp [List.getD, List.getElem?_eq_getElem (show k < F.length by omega)]
  rw [e1, List.replicate_succ, List.set_append_right _ _ (by omega), e2, Nat.sub_self, List.set_cons_zero, e3, List.append_assoc]
  rfl

set_option maxRecDepth 100000 in
set_option maxHeartbeats 1000000 in
theorem l_toIntSS (v : Value) (ll : List (List Int)) (w : World) (hv : RawS w v ll) (hs : szT ll ≤ 1048576) :
    Calls Try.prog 42 #[v] w (IntsNewS ll w) := by
  obtain ⟨a, cap, rfl, hlc, hcm⟩ := hv.shape
  have HV := Lib.hid hv
  have hn : ll.length ≤ 1048576 := by unfold szT at hs; omega
  obtain ⟨B, hB⟩ : ∃ B, B = w.heap.size := ⟨_, rfl⟩
  have HB := Lib.hid hB
  have hB1 : B ≤ w.heap.size := by omega
  clear hB hv
  go_enter Try.func42, Try.ntmps42
  go_wp2_with (at_make; refine mk_rows w w rfl (.tmp 6) (.tmp 6) rfl B ll.length rfl rfl (Below.refl _ _) hB1 hn ?_)
  intro w1 hown hbel hB2
  have H1 := Lib.hid (And.intro hown hbel)
  clear hown hbel hB2
  go_wp2
  go_loopw [4] (fun i wr => ∃ k : Nat, k ≤ ll.length ∧ i = .int .i64 k ∧ Hid (OwnR wr B (.slice (some ⟨w.heap.size, 0, none⟩) ll.length ll.length) (ll.take k ++ List.replicate (ll.length - k) []) ∧ Below B w wr)) (fun i _ => ll.length - (intOf i).toNat)
  case atStart => exact ⟨0, Nat.zero_le _, rfl, by simpa using H1.out.1, H1.out.2⟩
  case round =>
    obtain ⟨k, hk, rfl, HR⟩ := hrel
    have hBr : B ≤ wr.heap.size := Nat.le_trans hB1 HR.out.2.size
    have hbw : Below w.heap.size w wr := HR.out.2.mono (by rw [HB.out]; exact Nat.le_refl _)
    by_cases hlt : k < ll.length
    · obtain ⟨b, off, u, rfl, hbs, hc, hu⟩ := HV.out.cell hlt
      rw [← hbw.cell (p := ⟨b, off + k, none⟩) hbs] at hc
      have hcon := l_toIntS u (ll.getD k []) wr (hu.below hbw) (by have := (szT_row hlt).1; omega)
      have hsf := set_fillS ll ll.length k rfl hlt
      generalize ll.getD k [] = row at hcon hsf hu
      have HSF := Lib.hid hsf
      clear hsf
      clear hu hbw
      go_wp2_with fail
      refine hcon.mono ?_; rintro e w2 ⟨v2, rfl, hv2, hf2, b2⟩
      have HO2 := HR.out.1.below b2
      have hst := HO2.store k hv2 (hf2.mono hBr)
      rw [HSF.out] at hst
      have HST := Lib.hid (And.intro hst ((HR.out.2.trans (b2.mono hBr)).setCell (p := ⟨w.heap.size, k, none⟩) hB1 v2))
      obtain ⟨c0, f0⟩ : (∃ y, w2.cell? ⟨w.heap.size, k, none⟩ = some y) ∧ w2.frozen? ⟨w.heap.size, k, none⟩ = false := by
        obtain ⟨vs, ho, _⟩ := HO2
        obtain ⟨g, gc, cur, e, hb, hg, hnc, hcm2, hcs, htake⟩ : ∃ g gc cur, Value.slice (some ⟨w.heap.size, 0, none⟩) ll.length ll.length = .slice (some ⟨g, 0, none⟩) ll.length gc ∧ B ≤ g ∧ w2.heap[g]? = some (.cells cur 22 (0, 0)) ∧ ll.length ≤ gc ∧ gc ≤ maxLen ∧ gc ≤ cur.size ∧ True := by
          rcases ho.2 with ⟨h1, _⟩ | ⟨g, gc, cur, h1, hb, hg, hnc, hcm3, hcs, _⟩
          · cases h1
          · have hl2 : (ll.take k ++ List.replicate (ll.length - k) ([] : List Int)).length = ll.length := by simp; omega
            rw [hl2] at h1 hnc
            exact ⟨g, gc, cur, h1, hb, hg, hnc, hcm3, by simp at hcs; omega, trivial⟩
        simp only [Value.slice.injEq, Option.some.injEq, Addr.mk.injEq, and_true, true_and] at e
        obtain ⟨rfl, rfl⟩ := e
        refine ⟨?_, frozen_of_row w2 _ k cur _ hg⟩
        rw [cell_of_row w2 _ _ cur _ _ hg, Array.getElem?_eq_getElem (show k < cur.size by omega)]
        exact ⟨_, rfl⟩
      obtain ⟨y, c0⟩ := c0
      obtain ⟨a2, c2, rfl, _, _⟩ := hv2.shape
      clear hv2 hf2 b2 HO2 hst hcon
      go_wp2
      go_roundw
      case rel => exact ⟨k + 1, by omega, by go_num, HST.out⟩
      case measure => simp [intOf]; omega
    · have HQ := Lib.hid (show IntsS wr (.slice (some ⟨w.heap.size, 0, none⟩) ll.length ll.length) ll ∧ FreshV w.heap.size (.slice (some ⟨w.heap.size, 0, none⟩) ll.length ll.length) ∧ Below w.heap.size w wr from by
        obtain rfl : k = ll.length := by omega
        have h := HR.out.1
        rw [Nat.sub_self, List.take_length, List.replicate_zero, List.append_nil] at h
        refine ⟨h.rws.mono (Nat.zero_le _), fun q hq => ?_, hbw⟩
        cases hn2 : ll.length with
        | zero => rw [hn2] at hq; simp [blk] at hq
        | succ m => rw [hn2] at hq; simp [blk] at hq; omega)
      clear hbw
      go_wp2
      go_ret
      exact ⟨_, rfl, HQ.out.1, HQ.out.2.1, HQ.out.2.2⟩
end Go.Proofs.Ytmcjgaffecimlaa
