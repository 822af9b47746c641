/- slices.DeleteFunc on a slice of paths that the call owns: the arrows stay in blocks of their own. -/
import Derived.Test.YthlmggogeeedjaaDelF
import Derived.Test.YthlmggogeeedjaaMarkP
namespace Go.Proofs.Ythlmggogeeedjaa
open Go.RowKit
set_option linter.unusedVariables false
set_option linter.unusedSimpArgs false

/-- a path and the slice of its arrows -/
abbrev Zt := Pt × Value
/-- a slice of paths that the call owns, with the slices of the arrows named -/
def OwnU (w : World) (B : Nat) (v : Value) (Z : List Zt) : Prop := w.ownsRow B 42 2 v Z.length (flatP (Z.map Prod.snd) (Z.map Prod.fst)) ∧ arP B w (Z.map Prod.snd) (Z.map Prod.fst)
theorem OwnU.own {w : World} {B : Nat} {v : Value} {Z : List Zt} (h : OwnU w B v Z) : OwnP w B v (Z.map Prod.fst) := ⟨_, by simpa using h.1, h.2⟩
theorem OwnU.ownD {w : World} {B : Nat} {v : Value} {Z : List Zt} (h : OwnU w B v Z) (hd : dis (Z.map Prod.snd)) : OwnD w B v (Z.map Prod.fst) := ⟨_, by simpa using h.1, h.2, hd⟩
theorem zip_fst : ∀ {L : List Pt} {us : List Value}, us.length = L.length → (L.zip us).map Prod.fst = L
  | [], _, _ => by simp
  | _ :: _, [], h => by simp at h
  | p :: L, u :: us, h => by simp [zip_fst (L := L) (us := us) (by simpa using h)]
theorem zip_snd : ∀ {L : List Pt} {us : List Value}, us.length = L.length → (L.zip us).map Prod.snd = us
  | [], [], _ => by simp
  | [], _ :: _, h => by simp at h
  | _ :: _, [], h => by simp at h
  | p :: L, u :: us, h => by simp [zip_snd (L := L) (us := us) (by simpa using h)]
theorem OwnD.openU {w : World} {B : Nat} {v : Value} {L : List Pt} (h : OwnD w B v L) : ∃ Z : List Zt, Z.map Prod.fst = L ∧ OwnU w B v Z ∧ dis (Z.map Prod.snd) := by
  obtain ⟨us, h1, h2, h3⟩ := h
  have hl := h2.len
  refine ⟨L.zip us, zip_fst hl, ⟨?_, ?_⟩, ?_⟩
  · rw [zip_fst hl, zip_snd hl, List.length_zip, hl, Nat.min_self]; exact h1
  · rw [zip_fst hl, zip_snd hl]; exact h2
  · rw [zip_snd hl]; exact h3
theorem OwnU.below {w w' : World} {B : Nat} {v : Value} {Z : List Zt} (h : OwnU w B v Z) (b : Below w.heap.size w w') : OwnU w' B v Z := by
  obtain ⟨h1, h2⟩ := h
  refine ⟨World.ownsRow.kept h1 (row := none) ⟨b.os, b.tape, b.output, b.size, fun i hi _ => b.block i hi⟩ ?_, h2.keep fun _ _ hv _ => hv.below b⟩
  cases v.ownBlock <;> simp
theorem arP.nth {B : Nat} {w : World} : ∀ {Z : List Zt}, arP B w (Z.map Prod.snd) (Z.map Prod.fst) → ∀ {i : Nat} {z : Zt}, Z[i]? = some z → (flatP (Z.map Prod.snd) (Z.map Prod.fst))[i * 2]? = some (.int .i64 z.1.1) ∧ (flatP (Z.map Prod.snd) (Z.map Prod.fst))[i * 2 + 1]? = some z.2 ∧ Ints w z.2 z.1.2 ∧ FreshV B z.2
  | [], _, i, z, hi => by simp at hi
  | x :: Z, h, 0, z, hi => by
    simp at hi
    subst hi
    exact ⟨rfl, rfl, h.1, h.2.1⟩
  | x :: Z, h, i + 1, z, hi => by
    obtain ⟨e1, e2, h1, h2⟩ := arP.nth (Z := Z) h.2.2 (i := i) (z := z) (by simpa using hi)
    refine ⟨?_, ?_, h1, h2⟩
    · rw [show (i + 1) * 2 = i * 2 + 1 + 1 by omega]; simpa [flatP] using e1
    · rw [show (i + 1) * 2 + 1 = i * 2 + 1 + 1 + 1 by omega]; simpa [flatP] using e2
theorem OwnU.cell {w : World} {B : Nat} {a : Option Addr} {n c : Nat} {Z : List Zt} (h : OwnU w B (.slice a n c) Z) {i : Nat} {z : Zt} (hi : Z[i]? = some z) :
    ∃ g, a = some ⟨g, 0, none⟩ ∧ B ≤ g ∧ g < w.heap.size ∧ w.cell? ⟨g, i * 2, none⟩ = some (.int .i64 z.1.1) ∧ w.cell? ⟨g, i * 2 + 1, none⟩ = some z.2 ∧ Ints w z.2 z.1.2 ∧ FreshV B z.2 := by
  obtain ⟨⟨hl, h2⟩, hr⟩ := h
  have hiL := (List.getElem?_eq_some_iff.1 hi).1
  rcases h2 with ⟨_, h0⟩ | ⟨g, cap, cur, e, hb, hg, hnc, hcm, hcs, htake⟩
  · omega
  · simp only [Value.slice.injEq] at e
    obtain ⟨rfl, rfl, rfl⟩ := e
    obtain ⟨e1, e2, h1, h2⟩ := hr.nth hi
    refine ⟨g, rfl, hb, (Array.getElem?_eq_some_iff.1 hg).1, ?_, ?_, h1, h2⟩
    · rw [cell_of_row w g _ cur _ _ hg, ← e1, ← htake, List.getElem?_take_of_lt (by omega), Array.getElem?_toList]
    · rw [cell_of_row w g _ cur _ _ hg, ← e2, ← htake, List.getElem?_take_of_lt (by omega), Array.getElem?_toList]
theorem OwnU.block {w : World} {B : Nat} {a : Option Addr} {n c : Nat} {Z : List Zt} (h : OwnU w B (.slice a n c) Z) (hn : 0 < Z.length) :
    ∃ g cur, a = some ⟨g, 0, none⟩ ∧ B ≤ g ∧ n = Z.length ∧ w.heap[g]? = some (.cells cur 42 (0, 0)) ∧ Z.length ≤ c ∧ c ≤ maxLen ∧ cur.size = c * 2 ∧ cur.toList.take (Z.length * 2) = flatP (Z.map Prod.snd) (Z.map Prod.fst) ∧ arP B w (Z.map Prod.snd) (Z.map Prod.fst) := by
  obtain ⟨⟨hl, h2⟩, hr⟩ := h
  rcases h2 with ⟨_, h0⟩ | ⟨g, cap, cur, e, hb, hg, hnc, hcm, hcs, htake⟩
  · omega
  · simp only [Value.slice.injEq] at e
    obtain ⟨rfl, rfl, rfl⟩ := e
    exact ⟨g, cur, rfl, hb, rfl, hg, hnc, hcm, hcs, htake, hr⟩
theorem OwnU.setAt {w : World} {B : Nat} {g n c : Nat} {Z : List Zt} (h : OwnU w B (.slice (some ⟨g, 0, none⟩) n c) Z) {i : Nat} (hi : i < Z.length) {st : Int} {u : Value} {ar : List Int} (hu : Ints w u ar) (hf : FreshV B u) :
    OwnU ((w.setCell ⟨g, i * 2, none⟩ (.int .i64 st)).setCell ⟨g, i * 2 + 1, none⟩ u) B (.slice (some ⟨g, 0, none⟩) n c) (Z.set i ((st, ar), u)) := by
  obtain ⟨g', cur, e, hb, hn, hg, hlc, hcm, hcs, htake, hr⟩ := h.block (by omega)
  simp only [Option.some.injEq, Addr.mk.injEq, and_true] at e
  subst e
  have hus : (Z.map Prod.snd).length = (Z.map Prod.fst).length := by simp
  have hg1 := heap_setCell_same w g (i * 2) cur _ (.int .i64 st) hg
  have hg2 := heap_setCell_same _ g (i * 2 + 1) _ _ u hg1
  have hkeep : ∀ v l, Ints w v l → FreshV B v → Ints ((w.setCell ⟨g, i * 2, none⟩ (.int .i64 st)).setCell ⟨g, i * 2 + 1, none⟩ u) v l := fun v l hv _ =>
    hv.keep fun k hk => by
      have hkg := far_row hv hg k hk
      rw [heap_setCell_other _ ⟨g, i * 2 + 1, none⟩ _ _ (by simpa using hkg), heap_setCell_other _ ⟨g, i * 2, none⟩ _ _ (by simpa using hkg)]
  have hm1 : (Z.set i ((st, ar), u)).map Prod.snd = (Z.map Prod.snd).set i u := by rw [List.map_set]
  have hm2 : (Z.set i ((st, ar), u)).map Prod.fst = (Z.map Prod.fst).set i (st, ar) := by rw [List.map_set]
  refine ⟨?_, by rw [hm1, hm2]; exact arP_set (hkeep _ _ hu hf) hf (hr.keep hkeep) i⟩
  rw [hm1, hm2]
  refine ⟨?_, .inr ⟨g, c, _, ?_, hb, hg2, ?_, hcm, ?_, ?_⟩⟩
  · rw [flatP_len (by simp)]; simp
  · simp [hn]
  · simpa using hlc
  · simpa using hcs
  · rw [flatP_set hus (by simpa using hi), ← htake]
    simp only [List.length_set, Array.toList_setIfInBounds]
    rw [List.take_set, List.take_set]
theorem OwnU.shrink {w w' : World} {B : Nat} {g n c : Nat} {Z : List Zt} (h : OwnU w B (.slice (some ⟨g, 0, none⟩) n c) Z) (hn : 0 < Z.length) {i : Nat} (hi : i ≤ Z.length)
    (hg' : ∀ cur, w.heap[g]? = some (.cells cur 42 (0, 0)) → ∃ cur', w'.heap[g]? = some (.cells cur' 42 (0, 0)) ∧ cur'.size = cur.size ∧ ∀ j, j < i * 2 → cur'[j]? = cur[j]?)
    (ho : ∀ k, k < w.heap.size → k ≠ g → w'.heap[k]? = w.heap[k]?) :
    OwnU w' B (.slice (some ⟨g, 0, none⟩) i c) (Z.take i) := by
  obtain ⟨g', cur, e, hb, hn, hg, hlc, hcm, hcs, htake, hr⟩ := h.block hn
  simp only [Option.some.injEq, Addr.mk.injEq, and_true] at e
  subst e
  obtain ⟨cur', h1, h2, h3⟩ := hg' cur hg
  have hkeep : ∀ v l, Ints w v l → FreshV B v → Ints w' v l := fun v l hv _ => hv.keep fun k hk => ho k (hv.lt k hk) (far_row hv hg k hk)
  have hlt : (Z.take i).length = i := by simp; omega
  refine ⟨?_, by rw [List.map_take, List.map_take]; exact arP_take (hr.keep hkeep) i⟩
  rw [List.map_take, List.map_take]
  refine ⟨?_, .inr ⟨g, c, cur', ?_, hb, h1, ?_, hcm, by rw [h2, hcs], ?_⟩⟩
  · rw [flatP_len (by simp)]; simp
  · rw [hlt]
  · rw [hlt]; omega
  · rw [hlt, flatP_take (by simp), ← htake, List.take_take, Nat.min_eq_left (by omega)]
    apply List.ext_getElem?
    intro j
    rw [List.getElem?_take, List.getElem?_take]
    by_cases hj : j < i * 2
    · rw [if_pos hj, if_pos hj, Array.getElem?_toList, Array.getElem?_toList]; exact h3 j hj
    · rw [if_neg hj, if_neg hj]
/-- what the rounds keep: the first i are the chosen ones of the first j; behind j all is as it was -/
def delJ (g : Pt → Bool) (L : List Zt) (i j : Nat) (L' : List Zt) : Prop := i < j ∧ j ≤ L.length ∧ L'.length = L.length ∧ L'.take i = (L.take j).filter (fun p => !g p.1) ∧ L'.drop j = L.drop j
theorem take_filterJ {g : Pt → Bool} {L : List Zt} {k : Nat} {z : Zt} (hk : L[k]? = some z) (hg : g z.1 = true) (h : ∀ (i : Nat) (z : Zt), i < k → L[i]? = some z → g z.1 = false) : L.take k = (L.take (k + 1)).filter (fun p => !g p.1) := by
  have h1 : ∀ m, m ≤ k → (L.take m).filter (fun p => !g p.1) = L.take m := by
    intro m
    induction m with
    | zero => intro _; simp
    | succ m ih =>
      intro hm
      have hkl := (List.getElem?_eq_some_iff.1 hk).1
      rw [List.take_add_one, List.filter_append, ih (by omega), List.getElem?_eq_getElem (by omega)]
      have := h m _ (by omega) (List.getElem?_eq_getElem (by omega))
      simp [this]
  rw [List.take_add_one, List.filter_append, h1 k (Nat.le_refl _), hk]
  simp [hg]
theorem delJ_start {g : Pt → Bool} {L : List Zt} {k : Nat} {z : Zt} (hk : L[k]? = some z) (hg : g z.1 = true) (h : ∀ (i : Nat) (z : Zt), i < k → L[i]? = some z → g z.1 = false) : delJ g L k (k + 1) L :=
  ⟨by omega, (List.getElem?_eq_some_iff.1 hk).1, rfl, take_filterJ hk hg h, rfl⟩
theorem delJ_get {g : Pt → Bool} {L L' : List Zt} {i j : Nat} (h : delJ g L i j L') : L'[j]? = L[j]? := by
  have h2 := congrArg (fun l => l[0]?) h.2.2.2.2
  simpa only [List.getElem?_drop, Nat.add_zero] using h2
theorem delJ_skip {g : Pt → Bool} {L L' : List Zt} {i j : Nat} {z : Zt} (h : delJ g L i j L') (hj : L[j]? = some z) (hg : g z.1 = true) : delJ g L i (j + 1) L' := by
  refine ⟨by have := h.1; omega, (List.getElem?_eq_some_iff.1 hj).1, h.2.2.1, ?_, ?_⟩
  · rw [h.2.2.2.1, List.take_add_one, List.filter_append, hj]
    simp [hg]
  · have := congrArg (fun l => l.drop 1) h.2.2.2.2
    simpa [List.drop_drop] using this
theorem delJ_put {g : Pt → Bool} {L L' : List Zt} {i j : Nat} {z : Zt} (h : delJ g L i j L') (hj : L[j]? = some z) (hg : g z.1 = false) : delJ g L (i + 1) (j + 1) (L'.set i z) := by
  have hij := h.1
  have hjl := (List.getElem?_eq_some_iff.1 hj).1
  refine ⟨by omega, by omega, by rw [List.length_set]; exact h.2.2.1, ?_, ?_⟩
  · rw [List.take_add_one, List.take_set_of_le (Nat.le_refl _), h.2.2.2.1, List.take_add_one, List.filter_append, hj]
    rw [List.getElem?_set_self (by have := h.2.2.1; omega)]
    simp [hg]
  · rw [List.drop_set_of_lt (by omega)]
    have := congrArg (fun l => l.drop 1) h.2.2.2.2
    simpa [List.drop_drop] using this
theorem getD_fst {Z : List Zt} {j : Nat} {z : Zt} (h : Z[j]? = some z) : (Z.map Prod.fst).getD j (0, []) = z.1 := by simp [List.getD, h]

set_option maxRecDepth 100000 in
set_option maxHeartbeats 4000000 in
theorem DeleteFunc_ptu (K : FuncId) (cs : Array Value) (g : Pt → Bool) (B : Nat) (v : Value) (L : List Zt) (w : World) (hv : OwnU w B v L) (hsm : L.length ≤ 1048576)
    (hfn : ∀ args w, (callFunc K args).run Try.prog w = .ok (.enter K args) w)
    (hcall : ∀ (i : Nat) (z : Zt) (u : Value) (w' : World), L[i]? = some z → w.grownBy w' v.ownBlock → Ints w' u z.1.2 → Calls Try.prog K (#[.agg #[.int .i64 z.1.1, u]] ++ cs) w' (BoolAnsB (g z.1) w')) :
    Calls Try.prog 30 #[v, .func (.func K) #[] cs] w
      (fun e w' => ∃ v', e = .returned v' ∧ OwnU w' B v' (L.filter (fun p => !g p.1)) ∧ (∀ q, v'.ownBlock = some q → v.ownBlock = some q) ∧ w.grownBy w' v.ownBlock) := by
  have HI := Lib.hid (IndexFunc_pts K cs g B v (L.map Prod.fst) w hv.own (by simpa using hsm) hfn (fun i u w' hi hb hu => by
    have hi : i < L.length := by simpa using hi
    have e := getD_fst (List.getElem?_eq_getElem hi)
    rw [e] at hu ⊢
    exact hcall i _ u w' (List.getElem?_eq_getElem hi) (grown_below hb) hu))
  obtain ⟨a, c, hvE, hlc, hcm⟩ := hv.own.shape
  rw [List.length_map] at hvE hlc
  subst hvE
  have HV := Lib.hid hv; have HC := Lib.hid hcall
  clear hv hcall
  go_enter Try.func30, Try.ntmps30
  go_wp2_with fail
  refine HI.out.mono ?_; rintro e w1 ⟨r, rfl, hf, b1⟩
  have HB1 := Lib.hid (grown_below (row := (Value.slice a L.length c).ownBlock) b1)
  have HO1 := Lib.hid (HV.out.below b1)
  clear b1
  rcases hf with ⟨rfl, hno⟩ | ⟨k, rfl, hkl, hgk, hbef⟩
  · have HQ := Lib.hid (show OwnU w1 B (.slice a L.length c) (L.filter (fun p => !g p.1)) by
      rw [List.filter_eq_self.2 (fun p hp => by
        obtain ⟨i, hi, rfl⟩ := List.mem_iff_getElem.1 hp
        have := hno i (by simpa using hi)
        rw [getD_fst (List.getElem?_eq_getElem hi)] at this
        simp [this])]
      exact HO1.out)
    clear hno
    go_wp2
    go_ret
    exact ⟨_, rfl, HQ.out, fun q hq => hq, HB1.out⟩
  have hkl : k < L.length := by simpa using hkl
  obtain ⟨zk, hzk⟩ : ∃ z, L[k]? = some z := ⟨_, List.getElem?_eq_getElem hkl⟩
  rw [getD_fst hzk] at hgk
  have HST := Lib.hid (delJ_start hzk hgk (fun i z hi hz => by have := hbef i hi; rwa [getD_fst hz] at this))
  obtain ⟨g0, cur, rfl, hb0, _, hg0, hlc0, hcm0, hcs0, _, _⟩ := HO1.out.block (by omega)
  have hne : ((k : Int) == -1) = false := by simp only [beq_eq_false_iff_ne]; omega
  have hcm1 : c ≤ 9223372036854775807 := hcm
  clear hgk hbef hg0 hcs0 hcm0 hlc0 hzk
  go_wp2
  go_loopw [5, 6] (fun s6 s7 wr => ∃ (i j : Nat) (L' : List Zt), s6 = .int .i64 i ∧ s7 = .int .i64 j ∧ Hid (delJ g L i j L') ∧ OwnU wr B (.slice (some ⟨g0, 0, none⟩) L.length c) L' ∧ w.grownBy wr (some g0)) (fun _ s7 _ => L.length - (intOf s7).toNat)
  case atStart => exact ⟨k, k + 1, L, rfl, by go_num, HST, HO1.out, HB1.out⟩
  case round =>
    obtain ⟨i, j, L', rfl, rfl, HD, ho, hgr⟩ := hrel
    have HO := Lib.hid ho; have HG := Lib.hid hgr
    have hij := HD.out.1
    have hjL := HD.out.2.1
    have hll := HD.out.2.2.1
    clear hgr
    by_cases hlt : j < L.length
    · obtain ⟨z, hz⟩ : ∃ z, L[j]? = some z := ⟨_, List.getElem?_eq_getElem hlt⟩
      obtain ⟨g1, e, _, hgs, hc0, hc1, hu, hfu⟩ := ho.cell ((delJ_get HD.out).trans hz)
      simp only [Option.some.injEq, Addr.mk.injEq, and_true] at e
      subst e
      obtain ⟨⟨st, ar⟩, u⟩ := z
      have HCk := Lib.hid (fun w' hw' hi' => HC.out j ((st, ar), u) u w' hz hw' hi')
      have HZ := Lib.hid hz
      simp only at hc0 hc1 hu hfu
      clear hz
      obtain ⟨aU, cU, rfl, _, _⟩ := hu.shape
      have hal : Below wr.heap.size wr (wr.alloc (.cells #[.int .i64 st, .slice aU ar.length cU] 42)) := (Below.refl _ wr).alloc (Nat.le_refl _) _
      have HCA := Lib.hid (HCk.out _ (HG.out.trans (grown_below hal)) (hu.below hal))
      have HA := Lib.hid hal
      have P0 := Lib.hid (Blk.new wr #[.int .i64 st, .slice aU ar.length cU] 42)
      have HU := Lib.hid hu; have HFU := Lib.hid hfu
      have hk0 : (0 : Int) ≤ (j : Int) := by omega
      have hk1 : (j : Int) < (L.length : Int) := by omega
      have hi0 : (0 : Int) ≤ (i : Int) := by omega
      have hi1 : (i : Int) < (L.length : Int) := by omega
      obtain ⟨p0, p1⟩ := blk2 P0.out
      clear hu hfu hal ho HCk
      cases hg : g (st, ar)
      · simp only [hg] at HCA
        have HD2 := Lib.hid (delJ_put HD.out HZ.out hg)
        clear hg
        go_wp2_with fail
        refine HCA.out.mono ?_; rintro e w3 ⟨rfl, b3⟩
        have hb := HA.out.trans (b3.mono HA.out.size)
        have ho3 := HO.out.below hb
        have hu3 := HU.out.below hb
        have HG3 := Lib.hid (HG.out.trans (grown_below (row := some g0) hb))
        obtain ⟨zi, hzi⟩ : ∃ z, L'[i]? = some z := ⟨_, List.getElem?_eq_getElem (by omega)⟩
        obtain ⟨g1, e1, _, _, d0, d1, _, _⟩ := ho3.cell hzi
        simp only [Option.some.injEq, Addr.mk.injEq, and_true] at e1
        subst e1
        obtain ⟨f0, f1⟩ : w3.frozen? ⟨g0, i * 2, none⟩ = false ∧ w3.frozen? ⟨g0, i * 2 + 1, none⟩ = false := by
          obtain ⟨_, cur, e2, _, _, hcur, _⟩ := ho3.block (by omega)
          simp only [Option.some.injEq, Addr.mk.injEq, and_true] at e2
          subst e2
          exact ⟨by simp [World.frozen?, hcur], by simp [World.frozen?, hcur]⟩
        have HO3 := Lib.hid (ho3.setAt (i := i) (by omega) (st := st) hu3 HFU.out)
        have HG4 := Lib.hid ((HG3.out.trans (grown_set (i := i * 2) (.int .i64 st))).trans (grown_set (i := i * 2 + 1) (.slice aU ar.length cU)))
        have P3 := P0.out.below b3
        obtain ⟨q0, q1⟩ := blk2 P3
        clear b3 hb ho3 hu3 P3 p0 p1 hc0 hc1 hzi
        go_wp2
        go_roundw
        case rel => exact ⟨i + 1, j + 1, _, by go_num, by go_num, HD2, HO3.out, HG4.out⟩
        case measure => simp [intOf]; omega
      · simp only [hg] at HCA
        have HD2 := Lib.hid (delJ_skip HD.out HZ.out hg)
        clear hg
        go_wp2_with fail
        refine HCA.out.mono ?_; rintro e w3 ⟨rfl, b3⟩
        have hb := HA.out.trans (b3.mono HA.out.size)
        have HO3 := Lib.hid (HO.out.below hb)
        have HG3 := Lib.hid (HG.out.trans (grown_below (row := some g0) hb))
        clear b3 hb p0 p1 hc0 hc1
        go_wp2
        go_roundw
        case rel => exact ⟨i, j + 1, L', rfl, by go_num, HD2, HO3.out, HG3.out⟩
        case measure => simp [intOf]; omega
    · obtain ⟨zs, hclr⟩ := run_clear_pts wr (i := i) (m := L.length - i) ho.own (by rw [List.length_map]; omega) (by omega)
      have hs := ho.shrink (w' := wr.setCells g0 (i * 2) zs) (by omega) (i := i) (by omega) (fun cur hcur => setCells_row zs (i * 2) wr cur hcur) (fun k hk hne => World.heap_setCells_other wr g0 (i * 2) zs hk hne)
      have hj : j = L.length := by omega
      have hd := HD.out.2.2.2.1
      rw [hj, List.take_length] at hd
      rw [hd] at hs
      have HS := Lib.hid hs
      have HG2 := Lib.hid (HG.out.trans (grown_cells zs (i * 2) wr))
      have hi0 : (0 : Int) ≤ (i : Int) := by omega
      have hi1 : (i : Int) ≤ (L.length : Int) := by omega
      have hic : i ≤ c := by omega
      clear hs hd hj ho
      go_wp2
      go_ret
      exact ⟨_, rfl, HS.out, fun q hq => hq, HG2.out⟩
theorem DeleteFunc_ptd (K : FuncId) (cs : Array Value) (g : Pt → Bool) (B : Nat) (v : Value) (L : List Pt) (w : World) (hv : OwnD w B v L) (hsm : L.length ≤ 1048576)
    (hfn : ∀ args w, (callFunc K args).run Try.prog w = .ok (.enter K args) w)
    (hcall : ∀ i u w', i < L.length → w.grownBy w' v.ownBlock → Ints w' u (L.getD i (0, [])).2 → Calls Try.prog K (#[.agg #[.int .i64 (L.getD i (0, [])).1, u]] ++ cs) w' (BoolAnsB (g (L.getD i (0, []))) w')) :
    Calls Try.prog 30 #[v, .func (.func K) #[] cs] w
      (fun e w' => ∃ v', e = .returned v' ∧ OwnD w' B v' (L.filter (fun p => !g p)) ∧ (∀ q, v'.ownBlock = some q → v.ownBlock = some q) ∧ w.grownBy w' v.ownBlock) := by
  obtain ⟨Z, rfl, hu, hd⟩ := hv.openU
  refine (DeleteFunc_ptu K cs g B v Z w hu (by simpa using hsm) hfn (fun i z u w' hi hgr hiu => ?_)).mono ?_
  · have h := hcall i u w' (by have := (List.getElem?_eq_some_iff.1 hi).1; simpa using this) hgr
    rw [getD_fst hi] at h
    exact h hiu
  · rintro e w' ⟨v', rfl, hu2, hq, hgr⟩
    refine ⟨v', rfl, ?_, hq, hgr⟩
    rw [List.filter_map]
    exact hu2.ownD (List.Pairwise.sublist ((List.filter_sublist).map Prod.snd) hd)
end Go.Proofs.Ythlmggogeeedjaa
