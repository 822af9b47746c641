/- IsVector, of the program and of the reference; the search of the slices package that it goes through. -/
import Derived.Test.YthlmggogeeedjaaMem
import Derived.Test.YthlmggogeeedjaaField
import Derived.Test.YthlmggogeeedjaaRange
namespace Go.Proofs.Ythlmggogeeedjaa
open Go.RowKit
set_option linter.unusedVariables false
set_option linter.unusedSimpArgs false

def okV (p : Int) (l : List Int) : Bool := l.all fun x => inR x 0 (p - 1)
def isV (p : Int) (l : List Int) : Bool := isF p && decide (l.length ≤ 64) && okV p l

theorem okV_of {p : Int} {l : List Int} (h : ∀ j, j < l.length → inR (l.getD j 0) 0 (p - 1) = true) : okV p l = true := by
  unfold okV
  rw [List.all_eq_true]
  intro x hx
  obtain ⟨j, hj, rfl⟩ := List.mem_iff_getElem.1 hx
  simpa [List.getD, hj] using h j hj
theorem okV_no {p : Int} {l : List Int} {j : Nat} (hj : j < l.length) (h : inR (l.getD j 0) 0 (p - 1) = false) : okV p l = false := by
  unfold okV
  rw [List.all_eq_false]
  exact ⟨l[j], List.getElem_mem hj, by simpa [List.getD, hj] using h⟩
theorem isV_noF {p : Int} {l : List Int} (h : isF p = false) : isV p l = false := by simp [isV, h]
theorem isV_noL {p : Int} {l : List Int} (h : 64 < l.length) : isV p l = false := by simp [isV, show ¬ l.length ≤ 64 by omega]
theorem isV_ok {p : Int} {l : List Int} (h : isF p = true) (hl : l.length ≤ 64) : isV p l = okV p l := by simp [isV, h, hl]

/-- the element of a list, under a name of its own -/
theorem elem_named (l : List Int) (k : Nat) : ∃ x, l.getD k 0 = x := ⟨_, rfl⟩


/-- the place of the first number with a property, or -1 -/
def findI (f : Int → Bool) (l : List Int) : Int := match l.findIdx? f with | some i => (i : Int) | none => -1
theorem findI_hit {f : Int → Bool} {l : List Int} {k : Nat} (hk : k < l.length) (h : ∀ j, j < k → f (l.getD j 0) = false) (hq : f (l.getD k 0) = true) : findI f l = k := by
  unfold findI
  have : l.findIdx? f = some k := by
    rw [List.findIdx?_eq_some_iff_getElem]
    refine ⟨hk, by simpa [List.getD, hk] using hq, fun j hj => ?_⟩
    have := h j hj
    simpa [List.getD, show j < l.length by omega] using this
  rw [this]
theorem findI_none {f : Int → Bool} {l : List Int} (h : ∀ j, j < l.length → f (l.getD j 0) = false) : findI f l = -1 := by
  unfold findI
  have : l.findIdx? f = none := by
    rw [List.findIdx?_eq_none_iff]
    intro x hx
    obtain ⟨j, hj, rfl⟩ := List.mem_iff_getElem.1 hx
    simpa [List.getD, hj] using h j hj
  rw [this]
theorem findI_any (f : Int → Bool) (l : List Int) : decide (0 ≤ findI f l) = l.any f := by
  unfold findI
  cases h : l.findIdx? f with
  | none =>
    rw [List.findIdx?_eq_none_iff] at h
    have : l.any f = false := by rw [List.any_eq_false]; simpa using h
    rw [this]; rfl
  | some i =>
    rw [List.findIdx?_eq_some_iff_getElem] at h
    obtain ⟨hi, h, _⟩ := h
    have : l.any f = true := by rw [List.any_eq_true]; exact ⟨_, List.getElem_mem hi, h⟩
    rw [this]; simp

set_option maxRecDepth 100000 in
set_option maxHeartbeats 400000 in
theorem IndexFunc_ints (K : FuncId) (cs : Array Value) (f : Int → Bool) (v : Value) (l : List Int) (w : World) (hv : Ints w v l)
    (hfn : ∀ args w, (callFunc K args).run Try.prog w = .ok (.enter K args) w)
    (hcall : ∀ x, Calls Try.prog K (#[.int .i64 x] ++ cs) w (BoolAns (f x) w)) :
    Calls Try.prog 45 #[v, .func (.func K) #[] cs] w (IntAns (findI f l) w) := by
  obtain ⟨a, cap, rfl, hlc, hcm⟩ := hv.shape
  have HC := Lib.hid hcall; clear hcall
  have HF := Lib.hid hfn; clear hfn
  go_enter Try.func45, Try.ntmps45
  go_wp2
  go_loop [8] (fun i => ∃ k : Nat, k ≤ l.length ∧ i = .int .i64 k ∧ ∀ j, j < k → f (l.getD j 0) = false) (fun i => l.length - (intOf i).toNat)
  case atStart => exact ⟨0, Nat.zero_le _, rfl, fun j hj => absurd hj (by omega)⟩
  case round =>
    obtain ⟨k, hk, rfl, hno⟩ := hrel
    have HN := Lib.hid hno; clear hno
    by_cases hlt : k < l.length
    · obtain ⟨g, off, rfl, hgs, hc, hf⟩ := hv.cell hlt
      obtain ⟨x, hx⟩ := elem_named l k
      rw [hx] at hc
      have HX := Lib.hid hx; clear hx
      by_cases hq : f x = true
      · have HQ := Lib.hid (findI_hit hlt HN.out (by rw [HX.out]; exact hq))
        have hg : ∀ wx, (callFunc K (#[.int .i64 x] ++ cs)).run Try.prog wx = .ok (.enter K (#[.int .i64 x] ++ cs)) wx := fun wx => HF.out _ wx
        go_wp2_with fail
        refine (HC.out x).mono ?_; rintro e w' ⟨rfl, rfl⟩
        go_wp2
        go_ret
        exact ⟨ret_int HQ.out.symm, rfl⟩
      · have hq : f x = false := by simpa using hq
        have hg : ∀ wx, (callFunc K (#[.int .i64 x] ++ cs)).run Try.prog wx = .ok (.enter K (#[.int .i64 x] ++ cs)) wx := fun wx => HF.out _ wx
        go_wp2_with fail
        refine (HC.out x).mono ?_; rintro e w' ⟨rfl, rfl⟩
        go_wp2
        go_round
        case rel => exact ⟨k + 1, by omega, by go_num, fun j hj => by
          by_cases h : j = k
          · rw [h, HX.out]; exact hq
          · exact HN.out j (by omega)⟩
        case measure => simp [intOf]; omega
    · go_wp2
      go_ret
      exact ⟨ret_int (findI_none (fun j hj => HN.out j (by omega))).symm, rfl⟩

set_option maxRecDepth 100000 in
set_option maxHeartbeats 400000 in
theorem ContainsFunc_ints (K : FuncId) (cs : Array Value) (f : Int → Bool) (v : Value) (l : List Int) (w : World) (hv : Ints w v l)
    (hfn : ∀ args w, (callFunc K args).run Try.prog w = .ok (.enter K args) w)
    (hcall : ∀ x, Calls Try.prog K (#[.int .i64 x] ++ cs) w (BoolAns (f x) w)) :
    Calls Try.prog 43 #[v, .func (.func K) #[] cs] w (BoolAns (l.any f) w) := by
  have HV := Lib.hid (findI_any f l)
  have HI := Lib.hid (IndexFunc_ints K cs f v l w hv hfn hcall)
  clear hfn hcall
  go_enter Try.func43, Try.ntmps43
  go_wp2_with fail
  refine HI.out.mono ?_; rintro e w' ⟨rfl, rfl⟩
  go_wp2
  go_ret
  exact ⟨ret_bool HV.out, rfl⟩

theorem enter_allWithin1 : ∀ (args : Array Value) (w : World), (callFunc 44 args).run Try.prog w = .ok (.enter 44 args) w := fun args w => by kernel_rfl

set_option maxRecDepth 100000 in
set_option maxHeartbeats 400000 in
theorem i_allWithin1 (x lo hi : Int) (c1 c2 : Nat) (w : World) (h1 : w.cell? ⟨c1, 0, none⟩ = some (.int .i64 lo)) (h2 : w.cell? ⟨c2, 0, none⟩ = some (.int .i64 hi)) :
    Calls Try.prog 44 #[.int .i64 x, .pointer (some ⟨c1, 0, none⟩), .pointer (some ⟨c2, 0, none⟩)] w (BoolAns (!inR x lo hi) w) := by
  go_enter Try.func44, Try.ntmps44
  go_wp2_with fail
  refine (i_within _ _ _ _).mono ?_; rintro e w' ⟨rfl, rfl⟩
  go_wp2
  go_ret
  exact ⟨rfl, rfl⟩

theorem any_not_all (l : List Int) (f : Int → Bool) : (!l.any fun x => !f x) = l.all f := by
  induction l with
  | nil => rfl
  | cons x l ih => simp only [List.any_cons, List.all_cons, Bool.not_or, Bool.not_not, ih]

set_option maxRecDepth 100000 in
set_option maxHeartbeats 400000 in
theorem i_allWithin (v : Value) (l : List Int) (lo hi : Int) (w : World) (hv : Ints w v l) :
    Calls Try.prog 41 #[v, .int .i64 lo, .int .i64 hi] w (BoolAnsB (l.all fun x => inR x lo hi) w) := by
  have hmf : ∀ (fn : Fn) (first cap : Array Value) (w : World), (Instr.makeFunc fn first cap).run Try.prog w = .ok (.func fn first cap) w := fun _ _ _ _ => rfl
  have HA := Lib.hid (any_not_all l (fun x => inR x lo hi))
  have hb : Below w.heap.size w ((w.alloc (.cells #[.int .i64 lo] 3)).alloc (.cells #[.int .i64 hi] 3)) := ((Below.refl _ _).alloc (Nat.le_refl _) _).alloc (by simp) _
  have hv2 := hv.below hb
  obtain ⟨a, cap, rfl, hlc, hcm⟩ := hv.shape
  have HC : Hid (Calls Try.prog 43 #[.slice a l.length cap, .func (.func 44) #[] #[.pointer (some ⟨w.heap.size, 0, none⟩), .pointer (some ⟨w.heap.size + 1, 0, none⟩)]]
      ((w.alloc (.cells #[.int .i64 lo] 3)).alloc (.cells #[.int .i64 hi] 3)) (BoolAns (l.any fun x => !inR x lo hi) ((w.alloc (.cells #[.int .i64 lo] 3)).alloc (.cells #[.int .i64 hi] 3)))) := by
    refine ContainsFunc_ints 44 _ (fun x => !inR x lo hi) _ l _ hv2 enter_allWithin1 (fun x => ?_)
    have h := i_allWithin1 x lo hi w.heap.size (w.heap.size + 1) ((w.alloc (.cells #[.int .i64 lo] 3)).alloc (.cells #[.int .i64 hi] 3))
      (by rw [World.cell?_alloc_past _ _ _ (by simp), World.cell?_alloc_at _ _ _ _ rfl]; rfl) (by rw [World.cell?_alloc_at _ _ _ _ (by simp)]; rfl)
    simpa using h
  have HB := Lib.hid hb
  clear hv hb hv2
  go_enter Try.func41, Try.ntmps41
  go_wp2_with fail
  refine HC.out.mono ?_
  rintro e w' ⟨rfl, rfl⟩
  go_wp2
  go_ret
  exact ⟨ret_bool HA.out, HB.out⟩


end Go.Proofs.Ythlmggogeeedjaa
