/- AddVectors and ScaleVector, of the program and of the reference. -/
import Derived.Test.YtjcgommdeplbbaaMg2
namespace Go.Proofs.Ytjcgommdeplbbaa
open Go.RowKit
set_option linter.unusedVariables false
set_option linter.unusedSimpArgs false

/-- f 0, f 1, .., n numbers -/
def gen (f : Nat → Int) (n : Nat) : List Int := (List.range n).map f
theorem gen_len (f : Nat → Int) (n : Nat) : (gen f n).length = n := by simp [gen]
theorem gen_succ (f : Nat → Int) (n : Nat) : gen f n ++ [f n] = gen f (n + 1) := by simp [gen, List.range_succ]
theorem gen_get (f : Nat → Int) (n t : Nat) (h : t < n) : (gen f n).getD t 0 = f t := by simp [gen, List.getD, h]

theorem isV_elem {p : Int} {l : List Int} (h : isV p l = true) {j : Nat} (hj : j < l.length) : 0 ≤ l.getD j 0 ∧ l.getD j 0 ≤ 4 := by
  unfold isV okV at h
  simp only [Bool.and_eq_true, List.all_eq_true, decide_eq_true_eq] at h
  obtain ⟨⟨hF, _⟩, h⟩ := h
  have := inR_true (h (l.getD j 0) (by simp [List.getD, hj]))
  have := isF_cases hF
  omega
theorem isV_F {p : Int} {l : List Int} (h : isV p l = true) : isF p = true := by
  unfold isV at h; simp only [Bool.and_eq_true] at h; exact h.1.1
theorem isV_L {p : Int} {l : List Int} (h : isV p l = true) : l.length ≤ 64 := by
  unfold isV at h; simp only [Bool.and_eq_true, decide_eq_true_eq] at h; exact h.1.2

def addOK (p : Int) (la lb : List Int) : Bool := isV p la && isV p lb && decide (la.length = lb.length)
def addK (p : Int) (la lb : List Int) (k : Nat) : List Int := gen (fun t => (la.getD t 0 + lb.getD t 0) % p) k
theorem addK_len (p : Int) (la lb : List Int) (k : Nat) : (addK p la lb k).length = k := gen_len _ _
theorem addK_succ (p : Int) (la lb : List Int) (k : Nat) : addK p la lb k ++ [(la.getD k 0 + lb.getD k 0) % p] = addK p la lb (k + 1) := gen_succ (fun t => (la.getD t 0 + lb.getD t 0) % p) k
def addV (p : Int) (la lb : List Int) : List Int := addK p la lb la.length
def addR (p : Int) (la lb : List Int) : List Int := if addOK p la lb = true then addV p la lb else []

/-- a new slice of integers and a word -/
def VecOK (l : List Int) (ok : Bool) (w : World) (e : Ending) (w' : World) : Prop :=
  ∃ v, e = .returned (.tuple #[v, .bool ok]) ∧ Ints w' v l ∧ FreshV w.heap.size v ∧ Below w.heap.size w w'
theorem VecOK.of_eq {l l' : List Int} {ok ok' : Bool} {w w' : World} {e : Ending} (h : VecOK l ok w e w') (h1 : l = l') (h2 : ok = ok') : VecOK l' ok' w e w' := by
  subst h1; subst h2; exact h

theorem still_int {f : FuncId} {args : Array Value} {w : World} {r : Int} (h : Calls Try.prog f args w (fun e w' => e = .returned (.int .i64 r) ∧ w = w')) :
    Calls Try.prog f args w (fun e w'' => e = .returned (.int .i64 r) ∧ w'' = w) := h.mono fun _ _ ⟨a, b⟩ => ⟨a, b.symm⟩


theorem addAt_add (p : Int) (la lb : List Int) (hn : la.length = lb.length) : addAt p la 0 1 lb lb.length = addV p la lb := by
  unfold addAt addV addK gen
  apply List.map_congr_left
  intro t ht
  rw [List.mem_range] at ht
  rw [if_pos (by omega)]
  simp


end Go.Proofs.Ytjcgommdeplbbaa
