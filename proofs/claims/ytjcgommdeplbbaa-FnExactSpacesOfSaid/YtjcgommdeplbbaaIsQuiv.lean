/- IsQuiver, of the program and of the reference. -/
import Derived.Test.YtjcgommdeplbbaaPathV
import Derived.IntWalk
namespace Go.Proofs.Ytjcgommdeplbbaa
open Go.RowKit
set_option linter.unusedVariables false
set_option linter.unusedSimpArgs false

def allR (l : List Int) (lo hi : Int) : Bool := l.all fun x => inR x lo hi
def isQ (n : Int) (f t : List Int) : Bool := inR n 1 5 && decide (f.length = t.length) && decide (f.length ≤ 6) && allR f 0 (n - 1) && allR t 0 (n - 1)

theorem allR_of {l : List Int} {lo hi : Int} (h : ∀ j, j < l.length → inR (l.getD j 0) lo hi = true) : allR l lo hi = true := by
  unfold allR
  rw [List.all_eq_true]
  intro x hx
  obtain ⟨j, hj, rfl⟩ := List.mem_iff_getElem.1 hx
  simpa [List.getD, hj] using h j hj
theorem allR_no {l : List Int} {lo hi : Int} {j : Nat} (hj : j < l.length) (h : inR (l.getD j 0) lo hi = false) : allR l lo hi = false := by
  unfold allR
  rw [List.all_eq_false]
  exact ⟨l[j], List.getElem_mem hj, by simpa [List.getD, hj] using h⟩
theorem wrapQ {n : Int} (h : inR n 1 5 = true) : IntKind.i64.wrap (n - 1) = n - 1 := by
  obtain ⟨a, b⟩ := inR_true h
  exact IntWalk.i64_in _ (by omega)
theorem isQ_no1 {n : Int} {f t : List Int} {j : Nat} (hj : j < f.length) (h : inR (f.getD j 0) 0 (IntKind.i64.wrap (n - 1)) = false) : isQ n f t = false := by
  cases hn : inR n 1 5
  · simp [isQ, hn]
  · rw [wrapQ hn] at h
    simp [isQ, hn, allR_no hj h]
theorem isQ_no2 {n : Int} {f t : List Int} {j : Nat} (hj : j < t.length) (h : inR (t.getD j 0) 0 (IntKind.i64.wrap (n - 1)) = false) : isQ n f t = false := by
  cases hn : inR n 1 5
  · simp [isQ, hn]
  · rw [wrapQ hn] at h
    simp [isQ, hn, allR_no hj h]



end Go.Proofs.Ytjcgommdeplbbaa
