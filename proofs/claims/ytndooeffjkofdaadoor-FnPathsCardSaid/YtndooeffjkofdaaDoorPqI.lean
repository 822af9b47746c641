/- ParseQuiver of the program: its walk. -/
import Derived.Test.YtndooeffjkofdaaDoorMg5
import Derived.Test.YtndooeffjkofdaaDoorFq
import Derived.Deep.RegionLaw
namespace Go.Proofs.YtndooeffjkofdaaDoor
open Go.RowKit
set_option linter.unusedVariables false
set_option linter.unusedSimpArgs false
theorem bN_get (s : ByteArray) (k : Nat) (h : k < s.size) : bN s.data.toList k = (s[k].toNat : Int) - 48 := by
  have hl : k < s.data.toList.length := h
  unfold bN
  rw [List.getD_eq_getElem?_getD, List.getElem?_eq_getElem hl]
  rfl
theorem QuivOK.of_eq2 {n n' : Int} {f f' t t' : List Int} {ok ok' : Bool} {w w' : World} {e : Ending} (h : QuivOK n f t ok w e w') (h0 : n = n') (h1 : f = f') (h2 : t = t') (h3 : ok = ok') : QuivOK n' f' t' ok' w e w' := by
  subst h0; subst h1; subst h2; subst h3; exact h
theorem str_ne {s : ByteArray} (h : 0 < s.size) : ¬ s.toList = [] := by
  rw [Lib.toList_data]
  intro e
  have : s.data.toList.length = s.size := rfl
  rw [e] at this; simp at this; omega
theorem str_empty {s : ByteArray} (h : s.size = 0) : s = ⟨#[]⟩ := by
  cases s with
  | mk d =>
    have h1 : d.size = 0 := h
    have h2 : d = #[] := Array.size_eq_zero_iff.1 h1
    rw [h2]
theorem str_beq {a b : ByteArray} (h : ¬ a = b) : (a.toList == b.toList) = false := by
  rw [beq_eq_false_iff_ne, Lib.toList_data, Lib.toList_data]
  intro e
  exact h (by cases a; cases b; simp at e; rw [e])
end Go.Proofs.YtndooeffjkofdaaDoor
