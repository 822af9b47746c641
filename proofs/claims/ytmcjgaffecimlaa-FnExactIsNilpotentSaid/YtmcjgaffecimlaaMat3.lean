/- AddMatrices and ScaleMatrix, of the program and of the reference. -/
import Derived.Test.YtmcjgaffecimlaaPlus
namespace Go.Proofs.Ytmcjgaffecimlaa
open Go.RowKit
set_option linter.unusedVariables false
set_option linter.unusedSimpArgs false

theorem isM_V {p r c : Int} {l : List Int} (h : isM p r c l = true) : isV p l = true := (isM_true h).2.2.2.2.2
theorem isM_len {p r c : Int} {l : List Int} (h : isM p r c l = true) : l.length ≤ 64 := isV_L (isM_V h)
theorem isM_p {p r c : Int} {l : List Int} (h : isM p r c l = true) : 2 ≤ p ∧ p ≤ 5 := by have := isF_cases (isV_F (isM_V h)); omega
theorem isM_same {p r c r' c' : Int} {l l' : List Int} (h : isM p r c l = true) (h' : isM p r' c' l' = true) (hr : r = r') (hc : c = c') : l.length = l'.length := by
  have a := (isM_true h).2.2.2.2.1
  have b := (isM_true h').2.2.2.2.1
  rw [hr, hc, ← b] at a
  omega
def mR (ok : Bool) (r : Int) : Int := if ok = true then r else 0
def mL (ok : Bool) (l : List Int) : List Int := if ok = true then l else []
def addMOK (p ra ca rb cb : Int) (la lb : List Int) : Bool := isM p ra ca la && isM p rb cb lb && decide (ra = rb) && decide (ca = cb)






end Go.Proofs.Ytmcjgaffecimlaa
