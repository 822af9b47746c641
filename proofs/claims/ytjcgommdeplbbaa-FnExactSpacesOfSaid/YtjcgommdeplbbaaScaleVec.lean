/- ScaleVector, of the program and of the reference. -/
import Derived.Test.YtjcgommdeplbbaaAddVec
namespace Go.Proofs.Ytjcgommdeplbbaa
open Go.RowKit
set_option linter.unusedVariables false
set_option linter.unusedSimpArgs false

def scaK (p k : Int) (l : List Int) (n : Nat) : List Int := gen (fun t => ((k % p) * l.getD t 0) % p) n
theorem scaK_len (p k : Int) (l : List Int) (n : Nat) : (scaK p k l n).length = n := gen_len _ _
theorem scaK_succ (p k : Int) (l : List Int) (n : Nat) : scaK p k l n ++ [((k % p) * l.getD n 0) % p] = scaK p k l (n + 1) := gen_succ (fun t => ((k % p) * l.getD t 0) % p) n
def scaV (p k : Int) (l : List Int) : List Int := scaK p k l l.length
def scaR (p k : Int) (l : List Int) : List Int := if isV p l = true then scaV p k l else []

theorem mod_mul_bd {p k x : Int} (hp : isF p = true) (h0 : 0 ≤ x) (h1 : x ≤ 4) : 0 ≤ (k % p) * x ∧ (k % p) * x ≤ 16 := by
  have := isF_cases hp
  have h2 := Int.emod_nonneg k (show p ≠ 0 by omega)
  have h3 := Int.emod_lt_of_pos k (show 0 < p by omega)
  have h5 := Int.mul_le_mul (show k % p ≤ 4 by omega) h1 h0 (by omega)
  exact ⟨Int.mul_nonneg h2 h0, by omega⟩


theorem addAt_sca (p k : Int) (la : List Int) : addAt p (List.replicate la.length 0) 0 (k % p) la la.length = scaV p k la := by
  unfold addAt scaV scaK gen
  rw [List.length_replicate]
  apply List.map_congr_left
  intro t ht
  rw [List.mem_range] at ht
  rw [if_pos (by omega)]
  simp [List.getD, ht]


end Go.Proofs.Ytjcgommdeplbbaa
