/- Matrices: their values in memory; zero, ZeroMatrix, identity, IdentityMatrix. -/
import Derived.Test.YtjcgommdeplbbaaMg2
namespace Go.Proofs.Ytjcgommdeplbbaa
open Go.RowKit
set_option linter.unusedVariables false
set_option linter.unusedSimpArgs false

/-- a new matrix: rows, columns, cells -/
def MatNew (r c : Int) (l : List Int) (w : World) (e : Ending) (w' : World) : Prop :=
  ∃ v, e = .returned (.agg #[.int .i64 r, .int .i64 c, v]) ∧ Ints w' v l ∧ FreshV w.heap.size v ∧ Below w.heap.size w w'
/-- a new matrix and a word -/
def MatOK (r c : Int) (l : List Int) (ok : Bool) (w : World) (e : Ending) (w' : World) : Prop :=
  ∃ v, e = .returned (.tuple #[.agg #[.int .i64 r, .int .i64 c, v], .bool ok]) ∧ Ints w' v l ∧ FreshV w.heap.size v ∧ Below w.heap.size w w'

/-- the matrix of zeros that a local variable or a result starts as -/
def zM : Obj := .cells #[.int .i64 0, .int .i64 0, .slice none 0 0] 49
theorem res_pre {w w1 : World} (hb : Below (w.alloc (.cells #[.int .i64 0, .int .i64 0, .slice none 0 0] 49)).heap.size (w.alloc (.cells #[.int .i64 0, .int .i64 0, .slice none 0 0] 49)) w1) :
    w1.cell? ⟨w.heap.size, 0, none⟩ = some (.int .i64 0) ∧ w1.cell? ⟨w.heap.size, 1, none⟩ = some (.int .i64 0) ∧ w1.cell? ⟨w.heap.size, 2, none⟩ = some (.slice none 0 0) ∧
    w1.frozen? ⟨w.heap.size, 0, none⟩ = false ∧ w1.frozen? ⟨w.heap.size, 1, none⟩ = false ∧ w1.frozen? ⟨w.heap.size, 2, none⟩ = false := by
  have h := (Blk.new w #[.int .i64 0, .int .i64 0, .slice none 0 0] 49).below hb
  exact ⟨h.cell 0, h.cell 1, h.cell 2, h.frozen 0, h.frozen 1, h.frozen 2⟩
theorem mat_tail {w w1 : World} {v : Value} {l : List Int} (r c : Int) (hb : Below (w.alloc (.cells #[.int .i64 0, .int .i64 0, .slice none 0 0] 49)).heap.size (w.alloc (.cells #[.int .i64 0, .int .i64 0, .slice none 0 0] 49)) w1)
    (hv : Ints w1 v l) (hf : FreshV (w.alloc (.cells #[.int .i64 0, .int .i64 0, .slice none 0 0] 49)).heap.size v) :
    (Ints (((w1.setCell ⟨w.heap.size, 0, none⟩ (.int .i64 r)).setCell ⟨w.heap.size, 1, none⟩ (.int .i64 c)).setCell ⟨w.heap.size, 2, none⟩ v) v l ∧ FreshV w.heap.size v ∧
      Below w.heap.size w (((w1.setCell ⟨w.heap.size, 0, none⟩ (.int .i64 r)).setCell ⟨w.heap.size, 1, none⟩ (.int .i64 c)).setCell ⟨w.heap.size, 2, none⟩ v)) ∧
    (((w1.setCell ⟨w.heap.size, 0, none⟩ (.int .i64 r)).setCell ⟨w.heap.size, 1, none⟩ (.int .i64 c)).setCell ⟨w.heap.size, 2, none⟩ v).cell? ⟨w.heap.size, 0, none⟩ = some (.int .i64 r) ∧
    (((w1.setCell ⟨w.heap.size, 0, none⟩ (.int .i64 r)).setCell ⟨w.heap.size, 1, none⟩ (.int .i64 c)).setCell ⟨w.heap.size, 2, none⟩ v).cell? ⟨w.heap.size, 1, none⟩ = some (.int .i64 c) ∧
    (((w1.setCell ⟨w.heap.size, 0, none⟩ (.int .i64 r)).setCell ⟨w.heap.size, 1, none⟩ (.int .i64 c)).setCell ⟨w.heap.size, 2, none⟩ v).cell? ⟨w.heap.size, 2, none⟩ = some v := by
  have h := (Blk.new w #[.int .i64 0, .int .i64 0, .slice none 0 0] 49).below hb
  have hB := set3_blk h (.int .i64 r) (.int .i64 c) v
  have hfr : ∀ k, blk v = some k → k ≠ w.heap.size := fun k hk => by have := hf k hk; rw [World.size_alloc] at this; omega
  have hbw : Below w.heap.size w w1 := ((Below.refl _ w).alloc (Nat.le_refl _) _).trans (hb.mono (by simp))
  exact ⟨⟨set3_ints hv hfr _ _ _, hf.mono (by simp), set3_below hbw (Nat.le_refl _) _ _ _⟩, hB.cell 0, hB.cell 1, hB.cell 2⟩

set_option maxRecDepth 100000 in
set_option maxHeartbeats 1000000 in
theorem i_zero (r c : Nat) (hr : r ≤ 64) (hc : c ≤ 64) (w : World) :
    Calls Try.prog 27 #[.int .i64 r, .int .i64 c] w (MatNew r c (List.replicate (r * c) 0) w) := by
  have hrc : r * c ≤ 4096 := Nat.mul_le_mul hr hc
  obtain ⟨n, hn⟩ : ∃ n, n = r * c := ⟨_, rfl⟩
  have hm : (r : Int) * (c : Int) = (n : Int) := by rw [hn]; simp
  rw [← hn] at hrc
  have hmk := run_make_ints n (by omega)
  have HN := Lib.hid hn; clear hn
  go_enter Try.func27, Try.ntmps27
  go_wp2
  have hz := Ints.of_own (own_zeros (w.alloc (.cells #[.int .i64 r, .int .i64 c, .slice (some ⟨w.heap.size + 1, 0, none⟩) n n] 49)) w.heap.size n (by simp) (by omega))
  rw [World.size_alloc] at hz
  refine bodyPost_ret (v := .agg #[.int .i64 r, .int .i64 c, .slice (some ⟨w.heap.size + 1, 0, none⟩) n n]) (by simp [results, Try.results27, go_sem]) rfl ⟨_, rfl, ?_, hz.2, ((Below.refl _ _).alloc (Nat.le_refl _) _).alloc (by simp) _⟩
  show Ints _ _ (List.replicate (r * c) 0)
  rw [← HN.out]
  exact hz.1


/-- the cells of the identity of n rows, up to the row k -/
def idL (n k : Nat) : List Int := (List.range (n * n)).map fun (t : Nat) => if t / n = t % n ∧ t / n < k then (1 : Int) else 0
theorem idL_len (n k : Nat) : (idL n k).length = n * n := by simp [idL]
theorem idL_zero (n : Nat) : idL n 0 = List.replicate (n * n) 0 := by
  apply List.ext_getElem (by simp [idL])
  intro t h1 h2
  simp [idL]
theorem idL_at {n k : Nat} (hk : k < n) : k * n + k < n * n := by
  have : (k + 1) * n ≤ n * n := Nat.mul_le_mul_right n (by omega)
  rw [Nat.add_mul] at this; omega
theorem idL_step (n k : Nat) (hk : k < n) : (idL n k).set (k * n + k) 1 = idL n (k + 1) := by
  apply List.ext_getElem (by simp [idL])
  intro t h1 h2
  rw [List.getElem_set]
  simp only [idL, List.getElem_map, List.getElem_range]
  have e1 : (k * n + k) / n = k := by rw [Nat.mul_comm, Nat.mul_add_div (by omega), Nat.div_eq_of_lt hk]; rfl
  have e2 : (k * n + k) % n = k := by rw [Nat.mul_comm, Nat.mul_add_mod, Nat.mod_eq_of_lt hk]
  by_cases h : k * n + k = t
  · subst h
    rw [if_pos rfl, e1, e2, if_pos ⟨rfl, by omega⟩]
  · rw [if_neg h]
    have h3 : ¬ (t / n = t % n ∧ t / n = k) := by
      rintro ⟨h4, h5⟩
      have := Nat.div_add_mod t n
      rw [← h4, h5, Nat.mul_comm] at this
      exact h this
    by_cases h4 : t / n = t % n ∧ t / n < k
    · rw [if_pos h4, if_pos ⟨h4.1, by omega⟩]
    · rw [if_neg h4, if_neg (fun h5 => by
        rcases Nat.lt_or_ge (t / n) k with h6 | h6
        · exact h4 ⟨h5.1, h6⟩
        · exact h3 ⟨h5.1, by omega⟩)]



/-- what ZeroMatrix and IdentityMatrix give -/
def zerOK (r c : Int) : Bool := inR r 0 8 && inR c 0 8
def zerR (r c : Int) : Int := if zerOK r c = true then r else 0
def zerC (r c : Int) : Int := if zerOK r c = true then c else 0
def zerL (r c : Int) : List Int := if zerOK r c = true then List.replicate (r.toNat * c.toNat) 0 else []
def ideR (n : Int) : Int := if inR n 0 8 = true then n else 0
def ideL (n : Int) : List Int := if inR n 0 8 = true then idL n.toNat n.toNat else []





end Go.Proofs.Ytjcgommdeplbbaa
