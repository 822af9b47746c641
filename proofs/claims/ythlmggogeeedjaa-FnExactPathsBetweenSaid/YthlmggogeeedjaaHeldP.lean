/- The laws' marks on slices of paths: what they hold. -/
import Derived.Test.YthlmggogeeedjaaPts
import Derived.Test.YthlmggogeeedjaaAux
namespace Go.Proofs.Ythlmggogeeedjaa
open Go.RowKit
set_option linter.unusedVariables false
set_option linter.unusedSimpArgs false

/-- how many integers the paths hold -/
def szP : List Pt → Nat
  | [] => 0
  | p :: L => 1 + p.2.length + szP L
/-- the marks from k on -/
def mkP (k : Int) : List Pt → List Pt
  | [] => []
  | p :: L => (k, marks (k + 1) p.2.length) :: mkP (k + (1 + p.2.length : Nat)) L
theorem mkP_len (L : List Pt) : ∀ k, (mkP k L).length = L.length := by
  induction L with
  | nil => intro k; rfl
  | cons p L ih => intro k; simp [mkP, ih]
theorem szP_take {L : List Pt} : ∀ {j : Nat}, j < L.length → szP (L.take (j + 1)) = szP (L.take j) + (1 + (L.getD j (0, [])).2.length) := by
  induction L with
  | nil => intro j h; simp at h
  | cons p L ih =>
    intro j h
    cases j with
    | zero => simp [szP]
    | succ j =>
      have h2 := ih (j := j) (by simpa using h)
      simp only [List.take_succ_cons, szP, h2]
      simp [List.getD]
      omega
theorem szP_le {L : List Pt} : ∀ j, szP (L.take j) ≤ szP L := by
  induction L with
  | nil => intro j; simp [szP]
  | cons p L ih =>
    intro j
    cases j with
    | zero => simp [szP]
    | succ j => have := ih j; simp only [List.take_succ_cons, szP]; omega
theorem mkP_get {L : List Pt} : ∀ {j : Nat} {k : Int}, j < L.length → (mkP k L).getD j (0, []) = (k + szP (L.take j), marks (k + szP (L.take j) + 1) (L.getD j (0, [])).2.length) := by
  induction L with
  | nil => intro j k h; simp at h
  | cons p L ih =>
    intro j k h
    cases j with
    | zero => simp [mkP, szP]
    | succ j =>
      have h2 := ih (j := j) (k := k + (1 + p.2.length : Nat)) (by simpa using h)
      simp only [mkP, List.take_succ_cons, szP, List.getD_cons_succ]
      rw [h2]
      have e : k + (1 + p.2.length : Nat) + (szP (L.take j) : Int) = k + (1 + p.2.length + szP (L.take j) : Nat) := by push_cast; omega
      rw [e]

set_option maxRecDepth 100000 in
set_option maxHeartbeats 2000000 in
theorem l_heldPathS (B : Nat) (v : Value) (L : List Pt) (k : Int) (w : World) (hv : OwnP w B v (mkP k L)) (hk0 : 0 ≤ k) (hk1 : k + szP L ≤ 4611686018427387904) :
    Calls Try.prog 12 #[v, .int .i64 k] w (IntAns (k + szP L) w) := by
  obtain ⟨a, cap, e, hlc, hcm⟩ := hv.shape
  rw [mkP_len] at e hlc
  subst e
  have HV := Lib.hid hv
  clear hv
  go_enter Try.func12, Try.ntmps12
  go_wp2
  go_loop [1, 5] (fun kk i => ∃ j : Nat, j ≤ L.length ∧ i = .int .i64 j ∧ kk = .int .i64 (k + szP (L.take j))) (fun _ i => L.length - (intOf i).toNat)
  case atStart => exact ⟨0, Nat.zero_le _, rfl, by simp [szP]⟩
  case round =>
    obtain ⟨j, hj, rfl, rfl⟩ := hrel
    by_cases hlt : j < L.length
    · obtain ⟨g, u, rfl, _, hgs, hc0, hc1, hu, _⟩ := HV.out.cell (i := j) (by rw [mkP_len]; exact hlt)
      rw [mkP_get hlt] at hc0 hu
      have hst := szP_take hlt
      have hle := szP_le (L := L) (j + 1)
      obtain ⟨m, hm⟩ : ∃ m, m = (L.getD j (0, [])).2.length := ⟨_, rfl⟩
      obtain ⟨s, hs⟩ : ∃ s, s = szP (L.take j) := ⟨_, rfl⟩
      obtain ⟨s2, hs2⟩ : ∃ s2, s2 = szP (L.take (j + 1)) := ⟨_, rfl⟩
      rw [← hs2] at hst hle
      rw [← hs] at hst
      rw [← hm] at hst
      simp only [← hs, ← hm] at hc0 hu
      have HS := Lib.hid hs; have HS2 := Lib.hid hs2
      have HU := Lib.hid hu
      have hush := hu.shape
      rw [marks_len] at hush
      obtain ⟨aU, cU, rfl, _, _⟩ := hush
      have hk2 : (0 : Int) ≤ (j : Int) := by omega
      have hk3 : (j : Int) < (L.length : Int) := by omega
      have hn : ((k + s : Int) + 1 + (m : Int) < 0) = False := by simp; omega
      rw [← hs]
      clear hu hm hs hs2
      go_wp2_with fail
      refine (l_heldIntS _ m _ _ HU.out (by omega) (by omega)).mono ?_; rintro e wz ⟨rfl, rfl⟩
      go_wp2
      go_round
      case rel => exact ⟨j + 1, by omega, by go_num, by rw [← HS2.out]; congr 1; omega⟩
      case measure => simp [intOf]; omega
    · have hj' : j = L.length := by omega
      have HQ := Lib.hid (show k + (szP (L.take j) : Int) = k + szP L by rw [hj', List.take_length])
      clear hj'
      go_wp2
      go_ret
      exact ⟨ret_int HQ.out, rfl⟩
end Go.Proofs.Ythlmggogeeedjaa
