/- The program's boxes: the maker of the iterator; slices.Repeat of one number. -/
import Derived.Test.YtjcgommdeplbbaaMg7
import Derived.Test.YtjcgommdeplbbaaShelf
import Derived.Laws.CopyOwn
import Derived.Deep.RegionLaw
namespace Go.Proofs.Ytjcgommdeplbbaa
open Go.RowKit
set_option linter.unusedVariables false
set_option linter.unusedSimpArgs false

set_option maxRecDepth 100000 in
set_option maxHeartbeats 1000000 in
theorem i_boxes (v : Value) (w : World) (hv : v.oneCell' = true) : Calls Try.prog 25 #[v] w (fun e w' => e = .returned (.func (.func 43) #[] #[.pointer (some ⟨w.heap.size, 0, none⟩)]) ∧ w' = w.alloc (.cells #[v] 37)) := by
  have hmf : ∀ (fn : Fn) (first cap : Array Value) (w : World), (Instr.makeFunc fn first cap).run Try.prog w = .ok (.func fn first cap) w := fun _ _ _ _ => rfl
  go_enter Try.func25, Try.ntmps25
  go_wp2
  go_ret
  exact ⟨rfl, rfl⟩
/-- the row under way: n cells are laid, the others are 0 -/
def rpt (a : Int) (n c : Nat) : List Value := List.replicate n (.int .i64 a) ++ List.replicate (c - n) (.int .i64 0)
theorem rpt_len (a : Int) (n c : Nat) (h : n ≤ c) : (rpt a n c).length = c := by simp [rpt]; omega
theorem rpt_zero (a : Int) (c : Nat) : zerosArr c = (rpt a 0 c).toArray := by
  apply Array.toList_inj.1
  unfold zerosArr; rw [toList_madeCells_one]; simp [rpt]
theorem rpt_splice (a : Int) {n c m : Nat} (h : n + m ≤ c) : splice (rpt a n c) n (List.replicate m (.int .i64 a)) = rpt a (n + m) c := by
  unfold splice rpt
  rw [List.length_replicate, List.take_left' (by simp), List.drop_append, List.drop_of_length_le (by simp), List.nil_append, ← List.append_assoc, List.replicate_append_replicate]
  congr 1
  rw [List.drop_replicate]
  congr 1
  simp; omega
theorem rpt_cell {a : Int} {n c g j : Nat} {w : World} (h : w.heap[g]? = some (.cells (rpt a n c).toArray 3 (0, 0))) (hj : j < n) : w.cell? ⟨g, j, none⟩ = some (.int .i64 a) := by
  rw [cell_of_row w g j _ _ _ h]
  simp [rpt, List.getElem?_append, hj]
theorem rpt_ints {a : Int} {c g : Nat} {w : World} (hc : c ≤ 64) (h : w.heap[g]? = some (.cells (rpt a c c).toArray 3 (0, 0))) : Ints w (.slice (some ⟨g, 0, none⟩) c c) (List.replicate c a) := by
  refine ⟨_, c, by simp, by simp, by unfold maxLen; omega, .inr ⟨g, 0, _, rfl, h, by simp [rpt], fun i hi => ?_⟩⟩
  have hi' : i < c := by simpa using hi
  simp [rpt, hi', List.getD]
set_option maxRecDepth 100000 in
set_option maxHeartbeats 2000000 in
theorem Repeat_one (a : Int) (c : Nat) (hc : c ≤ 64) (gx ox cx : Nat) (w : World) (hx : Ints w (.slice (some ⟨gx, ox, none⟩) 1 cx) [a]) :
    Calls Try.prog 26 #[.slice (some ⟨gx, ox, none⟩) 1 cx, .int .i64 c] w
      (fun e w' => e = .returned (.slice (some ⟨w.heap.size, 0, none⟩) c c) ∧ Ints w' (.slice (some ⟨w.heap.size, 0, none⟩) c c) (List.replicate c a) ∧ Below w.heap.size w w' ∧ w.heap.size < w'.heap.size) := by
  have hmul : ∀ w, Calls Try.prog 44 #[.int .u64 1, .int .u64 c] w fun e w' => e = .returned (.tuple #[.int .u64 0, .int .u64 c]) ∧ w' = w := fun w => (Try.bits_Mul 1 c (by omega) (by omega) w).mono fun e w' ⟨h1, h2⟩ => ⟨by
    rw [h1, show 1 * c / 18446744073709551616 = 0 by omega, show 1 * c % 18446744073709551616 = c by omega]; rfl, h2⟩
  have hmk := run_make_ints c (by omega)
  have hb1 : Below w.heap.size w (w.alloc (.cells (zerosArr c) 3)) := (Below.refl _ w).alloc (Nat.le_refl _) _
  have hG : (w.alloc (.cells (zerosArr c) 3)).heap[w.heap.size]? = some (.cells (rpt a 0 c).toArray 3 (0, 0)) := by
    rw [rpt_zero a c]; exact heap_alloc_new w _
  have HX := Lib.hid (hx.below hb1)
  have HB1 := Lib.hid hb1; have HG := Lib.hid hG
  have hwc : IntKind.u64.wrap (c : Int) = c := by simp [IntKind.wrap, IntKind.bits, IntKind.signed]; omega
  have hwi : IntKind.i64.wrap (c : Int) = c := IntWalk.i64_in _ (by omega)
  obtain ⟨n0, hn0⟩ : ∃ n0, n0 = min 1 c := ⟨_, rfl⟩
  have hn01 : n0 ≤ c ∧ n0 ≤ 1 ∧ (0 < c → 0 < n0) := by omega
  have HN0 := Lib.hid hn0
  have HSR := Lib.hid (show ∀ j v, (List.replicate n0 (Value.int .i64 a))[j]? = some v → (w.alloc (.cells (zerosArr c) 3)).cell? ((⟨gx, ox, none⟩ : Addr).add j) = some v from fun j v hj => by
    have hj0 : j = 0 ∧ v = .int .i64 a := by
      rw [List.getElem?_replicate] at hj
      split at hj
      · exact ⟨by omega, by simpa using hj.symm⟩
      · cases hj
    obtain ⟨rfl, rfl⟩ := hj0
    obtain ⟨g, o, e, _, hcl, _⟩ := HX.out.cell (i := 0) (by simp)
    simp only [Option.some.injEq, Addr.mk.injEq, and_true] at e
    obtain ⟨rfl, rfl⟩ := e
    have hadd : (⟨gx, ox, none⟩ : Addr).add 0 = ⟨gx, ox, none⟩ := by unfold Addr.add; split <;> simp_all
    rw [hadd]; simpa using hcl)
  clear hb1 hG hx hn0
  go_enter Try.func26, Try.ntmps26
  go_wp2_with fail
  refine (hmul _).mono ?_; rintro e w1 ⟨rfl, rfl⟩
  go_wp2_with (refine wpList_copy_splice rfl (.tmp 31) (.tmp 32) 37 37 rfl 3 Try.underlying37 (by kernel_rfl) _ _ _ _ _ _ rfl rfl w1.heap.size 0 (rpt a 0 c) 3 HG.out (List.replicate n0 (.int .i64 a)) (by have := HN0.out; simp; omega) (fun _ => ⟨rfl, _, rfl, HSR.out⟩) (by rw [rpt_len _ _ _ (by omega)]; simp; omega) (by intro v hv; rw [List.mem_replicate] at hv; rw [hv.2]; rfl) w1.heap.size w1 HB1.out (Nat.le_refl _) ?_)
  intro w2 hg2 hb2
  rw [rpt_splice a (by omega), Nat.zero_add] at hg2
  go_wp2
  go_loopw [8] (fun iv wr => ∃ n : Nat, n ≤ c ∧ (0 < c → 0 < n) ∧ iv = .int .i64 n ∧ Hid (wr.heap[w1.heap.size]? = some (.cells (rpt a n c).toArray 3 (0, 0))) ∧ Hid (Below w1.heap.size w1 wr)) (fun iv _ => c - (intOf iv).toNat)
  case atStart => exact ⟨n0, hn01.1, hn01.2.2, rfl, hg2, hb2⟩
  case round =>
    obtain ⟨n, hn, hn1, rfl, HG, HB⟩ := hrel
    by_cases hlt : n < c
    · obtain ⟨m, hm⟩ : ∃ m, m = min n (c - n) := ⟨_, rfl⟩
      have hm2 : 0 < m ∧ n + m ≤ c ∧ m ≤ n := by omega
      have HM := Lib.hid hm
      have h0 : (0 : Int) ≤ (n : Int) := by omega
      have h1 : (n : Int) ≤ (c : Int) := by omega
      have h2 : (n : Int) < (c : Int) := by omega
      have hnc : ¬ n = c := by omega
      have hsum : IntKind.i64.wrap ((n : Int) + (m : Int)) = n + m := IntWalk.i64_in _ (by omega)
      have HGd := Lib.hid (show wr.drew.heap[w1.heap.size]? = some (.cells (rpt a n c).toArray 3 (0, 0)) from HG.out)
      have HBd := Lib.hid (show Below w1.heap.size w1 wr.drew from HB.out.drew)
      have HS := Lib.hid (show ∀ j v, (List.replicate m (Value.int .i64 a))[j]? = some v → wr.drew.cell? ((⟨w1.heap.size, 0, none⟩ : Addr).add j) = some v from fun j v hj => by
        rw [List.getElem?_replicate] at hj
        split at hj
        · have hadd : (⟨w1.heap.size, 0, none⟩ : Addr).add j = ⟨w1.heap.size, j, none⟩ := by unfold Addr.add; split <;> simp_all
          rw [hadd]; exact (rpt_cell (a := a) (n := n) (c := c) HGd.out (by omega)).trans hj
        · cases hj)
      clear hm HG HB HX HSR
      go_wp2
      --region
      refine wp_region_noPanic ?_
      refine wp_region_held_drew (S := (fun _ => True)) (by kernel_rfl) (trivial) (fun hHeld => ?_)
      refine wpAnyH_take (i := 0) (v := ?_) rfl (by kernel_rfl) (by kernel_rfl) (by kernel_rfl) (fun _ _ _ h => h) (Or.inl ⟨by rfl, ?_⟩) hHeld ?_
      rotate_left
      focus ((intro w hSw; (try dsimp only at hSw); go_simp); (try with_reducible rfl))
      (try simp only [List.getElem_toArray, List.getElem_cons_succ, List.getElem_cons_zero, Act.put, List.setIfInBounds_toArray, List.set_cons_zero, List.set_cons_succ])
      refine wpAnyH_take (i := 1) (v := ?_) rfl (by kernel_rfl) (by kernel_rfl) (by kernel_rfl) (fun _ _ _ h => h) (Or.inl ⟨by rfl, ?_⟩) hHeld ?_
      rotate_left
      focus ((intro w hSw; (try dsimp only at hSw); go_simp); (try with_reducible rfl))
      (try simp only [List.getElem_toArray, List.getElem_cons_succ, List.getElem_cons_zero, Act.put, List.setIfInBounds_toArray, List.set_cons_zero, List.set_cons_succ])
      refine wpAnyH_take (i := 2) (v := ?_) rfl (by kernel_rfl) (by kernel_rfl) (by kernel_rfl) (fun _ _ _ h => h) (Or.inl ⟨by rfl, ?_⟩) hHeld ?_
      rotate_left
      focus ((intro w hSw; (try dsimp only at hSw); go_simp); (try with_reducible rfl))
      (try simp only [List.getElem_toArray, List.getElem_cons_succ, List.getElem_cons_zero, Act.put, List.setIfInBounds_toArray, List.set_cons_zero, List.set_cons_succ])
      refine wpAnyH_take (i := 3) (v := ?_) rfl (by kernel_rfl) (by kernel_rfl) (by kernel_rfl) (fun _ _ _ h => h) (Or.inl ⟨by rfl, ?_⟩) hHeld ?_
      rotate_left
      focus ((intro w hSw; (try dsimp only at hSw); go_simp); (try with_reducible rfl))
      (try simp only [List.getElem_toArray, List.getElem_cons_succ, List.getElem_cons_zero, Act.put, List.setIfInBounds_toArray, List.set_cons_zero, List.set_cons_succ])
      refine wpAnyH_take (i := 4) (v := ?_) rfl (by kernel_rfl) (by kernel_rfl) (by kernel_rfl) (fun _ _ _ h => h) (Or.inl ⟨by rfl, ?_⟩) hHeld ?_
      rotate_left
      focus ((intro w hSw; (try dsimp only at hSw); go_simp); (try with_reducible rfl))
      (try simp only [List.getElem_toArray, List.getElem_cons_succ, List.getElem_cons_zero, Act.put, List.setIfInBounds_toArray, List.set_cons_zero, List.set_cons_succ])
      refine wpAnyH_take (i := 5) (v := ?_) rfl (by kernel_rfl) (by kernel_rfl) (by kernel_rfl) (fun _ _ _ h => h) (Or.inl ⟨by rfl, ?_⟩) hHeld ?_
      rotate_left
      focus ((intro w hSw; (try dsimp only at hSw); go_simp); (try with_reducible rfl))
      (try simp only [List.getElem_toArray, List.getElem_cons_succ, List.getElem_cons_zero, Act.put, List.setIfInBounds_toArray, List.set_cons_zero, List.set_cons_succ])
      refine wpAnyH_take (i := 6) (v := ?_) rfl (by kernel_rfl) (by kernel_rfl) (by kernel_rfl) (fun _ _ _ h => h) (Or.inl ⟨by rfl, ?_⟩) hHeld ?_
      rotate_left
      focus ((intro w hSw; (try dsimp only at hSw); go_simp); (try with_reducible rfl))
      (try simp only [List.getElem_toArray, List.getElem_cons_succ, List.getElem_cons_zero, Act.put, List.setIfInBounds_toArray, List.set_cons_zero, List.set_cons_succ])
      refine wpAnyH_ready (rs := [7]) (by kernel_rfl) (by simp) ?_
      refine AllReadyH.cons rfl (fun K hK => ?_) AllReadyH.nil
      refine step_copy_splice rfl (.tmp 41) (.tmp 44) 37 37 rfl 3 Try.underlying37 (by kernel_rfl) _ _ _ _ _ _ rfl rfl w1.heap.size n (rpt a n c) 3 HGd.out (List.replicate m (.int .i64 a)) (by have := HM.out; simp; omega) (fun _ => ⟨if_neg (by omega), _, rfl, HS.out⟩) (by rw [rpt_len _ _ _ (by omega)]; simp; omega) (by intro v hv; rw [List.mem_replicate] at hv; rw [hv.2]; rfl) w1.heap.size w1 HBd.out (Nat.le_refl _) ?_; intro w4 hg4 hb4; rw [rpt_splice a (by omega)] at hg4; rw [List.length_replicate]
      refine hK.out _ _ trivial (fun hNew => ?_)
      clear hK K
      (try simp only [List.getElem_toArray, List.getElem_cons_succ, List.getElem_cons_zero, Act.put, List.setIfInBounds_toArray, List.set_cons_zero, List.set_cons_succ])
      refine wpAnyH_take (i := 8) (v := ?_) rfl (by kernel_rfl) (by kernel_rfl) (by kernel_rfl) (fun _ _ _ h => h) (Or.inl ⟨by rfl, ?_⟩) hHeld ?_
      rotate_left
      focus ((intro w hSw; (try dsimp only at hSw); go_simp); (try with_reducible rfl))
      (try simp only [List.getElem_toArray, List.getElem_cons_succ, List.getElem_cons_zero, Act.put, List.setIfInBounds_toArray, List.set_cons_zero, List.set_cons_succ])
      refine wpAnyH_take (i := 9) (v := ?_) rfl (by kernel_rfl) (by kernel_rfl) (by kernel_rfl) (fun _ _ _ h => h) (Or.inl ⟨by rfl, ?_⟩) hHeld ?_
      rotate_left
      focus ((intro w hSw; (try dsimp only at hSw); go_simp); (try with_reducible rfl))
      (try simp only [List.getElem_toArray, List.getElem_cons_succ, List.getElem_cons_zero, Act.put, List.setIfInBounds_toArray, List.set_cons_zero, List.set_cons_succ])
      refine wpAnyH_done (by kernel_rfl) ?_ _
      refine NoPanic.normal ?_
      have HG4 := Lib.hid hg4.out; have HB4 := Lib.hid hb4
      clear hg4 hb4 hHeld hsum hnc
      go_wp2
      go_roundw
      case rel => exact ⟨n + m, by omega, by omega, by go_num, HG4, HB4⟩
      case measure => simp [intOf]; omega
    · obtain rfl : n = c := by omega
      have HI := Lib.hid (rpt_ints hc HG.out)
      go_wp2
      go_ret
      exact ⟨rfl, HI.out, HB.out, (Array.getElem?_eq_some_iff.1 HG.out).1⟩
end Go.Proofs.Ytjcgommdeplbbaa
