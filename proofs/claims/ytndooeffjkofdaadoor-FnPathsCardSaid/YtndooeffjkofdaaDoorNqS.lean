/- NamedQuiver of the reference: its walk. -/
import Derived.Test.YtndooeffjkofdaaDoorNq
namespace Go.Proofs.YtndooeffjkofdaaDoor
open Go.RowKit
set_option linter.unusedVariables false
set_option linter.unusedSimpArgs false
theorem namT_of (s : ByteArray) (l t : List UInt8) (h : s.toList = l) (ht : namL l = t) : namT s = ⟨t.toArray⟩ := by
  unfold namT; rw [← Lib.toList_data, h, ht]
theorem nam_cases (s : ByteArray) : ((s.toList == [65, 49]) = true ∧ namT s = ⟨#[49, 58]⟩) ∨
    ((s.toList == [65, 49]) = false ∧ (s.toList == [65, 50]) = true ∧ namT s = ⟨#[50, 58, 32, 48, 49]⟩) ∨
    ((s.toList == [65, 49]) = false ∧ (s.toList == [65, 50]) = false ∧ (s.toList == [65, 51]) = true ∧ namT s = ⟨#[51, 58, 32, 48, 49, 32, 49, 50]⟩) ∨
    ((s.toList == [65, 49]) = false ∧ (s.toList == [65, 50]) = false ∧ (s.toList == [65, 51]) = false ∧ (s.toList == [65, 51, 105, 110]) = true ∧ namT s = ⟨#[51, 58, 32, 48, 49, 32, 50, 49]⟩) ∨
    ((s.toList == [65, 49]) = false ∧ (s.toList == [65, 50]) = false ∧ (s.toList == [65, 51]) = false ∧ (s.toList == [65, 51, 105, 110]) = false ∧ (s.toList == [65, 52]) = true ∧ namT s = ⟨#[52, 58, 32, 48, 49, 32, 49, 50, 32, 50, 51]⟩) ∨
    ((s.toList == [65, 49]) = false ∧ (s.toList == [65, 50]) = false ∧ (s.toList == [65, 51]) = false ∧ (s.toList == [65, 51, 105, 110]) = false ∧ (s.toList == [65, 52]) = false ∧ (s.toList == [68, 52]) = true ∧ namT s = ⟨#[52, 58, 32, 48, 51, 32, 49, 51, 32, 50, 51]⟩) ∨
    ((s.toList == [65, 49]) = false ∧ (s.toList == [65, 50]) = false ∧ (s.toList == [65, 51]) = false ∧ (s.toList == [65, 51, 105, 110]) = false ∧ (s.toList == [65, 52]) = false ∧ (s.toList == [68, 52]) = false ∧ (s.toList == [68, 53]) = true ∧ namT s = ⟨#[53, 58, 32, 48, 50, 32, 49, 50, 32, 50, 51, 32, 51, 52]⟩) ∨
    ((s.toList == [65, 49]) = false ∧ (s.toList == [65, 50]) = false ∧ (s.toList == [65, 51]) = false ∧ (s.toList == [65, 51, 105, 110]) = false ∧ (s.toList == [65, 52]) = false ∧ (s.toList == [68, 52]) = false ∧ (s.toList == [68, 53]) = false ∧ (s.toList == [75, 50]) = true ∧ namT s = ⟨#[50, 58, 32, 48, 49, 32, 48, 49]⟩) ∨
    ((s.toList == [65, 49]) = false ∧ (s.toList == [65, 50]) = false ∧ (s.toList == [65, 51]) = false ∧ (s.toList == [65, 51, 105, 110]) = false ∧ (s.toList == [65, 52]) = false ∧ (s.toList == [68, 52]) = false ∧ (s.toList == [68, 53]) = false ∧ (s.toList == [75, 50]) = false ∧ (s.toList == [115, 116, 97, 114, 52]) = true ∧ namT s = ⟨#[53, 58, 32, 48, 52, 32, 49, 52, 32, 50, 52, 32, 51, 52]⟩) ∨
    ((s.toList == [65, 49]) = false ∧ (s.toList == [65, 50]) = false ∧ (s.toList == [65, 51]) = false ∧ (s.toList == [65, 51, 105, 110]) = false ∧ (s.toList == [65, 52]) = false ∧ (s.toList == [68, 52]) = false ∧ (s.toList == [68, 53]) = false ∧ (s.toList == [75, 50]) = false ∧ (s.toList == [115, 116, 97, 114, 52]) = false ∧ (s.toList == [115, 113, 117, 97, 114, 101]) = true ∧ namT s = ⟨#[52, 58, 32, 48, 49, 32, 48, 50, 32, 49, 51, 32, 50, 51]⟩) ∨
    ((s.toList == [65, 49]) = false ∧ (s.toList == [65, 50]) = false ∧ (s.toList == [65, 51]) = false ∧ (s.toList == [65, 51, 105, 110]) = false ∧ (s.toList == [65, 52]) = false ∧ (s.toList == [68, 52]) = false ∧ (s.toList == [68, 53]) = false ∧ (s.toList == [75, 50]) = false ∧ (s.toList == [115, 116, 97, 114, 52]) = false ∧ (s.toList == [115, 113, 117, 97, 114, 101]) = false ∧ (s.toList == [108, 111, 111, 112]) = true ∧ namT s = ⟨#[49, 58, 32, 48, 48]⟩) ∨
    ((s.toList == [65, 49]) = false ∧ (s.toList == [65, 50]) = false ∧ (s.toList == [65, 51]) = false ∧ (s.toList == [65, 51, 105, 110]) = false ∧ (s.toList == [65, 52]) = false ∧ (s.toList == [68, 52]) = false ∧ (s.toList == [68, 53]) = false ∧ (s.toList == [75, 50]) = false ∧ (s.toList == [115, 116, 97, 114, 52]) = false ∧ (s.toList == [115, 113, 117, 97, 114, 101]) = false ∧ (s.toList == [108, 111, 111, 112]) = false ∧ (s.toList == [99, 105, 114, 99, 108, 101]) = true ∧ namT s = ⟨#[51, 58, 32, 48, 49, 32, 49, 50, 32, 50, 48]⟩) ∨
    ((s.toList == [65, 49]) = false ∧ (s.toList == [65, 50]) = false ∧ (s.toList == [65, 51]) = false ∧ (s.toList == [65, 51, 105, 110]) = false ∧ (s.toList == [65, 52]) = false ∧ (s.toList == [68, 52]) = false ∧ (s.toList == [68, 53]) = false ∧ (s.toList == [75, 50]) = false ∧ (s.toList == [115, 116, 97, 114, 52]) = false ∧ (s.toList == [115, 113, 117, 97, 114, 101]) = false ∧ (s.toList == [108, 111, 111, 112]) = false ∧ (s.toList == [99, 105, 114, 99, 108, 101]) = false ∧ namT s = ⟨#[]⟩) := by
  by_cases h0 : (s.toList == [65, 49]) = true
  · exact .inl ⟨h0, namT_of s _ _ (by simpa using h0) rfl⟩
  rw [Bool.not_eq_true] at h0
  by_cases h1 : (s.toList == [65, 50]) = true
  · exact .inr (.inl ⟨h0, h1, namT_of s _ _ (by simpa using h1) rfl⟩)
  rw [Bool.not_eq_true] at h1
  by_cases h2 : (s.toList == [65, 51]) = true
  · exact .inr (.inr (.inl ⟨h0, h1, h2, namT_of s _ _ (by simpa using h2) rfl⟩))
  rw [Bool.not_eq_true] at h2
  by_cases h3 : (s.toList == [65, 51, 105, 110]) = true
  · exact .inr (.inr (.inr (.inl ⟨h0, h1, h2, h3, namT_of s _ _ (by simpa using h3) rfl⟩)))
  rw [Bool.not_eq_true] at h3
  by_cases h4 : (s.toList == [65, 52]) = true
  · exact .inr (.inr (.inr (.inr (.inl ⟨h0, h1, h2, h3, h4, namT_of s _ _ (by simpa using h4) rfl⟩))))
  rw [Bool.not_eq_true] at h4
  by_cases h5 : (s.toList == [68, 52]) = true
  · exact .inr (.inr (.inr (.inr (.inr (.inl ⟨h0, h1, h2, h3, h4, h5, namT_of s _ _ (by simpa using h5) rfl⟩)))))
  rw [Bool.not_eq_true] at h5
  by_cases h6 : (s.toList == [68, 53]) = true
  · exact .inr (.inr (.inr (.inr (.inr (.inr (.inl ⟨h0, h1, h2, h3, h4, h5, h6, namT_of s _ _ (by simpa using h6) rfl⟩))))))
  rw [Bool.not_eq_true] at h6
  by_cases h7 : (s.toList == [75, 50]) = true
  · exact .inr (.inr (.inr (.inr (.inr (.inr (.inr (.inl ⟨h0, h1, h2, h3, h4, h5, h6, h7, namT_of s _ _ (by simpa using h7) rfl⟩)))))))
  rw [Bool.not_eq_true] at h7
  by_cases h8 : (s.toList == [115, 116, 97, 114, 52]) = true
  · exact .inr (.inr (.inr (.inr (.inr (.inr (.inr (.inr (.inl ⟨h0, h1, h2, h3, h4, h5, h6, h7, h8, namT_of s _ _ (by simpa using h8) rfl⟩))))))))
  rw [Bool.not_eq_true] at h8
  by_cases h9 : (s.toList == [115, 113, 117, 97, 114, 101]) = true
  · exact .inr (.inr (.inr (.inr (.inr (.inr (.inr (.inr (.inr (.inl ⟨h0, h1, h2, h3, h4, h5, h6, h7, h8, h9, namT_of s _ _ (by simpa using h9) rfl⟩)))))))))
  rw [Bool.not_eq_true] at h9
  by_cases h10 : (s.toList == [108, 111, 111, 112]) = true
  · exact .inr (.inr (.inr (.inr (.inr (.inr (.inr (.inr (.inr (.inr (.inl ⟨h0, h1, h2, h3, h4, h5, h6, h7, h8, h9, h10, namT_of s _ _ (by simpa using h10) rfl⟩))))))))))
  rw [Bool.not_eq_true] at h10
  by_cases h11 : (s.toList == [99, 105, 114, 99, 108, 101]) = true
  · exact .inr (.inr (.inr (.inr (.inr (.inr (.inr (.inr (.inr (.inr (.inr (.inl ⟨h0, h1, h2, h3, h4, h5, h6, h7, h8, h9, h10, h11, namT_of s _ _ (by simpa using h11) rfl⟩)))))))))))
  rw [Bool.not_eq_true] at h11
  have hn : namL s.data.toList = [] := by
    have hf : (namP.find? fun p => p.1 == s.data.toList) = none := by
      rw [List.find?_eq_none]
      intro p hp
      simp only [namP, List.mem_cons, List.not_mem_nil, or_false] at hp
      rw [← Lib.toList_data]
      rcases hp with rfl | rfl | rfl | rfl | rfl | rfl | rfl | rfl | rfl | rfl | rfl | rfl
      · intro e; rw [beq_iff_eq] at e; rw [← e] at h0; simp at h0
      · intro e; rw [beq_iff_eq] at e; rw [← e] at h1; simp at h1
      · intro e; rw [beq_iff_eq] at e; rw [← e] at h2; simp at h2
      · intro e; rw [beq_iff_eq] at e; rw [← e] at h3; simp at h3
      · intro e; rw [beq_iff_eq] at e; rw [← e] at h4; simp at h4
      · intro e; rw [beq_iff_eq] at e; rw [← e] at h5; simp at h5
      · intro e; rw [beq_iff_eq] at e; rw [← e] at h6; simp at h6
      · intro e; rw [beq_iff_eq] at e; rw [← e] at h7; simp at h7
      · intro e; rw [beq_iff_eq] at e; rw [← e] at h8; simp at h8
      · intro e; rw [beq_iff_eq] at e; rw [← e] at h9; simp at h9
      · intro e; rw [beq_iff_eq] at e; rw [← e] at h10; simp at h10
      · intro e; rw [beq_iff_eq] at e; rw [← e] at h11; simp at h11
    unfold namL; rw [hf]; rfl
  exact .inr (.inr (.inr (.inr (.inr (.inr (.inr (.inr (.inr (.inr (.inr (.inr (⟨h0, h1, h2, h3, h4, h5, h6, h7, h8, h9, h10, h11, by unfold namT; rw [hn]⟩))))))))))))
set_option maxRecDepth 100000 in
set_option maxHeartbeats 4000000 in
theorem s_NamedQuiver (s : ByteArray) (w : World) :
    Calls Tryd.prog 51 #[.string s] w (QuivOK (parN (namT s)) (parF (namT s)) (parT (namT s)) (parB (namT s)) w) := by
  have hb0 : Below w.heap.size w (w.alloc (.cells #[.int .i64 0, .slice none 0 0, .slice none 0 0] 26)) := (Below.refl _ w).alloc (Nat.le_refl _) _
  have HR0 := Lib.hid (Blk.new w #[.int .i64 0, .slice none 0 0, .slice none 0 0] 26)
  have HB0 := Lib.hid hb0
  have hcon := Lib.hid (fun wq => s_ParseQuiver (namT s) wq (namT_size s))
  have hcs := nam_cases s
  generalize namT s = T at hcon hcs ⊢
  generalize parN T = n at *
  generalize parF T = lf at *
  generalize parT T = lt at *
  generalize parB T = ok at *
  clear hb0
  rcases hcs with ⟨h0, e⟩ | ⟨h0, h1, e⟩ | ⟨h0, h1, h2, e⟩ | ⟨h0, h1, h2, h3, e⟩ | ⟨h0, h1, h2, h3, h4, e⟩ | ⟨h0, h1, h2, h3, h4, h5, e⟩ | ⟨h0, h1, h2, h3, h4, h5, h6, e⟩ | ⟨h0, h1, h2, h3, h4, h5, h6, h7, e⟩ | ⟨h0, h1, h2, h3, h4, h5, h6, h7, h8, e⟩ | ⟨h0, h1, h2, h3, h4, h5, h6, h7, h8, h9, e⟩ | ⟨h0, h1, h2, h3, h4, h5, h6, h7, h8, h9, h10, e⟩ | ⟨h0, h1, h2, h3, h4, h5, h6, h7, h8, h9, h10, h11, e⟩ | ⟨h0, h1, h2, h3, h4, h5, h6, h7, h8, h9, h10, h11, e⟩
  all_goals
    rw [e] at hcon
    go_enter Tryd.func51, Tryd.ntmps51
    go_wp2_with fail
    refine (hcon.out _).mono ?_; rintro e w1 ⟨vf, vt, rfl, h1, h2, f1, f2, hd, b1⟩
    obtain ⟨af, cf, rfl, hlf, hmf⟩ := h1.shape
    obtain ⟨at', ct, rfl, hlt', hmt⟩ := h2.shape
    have b2 : Below w1.heap.size w1 (w1.alloc (.cells #[.int .i64 n, .slice af lf.length cf, .slice at' lt.length ct] 26)) := (Below.refl _ w1).alloc (Nat.le_refl _) _
    have hbw := HB0.out.trans (b1.mono HB0.out.size)
    have hbb := below_call hbw b2 hbw.size
    have hR1 := (HR0.out.below b1).below b2
    have hr1 : Res3 _ w.heap.size 26 := ⟨_, _, _, hR1⟩
    obtain ⟨x0, x1, x2, q0, q1, q2, t0, t1, t2⟩ := hr1.open_
    have hsz : w.heap.size + 1 ≤ w1.heap.size := by have := b1.size; simpa using this
    simp only [World.size_alloc] at f1 f2
    have hne1 : ∀ q, blk (.slice af lf.length cf) = some q → q ≠ w.heap.size := fun q hq => by have := f1 q hq; omega
    have hne2 : ∀ q, blk (.slice at' lt.length ct) = some q → q ≠ w.heap.size := fun q hq => by have := f2 q hq; omega
    have HX := Lib.hid (And.intro (hr1.blk_set (.int .i64 n) (.slice af lf.length cf) (.slice at' lt.length ct))
      (And.intro (set3_ints (h1.below b2) hne1 (.int .i64 n) (.slice af lf.length cf) (.slice at' lt.length ct))
      (And.intro (set3_ints (h2.below b2) hne2 (.int .i64 n) (.slice af lf.length cf) (.slice at' lt.length ct))
      (set3_below hbb (b := w.heap.size) (Nat.le_refl _) (.int .i64 n) (.slice af lf.length cf) (.slice at' lt.length ct)))))
    have HF := Lib.hid (And.intro (f1.mono (show w.heap.size ≤ w.heap.size + 1 by omega)) (And.intro (f2.mono (show w.heap.size ≤ w.heap.size + 1 by omega)) hd))
    clear hbw hbb hR1 hr1 hne1 hne2 b1 b2 h1 h2 f1 f2 hd
    unfold set3 at HX
    go_wp2
    refine bodyPost_ret (v := .tuple #[.agg #[.int .i64 n, .slice af lf.length cf, .slice at' lt.length ct], .bool ok]) (by simp [results, Tryd.results51, go_sem, HX.out.1.cell 0, HX.out.1.cell 1, HX.out.1.cell 2]) rfl ?_
    exact ⟨_, _, rfl, HX.out.2.1, HX.out.2.2.1, HF.out.1, HF.out.2.1, HF.out.2.2, HX.out.2.2.2⟩
end Go.Proofs.YtndooeffjkofdaaDoor
