/- NamedQuiver: the texts by name, and the walks (the program's map, the reference's switch). -/
import Derived.Test.YtdmjikfjmimfmaaDoorPqS
import Derived.StringKeys
import Derived.Maps.Own
import Derived.Maps.Views
namespace Go.Proofs.YtdmjikfjmimfmaaDoor
open Go.RowKit Go.Maps
open Go.WideMaps (keyOf_string_mk)
set_option linter.unusedVariables false
set_option linter.unusedSimpArgs false

/-- the names and their texts -/
def namP : List (List UInt8 × List UInt8) := [([65, 49], [49, 58]), ([65, 50], [50, 58, 32, 48, 49]), ([65, 51], [51, 58, 32, 48, 49, 32, 49, 50]), ([65, 51, 105, 110], [51, 58, 32, 48, 49, 32, 50, 49]), ([65, 52], [52, 58, 32, 48, 49, 32, 49, 50, 32, 50, 51]), ([68, 52], [52, 58, 32, 48, 51, 32, 49, 51, 32, 50, 51]), ([68, 53], [53, 58, 32, 48, 50, 32, 49, 50, 32, 50, 51, 32, 51, 52]), ([75, 50], [50, 58, 32, 48, 49, 32, 48, 49]), ([115, 116, 97, 114, 52], [53, 58, 32, 48, 52, 32, 49, 52, 32, 50, 52, 32, 51, 52]), ([115, 113, 117, 97, 114, 101], [52, 58, 32, 48, 49, 32, 48, 50, 32, 49, 51, 32, 50, 51]), ([108, 111, 111, 112], [49, 58, 32, 48, 48]), ([99, 105, 114, 99, 108, 101], [51, 58, 32, 48, 49, 32, 49, 50, 32, 50, 48])]
def namL (l : List UInt8) : List UInt8 := ((namP.find? fun p => p.1 == l).map (·.2)).getD []
def namT (s : ByteArray) : ByteArray := ⟨(namL s.data.toList).toArray⟩
theorem namL_len (l : List UInt8) : (namL l).length ≤ 20 := by
  unfold namL
  cases h : namP.find? fun p => p.1 == l with
  | none => simp
  | some p =>
    have hm := List.mem_of_find?_eq_some h
    have : ∀ q ∈ namP, q.2.length ≤ 20 := by decide
    exact this p hm
theorem namT_size (s : ByteArray) : (namT s).size ≤ 1048576 := by
  have h := namL_len s.data.toList
  have : (namT s).size = (namL s.data.toList).length := by show (namL s.data.toList).toArray.size = _; simp
  omega
/-- the map as the program lays it -/
def namD : DataW Unit := (((((((((((((DataW.map [] : DataW Unit)).put (.string [65, 49]) (.lit (.string [49, 58]))).put (.string [65, 50]) (.lit (.string [50, 58, 32, 48, 49]))).put (.string [65, 51]) (.lit (.string [51, 58, 32, 48, 49, 32, 49, 50]))).put (.string [65, 51, 105, 110]) (.lit (.string [51, 58, 32, 48, 49, 32, 50, 49]))).put (.string [65, 52]) (.lit (.string [52, 58, 32, 48, 49, 32, 49, 50, 32, 50, 51]))).put (.string [68, 52]) (.lit (.string [52, 58, 32, 48, 51, 32, 49, 51, 32, 50, 51]))).put (.string [68, 53]) (.lit (.string [53, 58, 32, 48, 50, 32, 49, 50, 32, 50, 51, 32, 51, 52]))).put (.string [75, 50]) (.lit (.string [50, 58, 32, 48, 49, 32, 48, 49]))).put (.string [115, 116, 97, 114, 52]) (.lit (.string [53, 58, 32, 48, 52, 32, 49, 52, 32, 50, 52, 32, 51, 52]))).put (.string [115, 113, 117, 97, 114, 101]) (.lit (.string [52, 58, 32, 48, 49, 32, 48, 50, 32, 49, 51, 32, 50, 51]))).put (.string [108, 111, 111, 112]) (.lit (.string [49, 58, 32, 48, 48]))).put (.string [99, 105, 114, 99, 108, 101]) (.lit (.string [51, 58, 32, 48, 49, 32, 49, 50, 32, 50, 48]))
theorem namD_at (l : List UInt8) : namD.atKey (.string l) (.lit (.string [])) = .lit (.string (namL l)) := by
  by_cases h0 : l = [65, 49]
  · subst h0; rfl
  by_cases h1 : l = [65, 50]
  · subst h1; rfl
  by_cases h2 : l = [65, 51]
  · subst h2; rfl
  by_cases h3 : l = [65, 51, 105, 110]
  · subst h3; rfl
  by_cases h4 : l = [65, 52]
  · subst h4; rfl
  by_cases h5 : l = [68, 52]
  · subst h5; rfl
  by_cases h6 : l = [68, 53]
  · subst h6; rfl
  by_cases h7 : l = [75, 50]
  · subst h7; rfl
  by_cases h8 : l = [115, 116, 97, 114, 52]
  · subst h8; rfl
  by_cases h9 : l = [115, 113, 117, 97, 114, 101]
  · subst h9; rfl
  by_cases h10 : l = [108, 111, 111, 112]
  · subst h10; rfl
  by_cases h11 : l = [99, 105, 114, 99, 108, 101]
  · subst h11; rfl
  have hn : namL l = [] := by
    have hf : (namP.find? fun p => p.1 == l) = none := by
      rw [List.find?_eq_none]
      intro p hp
      simp only [namP, List.mem_cons, List.not_mem_nil, or_false] at hp
      rcases hp with rfl | rfl | rfl | rfl | rfl | rfl | rfl | rfl | rfl | rfl | rfl | rfl
      · simpa using fun e => h0 e.symm
      · simpa using fun e => h1 e.symm
      · simpa using fun e => h2 e.symm
      · simpa using fun e => h3 e.symm
      · simpa using fun e => h4 e.symm
      · simpa using fun e => h5 e.symm
      · simpa using fun e => h6 e.symm
      · simpa using fun e => h7 e.symm
      · simpa using fun e => h8 e.symm
      · simpa using fun e => h9 e.symm
      · simpa using fun e => h10 e.symm
      · simpa using fun e => h11 e.symm
    unfold namL; rw [hf]; rfl
  rw [hn]
  unfold namD
  rw [atKey_put_other (fun e => h11 (by simpa using e))]
  rw [atKey_put_other (fun e => h10 (by simpa using e))]
  rw [atKey_put_other (fun e => h9 (by simpa using e))]
  rw [atKey_put_other (fun e => h8 (by simpa using e))]
  rw [atKey_put_other (fun e => h7 (by simpa using e))]
  rw [atKey_put_other (fun e => h6 (by simpa using e))]
  rw [atKey_put_other (fun e => h5 (by simpa using e))]
  rw [atKey_put_other (fun e => h4 (by simpa using e))]
  rw [atKey_put_other (fun e => h3 (by simpa using e))]
  rw [atKey_put_other (fun e => h2 (by simpa using e))]
  rw [atKey_put_other (fun e => h1 (by simpa using e))]
  rw [atKey_put_other (fun e => h0 (by simpa using e))]
  rfl
theorem plain_string {P : Program} {e : TypeId} (he : P.underlying e = some .string) {v : Value} {l : List UInt8} {ps : List MemPlace} (h : plainElem (H := Unit) P e v = some (.lit (.string l), ps)) : v = .string ⟨l.toArray⟩ := by
  unfold plainElem at h
  rw [he] at h
  cases v <;> simp at h
  rename_i t
  obtain ⟨_, h1, _⟩ := h
  cases t; simp at h1; rw [← h1]
theorem zero_string (w : World) : (zeroValue 9).run Tryd.prog w = .ok (.string ⟨#[]⟩) w := by kernel_rfl
set_option maxRecDepth 100000 in
set_option maxHeartbeats 1000000 in
theorem i_NamedQuiver (s : ByteArray) (w : World) (hs : s.size ≤ maxLen) (hp : PowTab w) :
    Calls Tryd.prog 29 #[.string s] w (QuivOK (parN (namT s)) (parF (namT s)) (parT (namT s)) (parB (namT s)) w) := by
  have HPT := Lib.hid hp
  clear hp
  have hb0 : Below w.heap.size w (w.alloc (.cells #[.int .i64 0, .slice none 0 0, .slice none 0 0] 30)) := (Below.refl _ w).alloc (Nat.le_refl _) _
  have HR0 := Lib.hid (Blk.new w #[.int .i64 0, .slice none 0 0, .slice none 0 0] 30)
  obtain ⟨W0, hW0⟩ : ∃ W0, W0 = w.alloc (.cells #[.int .i64 0, .slice none 0 0, .slice none 0 0] 30) := ⟨_, rfl⟩
  have hsz0 : W0.heap.size = w.heap.size + 1 := by rw [hW0]; simp
  rw [← hW0] at hb0 HR0
  have c0 : Below W0.heap.size W0 (W0.alloc (.map #[] 0)) := (Below.refl _ W0).alloc (Nat.le_refl _) _
  have o0 := World.ownsMap_made (H := Unit) W0 Tryd.prog 9 (plainElem Tryd.prog 9)
  obtain ⟨W1, r1, o1, g1⟩ := o0.update (string_keyed Tryd.underlying9) Tryd.underlying68 (by decide) (keyOf_string_mk Tryd.underlying9 (s := ⟨#[65, 49]⟩) (by decide)) (plainElem_string Tryd.underlying9 (s := ⟨#[49, 58]⟩) (by decide))
  have c1 : Below W0.heap.size W0 W1 := c0.grown g1 c0.size (fun k hk => by cases hk; exact Nat.le_refl _)
  obtain ⟨W2, r2, o2, g2⟩ := o1.update (string_keyed Tryd.underlying9) Tryd.underlying68 (by decide) (keyOf_string_mk Tryd.underlying9 (s := ⟨#[65, 50]⟩) (by decide)) (plainElem_string Tryd.underlying9 (s := ⟨#[50, 58, 32, 48, 49]⟩) (by decide))
  have c2 : Below W0.heap.size W0 W2 := c1.grown g2 c1.size (fun k hk => by cases hk; exact Nat.le_refl _)
  obtain ⟨W3, r3, o3, g3⟩ := o2.update (string_keyed Tryd.underlying9) Tryd.underlying68 (by decide) (keyOf_string_mk Tryd.underlying9 (s := ⟨#[65, 51]⟩) (by decide)) (plainElem_string Tryd.underlying9 (s := ⟨#[51, 58, 32, 48, 49, 32, 49, 50]⟩) (by decide))
  have c3 : Below W0.heap.size W0 W3 := c2.grown g3 c2.size (fun k hk => by cases hk; exact Nat.le_refl _)
  obtain ⟨W4, r4, o4, g4⟩ := o3.update (string_keyed Tryd.underlying9) Tryd.underlying68 (by decide) (keyOf_string_mk Tryd.underlying9 (s := ⟨#[65, 51, 105, 110]⟩) (by decide)) (plainElem_string Tryd.underlying9 (s := ⟨#[51, 58, 32, 48, 49, 32, 50, 49]⟩) (by decide))
  have c4 : Below W0.heap.size W0 W4 := c3.grown g4 c3.size (fun k hk => by cases hk; exact Nat.le_refl _)
  obtain ⟨W5, r5, o5, g5⟩ := o4.update (string_keyed Tryd.underlying9) Tryd.underlying68 (by decide) (keyOf_string_mk Tryd.underlying9 (s := ⟨#[65, 52]⟩) (by decide)) (plainElem_string Tryd.underlying9 (s := ⟨#[52, 58, 32, 48, 49, 32, 49, 50, 32, 50, 51]⟩) (by decide))
  have c5 : Below W0.heap.size W0 W5 := c4.grown g5 c4.size (fun k hk => by cases hk; exact Nat.le_refl _)
  obtain ⟨W6, r6, o6, g6⟩ := o5.update (string_keyed Tryd.underlying9) Tryd.underlying68 (by decide) (keyOf_string_mk Tryd.underlying9 (s := ⟨#[68, 52]⟩) (by decide)) (plainElem_string Tryd.underlying9 (s := ⟨#[52, 58, 32, 48, 51, 32, 49, 51, 32, 50, 51]⟩) (by decide))
  have c6 : Below W0.heap.size W0 W6 := c5.grown g6 c5.size (fun k hk => by cases hk; exact Nat.le_refl _)
  obtain ⟨W7, r7, o7, g7⟩ := o6.update (string_keyed Tryd.underlying9) Tryd.underlying68 (by decide) (keyOf_string_mk Tryd.underlying9 (s := ⟨#[68, 53]⟩) (by decide)) (plainElem_string Tryd.underlying9 (s := ⟨#[53, 58, 32, 48, 50, 32, 49, 50, 32, 50, 51, 32, 51, 52]⟩) (by decide))
  have c7 : Below W0.heap.size W0 W7 := c6.grown g7 c6.size (fun k hk => by cases hk; exact Nat.le_refl _)
  obtain ⟨W8, r8, o8, g8⟩ := o7.update (string_keyed Tryd.underlying9) Tryd.underlying68 (by decide) (keyOf_string_mk Tryd.underlying9 (s := ⟨#[75, 50]⟩) (by decide)) (plainElem_string Tryd.underlying9 (s := ⟨#[50, 58, 32, 48, 49, 32, 48, 49]⟩) (by decide))
  have c8 : Below W0.heap.size W0 W8 := c7.grown g8 c7.size (fun k hk => by cases hk; exact Nat.le_refl _)
  obtain ⟨W9, r9, o9, g9⟩ := o8.update (string_keyed Tryd.underlying9) Tryd.underlying68 (by decide) (keyOf_string_mk Tryd.underlying9 (s := ⟨#[115, 116, 97, 114, 52]⟩) (by decide)) (plainElem_string Tryd.underlying9 (s := ⟨#[53, 58, 32, 48, 52, 32, 49, 52, 32, 50, 52, 32, 51, 52]⟩) (by decide))
  have c9 : Below W0.heap.size W0 W9 := c8.grown g9 c8.size (fun k hk => by cases hk; exact Nat.le_refl _)
  obtain ⟨W10, r10, o10, g10⟩ := o9.update (string_keyed Tryd.underlying9) Tryd.underlying68 (by decide) (keyOf_string_mk Tryd.underlying9 (s := ⟨#[115, 113, 117, 97, 114, 101]⟩) (by decide)) (plainElem_string Tryd.underlying9 (s := ⟨#[52, 58, 32, 48, 49, 32, 48, 50, 32, 49, 51, 32, 50, 51]⟩) (by decide))
  have c10 : Below W0.heap.size W0 W10 := c9.grown g10 c9.size (fun k hk => by cases hk; exact Nat.le_refl _)
  obtain ⟨W11, r11, o11, g11⟩ := o10.update (string_keyed Tryd.underlying9) Tryd.underlying68 (by decide) (keyOf_string_mk Tryd.underlying9 (s := ⟨#[108, 111, 111, 112]⟩) (by decide)) (plainElem_string Tryd.underlying9 (s := ⟨#[49, 58, 32, 48, 48]⟩) (by decide))
  have c11 : Below W0.heap.size W0 W11 := c10.grown g11 c10.size (fun k hk => by cases hk; exact Nat.le_refl _)
  obtain ⟨W12, r12, o12, g12⟩ := o11.update (string_keyed Tryd.underlying9) Tryd.underlying68 (by decide) (keyOf_string_mk Tryd.underlying9 (s := ⟨#[99, 105, 114, 99, 108, 101]⟩) (by decide)) (plainElem_string Tryd.underlying9 (s := ⟨#[51, 58, 32, 48, 49, 32, 49, 50, 32, 50, 48]⟩) (by decide))
  have c12 : Below W0.heap.size W0 W12 := c11.grown g12 c11.size (fun k hk => by cases hk; exact Nat.le_refl _)
  obtain ⟨v, ps, rl, hv⟩ := o12.lookup (string_keyed Tryd.underlying9) Tryd.underlying68 (zero_string W12) (plainElem_string Tryd.underlying9 (s := ⟨#[]⟩) (by decide)) (keyOf_string_mk Tryd.underlying9 (s := s) hs)
  have hat := namD_at s.data.toList
  have hv2 : plainElem (H := Unit) Tryd.prog 9 v = some (.lit (.string (namL s.data.toList)), ps) := by rw [← hat]; exact hv
  obtain rfl := plain_string Tryd.underlying9 hv2
  have hcon := i_ParseQuiver (namT s) W12 (HPT.out.below (hb0.trans (c12.mono hb0.size)))
  have HB := Lib.hid (hb0.trans (c12.mono hb0.size))
  have HR := Lib.hid (HR0.out.below c12)
  have hsz : w.heap.size + 1 ≤ W12.heap.size := by have := c12.size; omega
  have hmm := @run_makeMap Tryd.prog
  rw [hW0] at r1
  rw [hsz0] at r2 r3 r4 r5 r6 r7 r8 r9 r10 r11 r12 rl
  simp only [World.size_alloc] at r1
  clear hat hv hv2 hb0 hsz0 hW0
  clear o0 c0 o1 c1 o2 c2 o3 c3 o4 c4 o5 c5 o6 c6 o7 c7 o8 c8 o9 c9 o10 c10 o11 c11 o12 c12 g1 g2 g3 g4 g5 g6 g7 g8 g9 g10 g11 g12
  unfold namT at hcon ⊢
  go_enter Tryd.func29, Tryd.ntmps29
  go_wp2_with fail
  refine hcon.mono ?_; rintro e w1 ⟨vf, vt, rfl, h1, h2, f1, f2, hd, b1⟩
  obtain ⟨af, cf, rfl, hlf, hmf⟩ := h1.shape
  obtain ⟨at', ct, rfl, hlt', hmt⟩ := h2.shape
  have hbb := HB.out.trans (b1.mono HB.out.size)
  have hR1 := HR.out.below b1
  have hr1 : Res3 w1 w.heap.size 30 := ⟨_, _, _, hR1⟩
  obtain ⟨x0, x1, x2, q0, q1, q2, t0, t1, t2⟩ := hr1.open_
  generalize parN ⟨(namL s.data.toList).toArray⟩ = n at *
  generalize parF ⟨(namL s.data.toList).toArray⟩ = lf at *
  generalize parT ⟨(namL s.data.toList).toArray⟩ = lt at *
  generalize parB ⟨(namL s.data.toList).toArray⟩ = ok at *
  have hne1 : ∀ q, blk (.slice af lf.length cf) = some q → q ≠ w.heap.size := fun q hq => by have := f1 q hq; omega
  have hne2 : ∀ q, blk (.slice at' lt.length ct) = some q → q ≠ w.heap.size := fun q hq => by have := f2 q hq; omega
  have HX := Lib.hid (And.intro (hr1.blk_set (.int .i64 n) (.slice af lf.length cf) (.slice at' lt.length ct))
    (And.intro (set3_ints h1 hne1 (.int .i64 n) (.slice af lf.length cf) (.slice at' lt.length ct))
    (And.intro (set3_ints h2 hne2 (.int .i64 n) (.slice af lf.length cf) (.slice at' lt.length ct))
    (set3_below hbb (b := w.heap.size) (Nat.le_refl _) (.int .i64 n) (.slice af lf.length cf) (.slice at' lt.length ct)))))
  have HF := Lib.hid (And.intro (f1.mono (show w.heap.size ≤ W12.heap.size by omega)) (And.intro (f2.mono (show w.heap.size ≤ W12.heap.size by omega)) hd))
  clear hbb hR1 hr1 hne1 hne2 b1 h1 h2 f1 f2 hd
  unfold set3 at HX
  go_wp2
  refine bodyPost_ret (v := .tuple #[.agg #[.int .i64 n, .slice af lf.length cf, .slice at' lt.length ct], .bool ok]) (by simp [results, Tryd.results29, go_sem, HX.out.1.cell 0, HX.out.1.cell 1, HX.out.1.cell 2]) rfl ?_
  exact ⟨_, _, rfl, HX.out.2.1, HX.out.2.2.1, HF.out.1, HF.out.2.1, HF.out.2.2, HX.out.2.2.2⟩
end Go.Proofs.YtdmjikfjmimfmaaDoor
