/- NamedQuiver: the texts by name, and the walks (the program's map, the reference's switch). -/
import Derived.Test.YtndooeffjkofdaaDoorPqS
import Derived.StringKeys
import Derived.Maps.Own
import Derived.Maps.Views
namespace Go.Proofs.YtndooeffjkofdaaDoor
open Go.RowKit Go.Maps
open Go.WideMaps (keyOf_string_mk)
set_option linter.unusedVariables false
set_option linter.unusedSimpArgs false

/-- the names and their texts -/
def namP : List (List UInt8 × List UInt8) := [([65, 49], [49, 58]), ([65, 50], [50, 58, 32, 48, 49]), ([65, 51], [51, 58, 32, 48, 49, 32, 49, 50]), ([65, 51, 105, 110], [51, 58, 32, 48, 49, 32, 50, 49]), ([65, 52], [52, 58, 32, 48, 49, 32, 49, 50, 32, 50, 51]), ([68, 52], [52, 58, 32, 48, 51, 32, 49, 51, 32, 50, 51]), ([68, 53], [53, 58, 32, 48, 50, 32, 49, 50, 32, 50, 51, 32, 51, 52]), ([75, 50], [50, 58, 32, 48, 49, 32, 48, 49]), ([115, 116, 97, 114, 52], [53, 58, 32, 48, 52, 32, 49, 52, 32, 50, 52, 32, 51, 52]), ([115, 113, 117, 97, 114, 101], [52, 58, 32, 48, 49, 32, 48, 50, 32, 49, 51, 32, 50, 51]), ([108, 111, 111, 112], [49, 58, 32, 48, 48]), ([99, 105, 114, 99, 108, 101], [51, 58, 32, 48, 49, 32, 49, 50, 32, 50, 48])]
def namL (l : List UInt8) : List UInt8 := ((namP.find? fun p => p.1 == l).map (·.2)).getD []
def namT (s : ByteArray) : ByteArray := ⟨(namL s.data.toList).toArray⟩
theorem namL_len (l : List UInt8) : (namL l).length ≤ 20 := by
  unfold namL
  cases h : namP.find? fun p => p.1 == l with
  | none => simp
  | some p =>
    have hm := List.mem_of_find?_eq_some h
    have : ∀ q ∈ namP, q.2.length ≤ 20 := by decide
    exact this p hm
theorem namT_size (s : ByteArray) : (namT s).size ≤ 1048576 := by
  have h := namL_len s.data.toList
  have : (namT s).size = (namL s.data.toList).length := by show (namL s.data.toList).toArray.size = _; simp
  omega
/-- the map as the program lays it -/
def namD : DataW Unit := (((((((((((((DataW.map [] : DataW Unit)).put (.string [65, 49]) (.lit (.string [49, 58]))).put (.string [65, 50]) (.lit (.string [50, 58, 32, 48, 49]))).put (.string [65, 51]) (.lit (.string [51, 58, 32, 48, 49, 32, 49, 50]))).put (.string [65, 51, 105, 110]) (.lit (.string [51, 58, 32, 48, 49, 32, 50, 49]))).put (.string [65, 52]) (.lit (.string [52, 58, 32, 48, 49, 32, 49, 50, 32, 50, 51]))).put (.string [68, 52]) (.lit (.string [52, 58, 32, 48, 51, 32, 49, 51, 32, 50, 51]))).put (.string [68, 53]) (.lit (.string [53, 58, 32, 48, 50, 32, 49, 50, 32, 50, 51, 32, 51, 52]))).put (.string [75, 50]) (.lit (.string [50, 58, 32, 48, 49, 32, 48, 49]))).put (.string [115, 116, 97, 114, 52]) (.lit (.string [53, 58, 32, 48, 52, 32, 49, 52, 32, 50, 52, 32, 51, 52]))).put (.string [115, 113, 117, 97, 114, 101]) (.lit (.string [52, 58, 32, 48, 49, 32, 48, 50, 32, 49, 51, 32, 50, 51]))).put (.string [108, 111, 111, 112]) (.lit (.string [49, 58, 32, 48, 48]))).put (.string [99, 105, 114, 99, 108, 101]) (.lit (.string [51, 58, 32, 48, 49, 32, 49, 50, 32, 50, 48]))
theorem namD_at (l : List UInt8) : namD.atKey (.string l) (.lit (.string [])) = .lit (.string (namL l)) := by
  by_cases h0 : l = [65, 49]
  · subst h0; rfl
  by_cases h1 : l = [65, 50]
  · subst h1; rfl
  by_cases h2 : l = [65, 51]
  · subst h2; rfl
  by_cases h3 : l = [65, 51, 105, 110]
  · subst h3; rfl
  by_cases h4 : l = [65, 52]
  · subst h4; rfl
  by_cases h5 : l = [68, 52]
  · subst h5; rfl
  by_cases h6 : l = [68, 53]
  · subst h6; rfl
  by_cases h7 : l = [75, 50]
  · subst h7; rfl
  by_cases h8 : l = [115, 116, 97, 114, 52]
  · subst h8; rfl
  by_cases h9 : l = [115, 113, 117, 97, 114, 101]
  · subst h9; rfl
  by_cases h10 : l = [108, 111, 111, 112]
  · subst h10; rfl
  by_cases h11 : l = [99, 105, 114, 99, 108, 101]
  · subst h11; rfl
  have hn : namL l = [] := by
    have hf : (namP.find? fun p => p.1 == l) = none := by
      rw [List.find?_eq_none]
      intro p hp
      simp only [namP, List.mem_cons, List.not_mem_nil, or_false] at hp
      rcases hp with rfl | rfl | rfl | rfl | rfl | rfl | rfl | rfl | rfl | rfl | rfl | rfl
      · simpa using fun e => h0 e.symm
      · simpa using fun e => h1 e.symm
      · simpa using fun e => h2 e.symm
      · simpa using fun e => h3 e.symm
      · simpa using fun e => h4 e.symm
      · simpa using fun e => h5 e.symm
      · simpa using fun e => h6 e.symm
      · simpa using fun e => h7 e.symm
      · simpa using fun e => h8 e.symm
      · simpa using fun e => h9 e.symm
      · simpa using fun e => h10 e.symm
      · simpa using fun e => h11 e.symm
    unfold namL; rw [hf]; rfl
  rw [hn]
  unfold namD
  rw [atKey_put_other (fun e => h11 (by simpa using e))]
  rw [atKey_put_other (fun e => h10 (by simpa using e))]
  rw [atKey_put_other (fun e => h9 (by simpa using e))]
  rw [atKey_put_other (fun e => h8 (by simpa using e))]
  rw [atKey_put_other (fun e => h7 (by simpa using e))]
  rw [atKey_put_other (fun e => h6 (by simpa using e))]
  rw [atKey_put_other (fun e => h5 (by simpa using e))]
  rw [atKey_put_other (fun e => h4 (by simpa using e))]
  rw [atKey_put_other (fun e => h3 (by simpa using e))]
  rw [atKey_put_other (fun e => h2 (by simpa using e))]
  rw [atKey_put_other (fun e => h1 (by simpa using e))]
  rw [atKey_put_other (fun e => h0 (by simpa using e))]
  rfl
theorem plain_string {P : Program} {e : TypeId} (he : P.underlying e = some .string) {v : Value} {l : List UInt8} {ps : List MemPlace} (h : plainElem (H := Unit) P e v = some (.lit (.string l), ps)) : v = .string ⟨l.toArray⟩ := by
  unfold plainElem at h
  rw [he] at h
  cases v <;> simp at h
  rename_i t
  obtain ⟨_, h1, _⟩ := h
  cases t; simp at h1; rw [← h1]
theorem zero_string (w : World) : (zeroValue 9).run Tryd.prog w = .ok (.string ⟨#[]⟩) w := by kernel_rfl
end Go.Proofs.YtndooeffjkofdaaDoor
