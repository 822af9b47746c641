/- EncodeVarint, of the program and of the reference: both give the same bytes, the low seven bits first. -/
import Derived.Test.YthempdleolefnaaDoorOwn
import Derived.Test.YthempdleolefnaaDoorRange
namespace Go.Proofs.YthempdleolefnaaDoor
open Go.RowKit
set_option linter.unusedVariables false
set_option linter.unusedSimpArgs false

/-- the bytes of a number, seven bits each, with a bound on their count -/
def viF : Nat → Int → List Int
  | 0, m => [m]
  | f + 1, m => if m < 128 then [m] else (m % 128 + 128) :: viF f (m / 128)
theorem viF_small (f : Nat) {m : Int} (h : m < 128) : viF f m = [m] := by cases f <;> simp [viF, h]
theorem viF_big (f : Nat) {m : Int} (h : ¬ m < 128) : viF (f + 1) m = (m % 128 + 128) :: viF f (m / 128) := by simp [viF, h]

/-- what a round of the loop keeps -/
def ViRel (n : Int) (L : List Int) (m : Int) : Prop := ∃ f : Nat, f ≤ 7 ∧ 0 ≤ m ∧ m < 128 ^ f ∧ m ≤ 562949953421311 ∧ L.length = 7 - f ∧ L ++ viF f m = viF 7 n
theorem ViRel.start {n : Int} (h0 : 0 ≤ n) (h : n ≤ 562949953421311) : ViRel n [] n := ⟨7, by omega, h0, by simp; omega, h, rfl, rfl⟩
theorem ViRel.bd {n m : Int} {L : List Int} (h : ViRel n L m) : 0 ≤ m ∧ m ≤ 562949953421311 ∧ L.length ≤ 7 := by
  obtain ⟨f, h1, h2, h3, h4, h5, h6⟩ := h; exact ⟨h2, h4, by omega⟩
theorem ViRel.step {n m : Int} {L : List Int} (h : ViRel n L m) (hm : 128 ≤ m) : ViRel n (L ++ [m % 128 + 128]) (m / 128) := by
  obtain ⟨f, h1, h2, h3, h4, h5, h6⟩ := h
  cases f with
  | zero => simp at h3; omega
  | succ f =>
    rw [viF_big f (by omega)] at h6
    refine ⟨f, by omega, by omega, ?_, by omega, by simp; omega, by simpa using h6⟩
    rw [Int.pow_succ] at h3
    omega
theorem ViRel.last {n m : Int} {L : List Int} (h : ViRel n L m) (hm : m < 128) : L ++ [m] = viF 7 n := by
  obtain ⟨f, h1, h2, h3, h4, h5, h6⟩ := h
  rw [viF_small f hm] at h6; exact h6

/-- the text of a number -/
def viS (n : Int) : ByteArray := if inR n 0 562949953421311 = true then strOfNums (viF 7 n) else ⟨#[]⟩

def VarAns (n : Int) (w : World) (e : Ending) (w' : World) : Prop := e = .returned (.string (viS n)) ∧ Below w.heap.size w w'

theorem or128 {m : Int} (h : 0 ≤ m) : bits BinOp.or IntKind.i64 (m % 128) 128 = m % 128 + 128 := by
  obtain ⟨a, ha⟩ := Int.eq_ofNat_of_zero_le (show 0 ≤ m % 128 by omega)
  have h2 : a < 128 := by omega
  rw [ha]
  have := i64_or_nat a 128 (by omega) (by omega)
  rw [show ((128 : Nat) : Int) = 128 from rfl] at this
  rw [this]
  have e : a ||| 128 = a + 128 := by
    have h := Nat.two_pow_add_eq_or_of_lt (i := 7) (b := a) (by omega) 1
    rw [Nat.or_comm]; simp at h; omega
  rw [e]; simp
set_option maxRecDepth 100000 in
set_option maxHeartbeats 1000000 in
theorem i_EncodeVarint (n : Int) (w : World) :
    Calls Tryd.prog 16 #[.int .i64 n] w (VarAns n w) := by
  by_cases hin : inR n 0 562949953421311 = true
  · obtain ⟨h0, h1⟩ := inR_true hin
    have hv := Lib.hid (show viS n = strOfNums (viF 7 n) from if_pos hin)
    obtain ⟨B, hB⟩ : ∃ B, B = w.heap.size := ⟨_, rfl⟩
    have HB := Lib.hid hB
    have hB1 : B ≤ w.heap.size := by omega
    have hst := ViRel.start h0 h1
    clear hB
    go_enter Tryd.func16, Tryd.ntmps16
    go_wp2_with fail
    refine (i_within _ _ _ _).mono ?_; rintro e w' ⟨rfl, rfl⟩
    go_wp2
    go_loopw [0, 3] (fun n' v wr => ∃ m L, n' = .int .i64 m ∧ ViRel n L m ∧ Own wr B 5 .u8 v L ∧ Below B w wr ∧ B ≤ wr.heap.size) (fun n' _ _ => (intOf n').toNat)
    case atStart => exact ⟨n, [], rfl, hst, Own.nil _ _ _ _, Below.refl _ _, hB1⟩
    case round =>
      obtain ⟨m, L, rfl, hrel, hown, hbel, hBr⟩ := hrel
      obtain ⟨hm0, hm1, hL⟩ := hrel.bd
      by_cases hlt : m < 128
      · have hlast := Lib.hid (hrel.last hlt)
        go_wp2_with (at_builtin; refine app_byte w wr rfl (.tmp 18) (.tmp 21) rfl B _ L rfl rfl hown hbel hBr (by omega) ?_)
        intro v' w1 hown1 hbel1 _
        have ht := text_of_bytes hown1
        go_wp2
        go_ret
        exact ⟨ret_str (by rw [hv.out, hlast.out]), hbel1.mono (by rw [HB.out]; exact Nat.le_refl _)⟩
      · have hstep := hrel.step (by omega)
        have ho : bits BinOp.or IntKind.i64 (bits BinOp.and IntKind.i64 m 127) 128 = m % 128 + 128 := by rw [i64_and127]; exact or128 (by omega)
        go_wp2_with (at_builtin; refine app_byte w wr rfl (.tmp 9) (.tmp 14) rfl B _ L rfl rfl hown hbel hBr (by omega) ?_)
        intro v' w1 hown1 hbel1 hB2
        go_wp2
        go_roundw
        case rel => exact ⟨m / 128, _, by go_num, hstep, hown1, hbel1, hB2⟩
        case measure => simp [intOf]; omega
  · have hin : inR n 0 562949953421311 = false := by simpa using hin
    have hv := Lib.hid (show viS n = ⟨#[]⟩ from if_neg (by simp [hin]))
    go_enter Tryd.func16, Tryd.ntmps16
    go_wp2_with fail
    refine (i_within _ _ _ _).mono ?_; rintro e w' ⟨rfl, rfl⟩
    go_wp2
    go_ret
    exact ⟨ret_str hv.out.symm, Below.refl _ _⟩


end Go.Proofs.YthempdleolefnaaDoor
