/- FnIntegerEncodings: what is drawn, and the law's walk. -/
import Derived.Test.YthempdleolefnaaDoorIntsL
import Derived.Test.YthempdleolefnaaDoorDecV
import Derived.Test.YthempdleolefnaaDoorPi
import Derived.Test.YthempdleolefnaaDoorCurN
namespace Go.Proofs.YthempdleolefnaaDoor
open Go.RowKit
set_option linter.unusedVariables false
set_option linter.unusedSimpArgs false

def DrI (w : World) (e : Ending) (w' : World) : Prop := ∃ r, AnyI r ∧ e = .returned (.int .i64 r) ∧ Below w.heap.size w w'
def DrS (w : World) (e : Ending) (w' : World) : Prop := ∃ s : ByteArray, s.size ≤ 40 ∧ e = .returned (.string s) ∧ Below w.heap.size w w'
def DrII (w : World) (e : Ending) (w' : World) : Prop := ∃ r q, AnyI r ∧ AnyI q ∧ e = .returned (.tuple #[.int .i64 r, .int .i64 q]) ∧ Below w.heap.size w w'
theorem new_chg {w w1 w2 : World} {c : Nat} (hc : w.heap.size ≤ c) (b : Below w.heap.size w w1) (g : CChg c w1 w2) : Below w.heap.size w w2 := b.trans (g.below b.size hc)

theorem b1_size {w w1 w2 : World} {c : Nat} (b : Below w.heap.size w w1) (g : CChg c w1 w2) : w.heap.size ≤ w2.heap.size := Nat.le_trans b.size g.size
set_option maxRecDepth 100000 in
set_option maxHeartbeats 400000 in
theorem s_DrawEncodeVarint (v : Value) (n : Nat) (w : World) (hv : Byt w v n w.heap.size) (hn : n ≤ 1048576) :
    Calls Tryd.prog 14 #[v] w (DrI w) := by
  go_enter Tryd.func14, Tryd.ntmps14
  go_wp2_with fail
  refine (s_l1New v n _ hv hn).mono ?_; rintro e w1 ⟨c, rfl, hcw, hc1, b1⟩
  have H1 := Lib.hid (And.intro hc1 b1)
  clear hc1 b1
  go_wp2_with fail
  refine (s_l1Num c _ H1.out.1).mono ?_; rintro e w2 ⟨r, hr, rfl, hc2, g2⟩
  have H2 := Lib.hid (And.intro hr (new_chg hcw H1.out.2 g2))
  clear hr hc2 g2
  go_wp2
  go_ret
  exact ⟨r, H2.out.1, rfl, H2.out.2⟩
set_option maxRecDepth 100000 in
set_option maxHeartbeats 400000 in
theorem s_DrawEncodeHex (v : Value) (n : Nat) (w : World) (hv : Byt w v n w.heap.size) (hn : n ≤ 1048576) :
    Calls Tryd.prog 15 #[v] w (DrS w) := by
  go_enter Tryd.func15, Tryd.ntmps15
  go_wp2_with fail
  refine (s_l1New v n _ hv hn).mono ?_; rintro e w1 ⟨c, rfl, hcw, hc1, b1⟩
  have H1 := Lib.hid (And.intro hc1 b1)
  clear hc1 b1
  go_wp2_with fail
  refine (s_l1Text c 40 (by omega) _ H1.out.1).mono ?_; rintro e w2 ⟨s, hs, rfl, hc2, g2⟩
  have H2 := Lib.hid (And.intro hs (new_chg hcw H1.out.2 g2))
  clear hs hc2 g2
  go_wp2
  go_ret
  exact ⟨s, H2.out.1, rfl, H2.out.2⟩
set_option maxRecDepth 100000 in
set_option maxHeartbeats 400000 in
theorem s_DrawEncodeFixed (v : Value) (n : Nat) (w : World) (hv : Byt w v n w.heap.size) (hn : n ≤ 1048576) :
    Calls Tryd.prog 18 #[v] w (DrII w) := by
  go_enter Tryd.func18, Tryd.ntmps18
  go_wp2_with fail
  refine (s_l1New v n _ hv hn).mono ?_; rintro e w1 ⟨c, rfl, hcw, hc1, b1⟩
  have H1 := Lib.hid (And.intro hc1 b1)
  clear hc1 b1
  go_wp2_with fail
  refine (s_l1Num c _ H1.out.1).mono ?_; rintro e w2 ⟨r, hr, rfl, hc2, g2⟩
  have H2 := Lib.hid (And.intro hr (And.intro hc2 (new_chg hcw H1.out.2 g2)))
  have hs2 := b1_size H1.out.2 g2
  clear hr hc2 g2
  go_wp2_with fail
  refine (s_l1Below c _ _ H2.out.2.1).mono ?_; rintro e w3 ⟨q, hq, rfl, hc3, g3⟩
  obtain ⟨q0, q1⟩ : 0 ≤ q ∧ q < 10 := by rcases hq with h | h <;> omega
  have H3 := Lib.hid (H2.out.2.2.trans (g3.below hs2 hcw))
  clear hq hc3 g3
  go_wp2
  go_ret2
  exact ⟨r, q - 1, H2.out.1, ⟨by omega, by omega⟩, rfl, H3.out⟩

set_option maxRecDepth 100000 in
set_option maxHeartbeats 400000 in
theorem l_big (v : Value) (n b : Nat) (w : World) (hv : Byt w v n b) :
    Calls Tryd.prog 13 #[v] w fun e w' => e = .returned (.bool (decide ((1048576 : Int) < (n : Int)))) ∧ w = w' := by
  obtain ⟨a, cap, rfl, h1, h2, h3⟩ := hv
  unfold maxLen at h2
  clear h3
  go_enter Tryd.func13, Tryd.ntmps13
  go_wp2
  go_ret
  exact ⟨rfl, rfl⟩

/-- DecodeFixed, whatever it is given: some number and word; and what it gives behind a code -/
def DfAny (s : ByteArray) (width : Int) (w : World) (e : Ending) (w' : World) : Prop :=
  ∃ (y : Int) (b : Bool), e = .returned (.tuple #[.int .i64 y, .bool b]) ∧ ((inR width 1 7 = true ∧ width ≤ s.size) → b = true ∧ y = beN (s.data.toList.take width.toNat)) ∧ w = w'
theorem i_DecodeFixed_any (s : ByteArray) (width : Int) (w : World) (hs : s.size ≤ 9223372036854775807) :
    Calls Tryd.prog 20 #[.string s, .int .i64 width] w (DfAny s width w) := by
  by_cases h : inR width 1 7 = true ∧ width ≤ s.size
  · obtain ⟨h1, h7⟩ := inR_true h.1
    obtain ⟨k, rfl⟩ := Int.eq_ofNat_of_zero_le (show 0 ≤ width by omega)
    refine (i_DecodeFixed_yes s k w hs (by omega) (by omega) (by omega)).mono ?_
    rintro e w' ⟨rfl, rfl⟩
    exact ⟨_, true, rfl, fun _ => ⟨rfl, rfl⟩, rfl⟩
  · refine (i_DecodeFixed_no s width w ?_).mono ?_
    · by_cases h1 : inR width 1 7 = true
      · right
        rcases Int.lt_or_le (s.size : Int) width with h2 | h2
        · exact h2
        · exact absurd ⟨h1, h2⟩ h
      · left; simpa using h1
    · rintro e w' ⟨rfl, rfl⟩
      exact ⟨0, false, rfl, fun h' => absurd h' h, rfl⟩

theorem fmS_size {d : Int} (h : AnyI d) : (fmS d).size ≤ 1048576 := by
  have := Lib.itoa_length_le d h.1 h.2
  have e : (fmS d).size = (Lib.itoa d).length := by unfold fmS; simp [ByteArray.size]
  omega
theorem i_EncodeHexAny (t : ByteArray) (w : World) (h : t.size ≤ 40) : Calls Tryd.prog 22 #[.string t] w fun e w' => e = .returned (.string (hxS t)) ∧ Below w.heap.size w w' := i_EncodeHex t w (by omega)
theorem str_ne {s : ByteArray} (h : 1 ≤ s.size) : (s.toList == []) = false ∧ s.toList.isEmpty = false ∧ (s.toList = []) = False ∧ (s.toList == (⟨#[]⟩ : ByteArray).toList) = false := by
  have hl : s.toList ≠ [] := by
    rw [ByteArray.toList_eq]; intro e
    have : s.data.toList.length = s.size := rfl
    rw [e] at this; simp at this; omega
  refine ⟨by simpa using hl, by simpa using hl, by simpa using hl, by rw [ByteArray.toList_eq ⟨#[]⟩]; simpa using hl⟩
set_option maxRecDepth 100000 in
set_option maxHeartbeats 40000000 in
theorem law_FnIntegerEncodings (v : Value) (n : Nat) (w : World) (hv : Byt w v n w.heap.size) (ht : PowTab w) (te1 te2 te0 : TypeId) (pe1 pe2 pe0 : Value) (h0 : w.cell? ⟨0, 0, none⟩ = some (.iface te0 pe0)) (h1 : w.cell? ⟨1, 0, none⟩ = some (.iface te1 pe1)) (h2 : w.cell? ⟨2, 0, none⟩ = some (.iface te2 pe2)) :
    Calls Tryd.prog 6 #[v] w fun e w' => e = .returned (.bool true) ∧ Below w.heap.size w w' := by
  have l0 : 0 < w.heap.size := World.block_lt_of_cell? w ⟨0, 0, none⟩ h0
  have l1 : 1 < w.heap.size := World.block_lt_of_cell? w ⟨1, 0, none⟩ h1
  have l2 : 2 < w.heap.size := World.block_lt_of_cell? w ⟨2, 0, none⟩ h2
  have HE := Lib.hid (And.intro ht (And.intro h0 (And.intro h1 (And.intro h2 hv))))
  clear ht h0 h1 h2 hv
  by_cases hbig : 1048576 < n
  · have hb := Lib.hid (show decide ((1048576 : Int) < (n : Int)) = true by simp; omega)
    go_enter Tryd.func6, Tryd.ntmps6
    go_wp2_with fail
    refine (l_big v n _ _ HE.out.2.2.2.2).mono ?_; rintro e wz ⟨rfl, rfl⟩
    rw [hb.out]
    go_wp2
    go_ret
    exact ⟨rfl, Below.refl _ _⟩
  · have hb := Lib.hid (show decide ((1048576 : Int) < (n : Int)) = false by simp; omega)
    go_enter Tryd.func6, Tryd.ntmps6
    go_wp2_with fail
    refine (l_big v n _ _ HE.out.2.2.2.2).mono ?_; rintro e wz ⟨rfl, rfl⟩
    rw [hb.out]
    go_wp2_with fail
    refine (s_DrawEncodeVarint v n _ HE.out.2.2.2.2 (by omega)).mono ?_; rintro e w1 ⟨m, ⟨m0, m1⟩, rfl, b1⟩
    have B1 := Lib.hid b1
    clear b1
    have hc2 := s_DrawEncodeHex v n w1 ((HE.out.2.2.2.2.below B1.out).mono B1.out.size) (by omega)
    go_wp2_with fail
    refine hc2.mono ?_; rintro e w2 ⟨tail, htl, rfl, b2⟩
    have B2 := Lib.hid (B1.out.trans (b2.mono B1.out.size))
    clear b2 hc2
    go_wp2_with fail
    refine (i_EncodeVarint m _).mono ?_; rintro e w3 ⟨rfl, b3⟩
    have B3 := Lib.hid (B2.out.trans (b3.mono B2.out.size))
    clear b3
    by_cases hin : 0 ≤ m ∧ m ≤ 562949953421311
    · obtain ⟨hin0, hin1⟩ := hin
      obtain ⟨_, s1, s7⟩ := viS_yes hin0 hin1
      obtain ⟨k1, k2⟩ := dec_enc hin0 hin1 tail
      have hcd := Lib.hid (fun wq => (show Calls Tryd.prog 17 #[.string (viS m ++ tail)] wq (fun e w' => e = .returned (.tuple #[.int .i64 m, .int .i64 (viS m).size]) ∧ Below wq.heap.size wq w') from (i_DecodeVarint (viS m ++ tail) wq (by simp; omega)).mono fun e w' h => ⟨by rw [h.1, k2, k1], h.2⟩))
      have had : ∀ (wx : World), (Op.stringOp .add (viS m) tail).run Tryd.prog wx = .ok (.string (viS m ++ tail)) wx := fun wx => run_string_add_sum _ _ _ (by omega)
      obtain ⟨n1, n2, n3, n4⟩ := str_ne s1
      generalize viS m = S at hcd had n1 n2 n3 n4 s1 s7 ⊢
      clear k1 k2
      go_wp2_with fail
      refine (hcd.out _).mono ?_; rintro e w4 ⟨rfl, b4⟩
      have B4 := Lib.hid (B3.out.trans (b4.mono B3.out.size))
      clear b4 hcd had
      have hc5 := s_DrawEncodeFixed v n w4 ((HE.out.2.2.2.2.below B4.out).mono B4.out.size) (by omega)
      go_wp2_with fail
      clear n1 n2 n3 n4 s1 s7
      refine hc5.mono ?_; rintro e w5 ⟨d, q, hd, hq, rfl, b5⟩
      have B5 := Lib.hid (B4.out.trans (b5.mono B4.out.size))
      clear b5 hc5
      go_wp2_with fail
      refine (i_EncodeFixed d q hd.2 _).mono ?_; rintro e w6 ⟨rfl, b6⟩
      have B6 := Lib.hid (B5.out.trans (b6.mono B5.out.size))
      clear b6
      by_cases hf : inR q 1 7 = true ∧ 0 ≤ d ∧ ¬ 0 < d / 2 ^ (8 * q.toNat)
      · obtain ⟨f1, f2⟩ := feS_sz hf
        obtain ⟨r1, r7⟩ := inR_true hf.1
        have hin7 := hf.1
        have hd0 := hf.2.1
        have had : ∀ (wx : World), (Op.stringOp .add (feS d q) tail).run Tryd.prog wx = .ok (.string (feS d q ++ tail)) wx := fun wx => run_string_add_sum _ _ _ (by omega)
        have hcd := Lib.hid (fun wq => (show Calls Tryd.prog 20 #[.string (feS d q ++ tail), .int .i64 q] wq (fun e w' => e = .returned (.tuple #[.int .i64 d, .bool true]) ∧ wq = w') from (i_DecodeFixed_any (feS d q ++ tail) q wq (by rw [ByteArray.size_append]; omega)).mono fun e w' ⟨y, b, he, hi, hw⟩ => by
          obtain ⟨h1, h2⟩ := hi ⟨hin7, by rw [ByteArray.size_append]; omega⟩
          rw [← f1, take_app, f2] at h2
          exact ⟨by rw [he, h1, h2, Int.toNat_of_nonneg hd0], hw⟩))
        have hcs := Lib.hid (fun wq => s_EncodeFixed d q hd.2 wq)
        unfold FixAns at hcs
        obtain ⟨n1, n2, n3, n4⟩ := str_ne (s := feS d q) (by omega)
        have hsz : (((feS d q).size : Int) != q) = false := by rw [f1]; simp; omega
        generalize feS d q = F at hcd had hcs hsz n1 n2 n3 n4 ⊢
        clear f1 f2 hf hin7
        go_wp2_with fail
        refine (hcd.out _).mono ?_; rintro e w7 ⟨rfl, rfl⟩
        clear had hcd
        go_wp2_with fail
        refine (hcs.out _).mono ?_; rintro e w8 ⟨rfl, b8⟩
        have B8 := Lib.hid (B6.out.trans (b8.mono B6.out.size))
        clear b8 hcs
        go_wp2_with fail
        clear n1 n2 n3 n4 hsz r1 r7
        have hc9 := Lib.hid (fun wq => i_EncodeHexAny tail wq htl)
        obtain ⟨x1, x2, x3⟩ := hx_back tail
        have hc10 := Lib.hid (fun wq (b : Below w.heap.size w wq) => (show Calls Tryd.prog 8 #[.string (hxS tail)] wq (fun e w' => e = .returned (.tuple #[.string tail, .bool true]) ∧ Below wq.heap.size wq w') from (i_DecodeHex (hxS tail) wq (by rw [x3]; omega) te0 pe0 ((b.cell (p := ⟨0, 0, none⟩) l0).trans HE.out.2.1)).mono fun e w' h => ⟨by rw [h.1, x1, x2], h.2⟩))
        have x4 : (((hxS tail).size : Int) == 2 * (tail.size : Int)) = true := by rw [x3]; simp
        generalize hxS tail = H at hc9 hc10 x4
        clear x1 x2 x3
        have hc11 := Lib.hid (fun wq (b : Below w.heap.size w wq) => i_FormatInt d hd.1 hd.2 wq (HE.out.1.below b))
        obtain ⟨p1, p2⟩ := pi_back d
        have hc12 := Lib.hid (fun wq (b : Below w.heap.size w wq) => i_ParseInt (fmS d) wq (fmS_size hd) (HE.out.1.below b) te1 te2 pe1 pe2 ((b.cell (p := ⟨1, 0, none⟩) l1).trans HE.out.2.2.1) ((b.cell (p := ⟨2, 0, none⟩) l2).trans HE.out.2.2.2.1))
        have hc13 := Lib.hid (fun wq => s_FormatInt d hd.1 hd.2 wq)
        have htt := str_beq' (rfl : tail = tail)
        by_cases hgood : okP (fmS d) = true
        · obtain ⟨g1, g2⟩ := p1.1 hgood
          have g3 := p2 hgood
          have hc12 := Lib.hid (fun wq b => (hc12.out wq b).mono fun e w' (h : PiAns _ _ e w') => (show e = .returned (.tuple #[.int .i64 d, .bool true]) ∧ Below wq.heap.size wq w' from ⟨by rw [h.1, g3, hgood], h.2⟩))
          unfold FmAns at hc11 hc13
          generalize fmS d = D at hc11 hc12 hc13
          have t1 : decide (-1000000000 < d) = true := by simp; omega
          have t2 : decide (d < 1000000000) = true := by simp; omega
          clear p1 p2 hgood g3
          go_wp2_with fail
          refine (hc9.out _).mono ?_; rintro e w9 ⟨rfl, b9⟩
          have B9 := Lib.hid (B8.out.trans (b9.mono B8.out.size))
          clear b9
          go_wp2_with fail
          refine (hc10.out _ B9.out).mono ?_; rintro e w10 ⟨rfl, b10⟩
          have B10 := Lib.hid (B9.out.trans (b10.mono B9.out.size))
          clear b10
          go_wp2_with fail
          refine (hc11.out _ B10.out).mono ?_; rintro e w11 ⟨rfl, b11⟩
          have B11 := Lib.hid (B10.out.trans (b11.mono B10.out.size))
          clear b11
          go_wp2_with fail
          refine (hc12.out _ B11.out).mono ?_; rintro e w12 ⟨rfl, b12⟩
          have B12 := Lib.hid (B11.out.trans (b12.mono B11.out.size))
          clear b12
          go_wp2_with fail
          refine (hc13.out _).mono ?_; rintro e w13 ⟨rfl, b13⟩
          have B13 := Lib.hid (B12.out.trans (b13.mono B12.out.size))
          clear b13
          go_wp2
          go_ret
          exact ⟨rfl, B13.out⟩
        · have hbad : okP (fmS d) = false := by simpa using hgood
          have hc12 := Lib.hid (fun wq b => (hc12.out wq b).mono fun e w' (h : PiAns _ _ e w') => (show e = .returned (.tuple #[.int .i64 (pvV (fmS d)), .bool false]) ∧ Below wq.heap.size wq w' from ⟨by rw [h.1, hbad], h.2⟩))
          have hnb : ¬ (-999999999 ≤ d ∧ d ≤ 999999999) := fun h => hgood (p1.2 h)
          generalize pvV (fmS d) = Z at hc12
          unfold FmAns at hc11 hc13
          generalize fmS d = D at hc11 hc12 hc13
          clear p1 p2 hgood hbad
          have hlo : (decide (-1000000000 < d) = false) ∨ (decide (-1000000000 < d) = true ∧ decide (d < 1000000000) = false) := by
            by_cases h : -1000000000 < d
            · right; exact ⟨by simpa using h, by simp; omega⟩
            · left; simpa using h
          clear hnb
          go_wp2_with fail
          refine (hc9.out _).mono ?_; rintro e w9 ⟨rfl, b9⟩
          have B9 := Lib.hid (B8.out.trans (b9.mono B8.out.size))
          clear b9
          go_wp2_with fail
          refine (hc10.out _ B9.out).mono ?_; rintro e w10 ⟨rfl, b10⟩
          have B10 := Lib.hid (B9.out.trans (b10.mono B9.out.size))
          clear b10
          go_wp2_with fail
          refine (hc11.out _ B10.out).mono ?_; rintro e w11 ⟨rfl, b11⟩
          have B11 := Lib.hid (B10.out.trans (b11.mono B10.out.size))
          clear b11
          go_wp2_with fail
          refine (hc12.out _ B11.out).mono ?_; rintro e w12 ⟨rfl, b12⟩
          have B12 := Lib.hid (B11.out.trans (b12.mono B11.out.size))
          clear b12
          go_wp2_with fail
          refine (hc13.out _).mono ?_; rintro e w13 ⟨rfl, b13⟩
          have B13 := Lib.hid (B12.out.trans (b13.mono B12.out.size))
          clear b13
          rcases hlo with hlo | ⟨hlo, hlo2⟩
          · go_wp2
            go_ret
            exact ⟨rfl, B13.out⟩
          · go_wp2
            go_ret
            exact ⟨rfl, B13.out⟩
      · rw [feS_no' hf]
        have hcd := Lib.hid (fun wq => i_DecodeFixed_any (⟨#[]⟩ ++ tail) q wq (by rw [ByteArray.size_append]; have : (⟨#[]⟩ : ByteArray).size = 0 := rfl; omega))
        have had : ∀ (wx : World), (Op.stringOp .add ⟨#[]⟩ tail).run Tryd.prog wx = .ok (.string (⟨#[]⟩ ++ tail)) wx := fun wx => run_string_add_sum _ _ _ (by have : (⟨#[]⟩ : ByteArray).size = 0 := rfl; omega)
        have hcs := Lib.hid (fun wq => (show Calls Tryd.prog 21 #[.int .i64 d, .int .i64 q] wq (fun e w' => e = .returned (.string ⟨#[]⟩) ∧ Below wq.heap.size wq w') from (s_EncodeFixed d q hd.2 wq).mono fun e w' h => ⟨by rw [h.1, feS_no' hf], h.2⟩))
        generalize (⟨#[]⟩ ++ tail : ByteArray) = FT at hcd had
        clear hf
        go_wp2_with fail
        refine (hcd.out _).mono ?_; rintro e w7 ⟨y, bb, rfl, _, rfl⟩
        clear had hcd
        go_wp2_with fail
        refine (hcs.out _).mono ?_; rintro e w8 ⟨rfl, b8⟩
        have B8 := Lib.hid (B6.out.trans (b8.mono B6.out.size))
        clear b8 hcs
        go_wp2_with fail
        have hc9 := Lib.hid (fun wq => i_EncodeHexAny tail wq htl)
        obtain ⟨x1, x2, x3⟩ := hx_back tail
        have hc10 := Lib.hid (fun wq (b : Below w.heap.size w wq) => (show Calls Tryd.prog 8 #[.string (hxS tail)] wq (fun e w' => e = .returned (.tuple #[.string tail, .bool true]) ∧ Below wq.heap.size wq w') from (i_DecodeHex (hxS tail) wq (by rw [x3]; omega) te0 pe0 ((b.cell (p := ⟨0, 0, none⟩) l0).trans HE.out.2.1)).mono fun e w' h => ⟨by rw [h.1, x1, x2], h.2⟩))
        have x4 : (((hxS tail).size : Int) == 2 * (tail.size : Int)) = true := by rw [x3]; simp
        generalize hxS tail = H at hc9 hc10 x4
        clear x1 x2 x3
        have hc11 := Lib.hid (fun wq (b : Below w.heap.size w wq) => i_FormatInt d hd.1 hd.2 wq (HE.out.1.below b))
        obtain ⟨p1, p2⟩ := pi_back d
        have hc12 := Lib.hid (fun wq (b : Below w.heap.size w wq) => i_ParseInt (fmS d) wq (fmS_size hd) (HE.out.1.below b) te1 te2 pe1 pe2 ((b.cell (p := ⟨1, 0, none⟩) l1).trans HE.out.2.2.1) ((b.cell (p := ⟨2, 0, none⟩) l2).trans HE.out.2.2.2.1))
        have hc13 := Lib.hid (fun wq => s_FormatInt d hd.1 hd.2 wq)
        have htt := str_beq' (rfl : tail = tail)
        by_cases hgood : okP (fmS d) = true
        · obtain ⟨g1, g2⟩ := p1.1 hgood
          have g3 := p2 hgood
          have hc12 := Lib.hid (fun wq b => (hc12.out wq b).mono fun e w' (h : PiAns _ _ e w') => (show e = .returned (.tuple #[.int .i64 d, .bool true]) ∧ Below wq.heap.size wq w' from ⟨by rw [h.1, g3, hgood], h.2⟩))
          unfold FmAns at hc11 hc13
          generalize fmS d = D at hc11 hc12 hc13
          have t1 : decide (-1000000000 < d) = true := by simp; omega
          have t2 : decide (d < 1000000000) = true := by simp; omega
          clear p1 p2 hgood g3
          go_wp2_with fail
          refine (hc9.out _).mono ?_; rintro e w9 ⟨rfl, b9⟩
          have B9 := Lib.hid (B8.out.trans (b9.mono B8.out.size))
          clear b9
          go_wp2_with fail
          refine (hc10.out _ B9.out).mono ?_; rintro e w10 ⟨rfl, b10⟩
          have B10 := Lib.hid (B9.out.trans (b10.mono B9.out.size))
          clear b10
          go_wp2_with fail
          refine (hc11.out _ B10.out).mono ?_; rintro e w11 ⟨rfl, b11⟩
          have B11 := Lib.hid (B10.out.trans (b11.mono B10.out.size))
          clear b11
          go_wp2_with fail
          refine (hc12.out _ B11.out).mono ?_; rintro e w12 ⟨rfl, b12⟩
          have B12 := Lib.hid (B11.out.trans (b12.mono B11.out.size))
          clear b12
          go_wp2_with fail
          refine (hc13.out _).mono ?_; rintro e w13 ⟨rfl, b13⟩
          have B13 := Lib.hid (B12.out.trans (b13.mono B12.out.size))
          clear b13
          go_wp2
          go_ret
          exact ⟨rfl, B13.out⟩
        · have hbad : okP (fmS d) = false := by simpa using hgood
          have hc12 := Lib.hid (fun wq b => (hc12.out wq b).mono fun e w' (h : PiAns _ _ e w') => (show e = .returned (.tuple #[.int .i64 (pvV (fmS d)), .bool false]) ∧ Below wq.heap.size wq w' from ⟨by rw [h.1, hbad], h.2⟩))
          have hnb : ¬ (-999999999 ≤ d ∧ d ≤ 999999999) := fun h => hgood (p1.2 h)
          generalize pvV (fmS d) = Z at hc12
          unfold FmAns at hc11 hc13
          generalize fmS d = D at hc11 hc12 hc13
          clear p1 p2 hgood hbad
          have hlo : (decide (-1000000000 < d) = false) ∨ (decide (-1000000000 < d) = true ∧ decide (d < 1000000000) = false) := by
            by_cases h : -1000000000 < d
            · right; exact ⟨by simpa using h, by simp; omega⟩
            · left; simpa using h
          clear hnb
          go_wp2_with fail
          refine (hc9.out _).mono ?_; rintro e w9 ⟨rfl, b9⟩
          have B9 := Lib.hid (B8.out.trans (b9.mono B8.out.size))
          clear b9
          go_wp2_with fail
          refine (hc10.out _ B9.out).mono ?_; rintro e w10 ⟨rfl, b10⟩
          have B10 := Lib.hid (B9.out.trans (b10.mono B9.out.size))
          clear b10
          go_wp2_with fail
          refine (hc11.out _ B10.out).mono ?_; rintro e w11 ⟨rfl, b11⟩
          have B11 := Lib.hid (B10.out.trans (b11.mono B10.out.size))
          clear b11
          go_wp2_with fail
          refine (hc12.out _ B11.out).mono ?_; rintro e w12 ⟨rfl, b12⟩
          have B12 := Lib.hid (B11.out.trans (b12.mono B11.out.size))
          clear b12
          go_wp2_with fail
          refine (hc13.out _).mono ?_; rintro e w13 ⟨rfl, b13⟩
          have B13 := Lib.hid (B12.out.trans (b13.mono B12.out.size))
          clear b13
          rcases hlo with hlo | ⟨hlo, hlo2⟩
          · go_wp2
            go_ret
            exact ⟨rfl, B13.out⟩
          · go_wp2
            go_ret
            exact ⟨rfl, B13.out⟩
    · rw [viS_no hin]
      have hcd := fun wq => i_DecodeVarint (⟨#[]⟩ ++ tail) wq (by rw [ByteArray.size_append]; have : (⟨#[]⟩ : ByteArray).size = 0 := rfl; omega)
      have had : ∀ (wx : World), (Op.stringOp .add ⟨#[]⟩ tail).run Tryd.prog wx = .ok (.string (⟨#[]⟩ ++ tail)) wx := fun wx => run_string_add_sum _ _ _ (by have : (⟨#[]⟩ : ByteArray).size = 0 := rfl; omega)
      generalize (⟨#[]⟩ ++ tail : ByteArray) = ST at hcd had
      have HCD := Lib.hid hcd
      clear hcd
      by_cases hm0 : 0 ≤ m
      · have hm1 : ¬ m ≤ 562949953421311 := fun h => hin ⟨hm0, h⟩
        clear hin
        go_wp2_with fail
        refine (HCD.out _).mono ?_; rintro e w4 ⟨rfl, b4⟩
        have B4 := Lib.hid (B3.out.trans (b4.mono B3.out.size))
        clear b4 HCD had
        have hc5 := s_DrawEncodeFixed v n w4 ((HE.out.2.2.2.2.below B4.out).mono B4.out.size) (by omega)
        go_wp2_with fail
        refine hc5.mono ?_; rintro e w5 ⟨d, q, hd, hq, rfl, b5⟩
        have B5 := Lib.hid (B4.out.trans (b5.mono B4.out.size))
        clear b5 hc5
        go_wp2_with fail
        refine (i_EncodeFixed d q hd.2 _).mono ?_; rintro e w6 ⟨rfl, b6⟩
        have B6 := Lib.hid (B5.out.trans (b6.mono B5.out.size))
        clear b6
        by_cases hf : inR q 1 7 = true ∧ 0 ≤ d ∧ ¬ 0 < d / 2 ^ (8 * q.toNat)
        · obtain ⟨f1, f2⟩ := feS_sz hf
          obtain ⟨r1, r7⟩ := inR_true hf.1
          have hin7 := hf.1
          have hd0 := hf.2.1
          have had : ∀ (wx : World), (Op.stringOp .add (feS d q) tail).run Tryd.prog wx = .ok (.string (feS d q ++ tail)) wx := fun wx => run_string_add_sum _ _ _ (by omega)
          have hcd := Lib.hid (fun wq => (show Calls Tryd.prog 20 #[.string (feS d q ++ tail), .int .i64 q] wq (fun e w' => e = .returned (.tuple #[.int .i64 d, .bool true]) ∧ wq = w') from (i_DecodeFixed_any (feS d q ++ tail) q wq (by rw [ByteArray.size_append]; omega)).mono fun e w' ⟨y, b, he, hi, hw⟩ => by
            obtain ⟨h1, h2⟩ := hi ⟨hin7, by rw [ByteArray.size_append]; omega⟩
            rw [← f1, take_app, f2] at h2
            exact ⟨by rw [he, h1, h2, Int.toNat_of_nonneg hd0], hw⟩))
          have hcs := Lib.hid (fun wq => s_EncodeFixed d q hd.2 wq)
          unfold FixAns at hcs
          obtain ⟨n1, n2, n3, n4⟩ := str_ne (s := feS d q) (by omega)
          have hsz : (((feS d q).size : Int) != q) = false := by rw [f1]; simp; omega
          generalize feS d q = F at hcd had hcs hsz n1 n2 n3 n4 ⊢
          clear f1 f2 hf hin7
          go_wp2_with fail
          refine (hcd.out _).mono ?_; rintro e w7 ⟨rfl, rfl⟩
          clear had hcd
          go_wp2_with fail
          refine (hcs.out _).mono ?_; rintro e w8 ⟨rfl, b8⟩
          have B8 := Lib.hid (B6.out.trans (b8.mono B6.out.size))
          clear b8 hcs
          go_wp2_with fail
          clear n1 n2 n3 n4 hsz r1 r7
          have hc9 := Lib.hid (fun wq => i_EncodeHexAny tail wq htl)
          obtain ⟨x1, x2, x3⟩ := hx_back tail
          have hc10 := Lib.hid (fun wq (b : Below w.heap.size w wq) => (show Calls Tryd.prog 8 #[.string (hxS tail)] wq (fun e w' => e = .returned (.tuple #[.string tail, .bool true]) ∧ Below wq.heap.size wq w') from (i_DecodeHex (hxS tail) wq (by rw [x3]; omega) te0 pe0 ((b.cell (p := ⟨0, 0, none⟩) l0).trans HE.out.2.1)).mono fun e w' h => ⟨by rw [h.1, x1, x2], h.2⟩))
          have x4 : (((hxS tail).size : Int) == 2 * (tail.size : Int)) = true := by rw [x3]; simp
          generalize hxS tail = H at hc9 hc10 x4
          clear x1 x2 x3
          have hc11 := Lib.hid (fun wq (b : Below w.heap.size w wq) => i_FormatInt d hd.1 hd.2 wq (HE.out.1.below b))
          obtain ⟨p1, p2⟩ := pi_back d
          have hc12 := Lib.hid (fun wq (b : Below w.heap.size w wq) => i_ParseInt (fmS d) wq (fmS_size hd) (HE.out.1.below b) te1 te2 pe1 pe2 ((b.cell (p := ⟨1, 0, none⟩) l1).trans HE.out.2.2.1) ((b.cell (p := ⟨2, 0, none⟩) l2).trans HE.out.2.2.2.1))
          have hc13 := Lib.hid (fun wq => s_FormatInt d hd.1 hd.2 wq)
          have htt := str_beq' (rfl : tail = tail)
          by_cases hgood : okP (fmS d) = true
          · obtain ⟨g1, g2⟩ := p1.1 hgood
            have g3 := p2 hgood
            have hc12 := Lib.hid (fun wq b => (hc12.out wq b).mono fun e w' (h : PiAns _ _ e w') => (show e = .returned (.tuple #[.int .i64 d, .bool true]) ∧ Below wq.heap.size wq w' from ⟨by rw [h.1, g3, hgood], h.2⟩))
            unfold FmAns at hc11 hc13
            generalize fmS d = D at hc11 hc12 hc13
            have t1 : decide (-1000000000 < d) = true := by simp; omega
            have t2 : decide (d < 1000000000) = true := by simp; omega
            clear p1 p2 hgood g3
            go_wp2_with fail
            refine (hc9.out _).mono ?_; rintro e w9 ⟨rfl, b9⟩
            have B9 := Lib.hid (B8.out.trans (b9.mono B8.out.size))
            clear b9
            go_wp2_with fail
            refine (hc10.out _ B9.out).mono ?_; rintro e w10 ⟨rfl, b10⟩
            have B10 := Lib.hid (B9.out.trans (b10.mono B9.out.size))
            clear b10
            go_wp2_with fail
            refine (hc11.out _ B10.out).mono ?_; rintro e w11 ⟨rfl, b11⟩
            have B11 := Lib.hid (B10.out.trans (b11.mono B10.out.size))
            clear b11
            go_wp2_with fail
            refine (hc12.out _ B11.out).mono ?_; rintro e w12 ⟨rfl, b12⟩
            have B12 := Lib.hid (B11.out.trans (b12.mono B11.out.size))
            clear b12
            go_wp2_with fail
            refine (hc13.out _).mono ?_; rintro e w13 ⟨rfl, b13⟩
            have B13 := Lib.hid (B12.out.trans (b13.mono B12.out.size))
            clear b13
            go_wp2
            go_ret
            exact ⟨rfl, B13.out⟩
          · have hbad : okP (fmS d) = false := by simpa using hgood
            have hc12 := Lib.hid (fun wq b => (hc12.out wq b).mono fun e w' (h : PiAns _ _ e w') => (show e = .returned (.tuple #[.int .i64 (pvV (fmS d)), .bool false]) ∧ Below wq.heap.size wq w' from ⟨by rw [h.1, hbad], h.2⟩))
            have hnb : ¬ (-999999999 ≤ d ∧ d ≤ 999999999) := fun h => hgood (p1.2 h)
            generalize pvV (fmS d) = Z at hc12
            unfold FmAns at hc11 hc13
            generalize fmS d = D at hc11 hc12 hc13
            clear p1 p2 hgood hbad
            have hlo : (decide (-1000000000 < d) = false) ∨ (decide (-1000000000 < d) = true ∧ decide (d < 1000000000) = false) := by
              by_cases h : -1000000000 < d
              · right; exact ⟨by simpa using h, by simp; omega⟩
              · left; simpa using h
            clear hnb
            go_wp2_with fail
            refine (hc9.out _).mono ?_; rintro e w9 ⟨rfl, b9⟩
            have B9 := Lib.hid (B8.out.trans (b9.mono B8.out.size))
            clear b9
            go_wp2_with fail
            refine (hc10.out _ B9.out).mono ?_; rintro e w10 ⟨rfl, b10⟩
            have B10 := Lib.hid (B9.out.trans (b10.mono B9.out.size))
            clear b10
            go_wp2_with fail
            refine (hc11.out _ B10.out).mono ?_; rintro e w11 ⟨rfl, b11⟩
            have B11 := Lib.hid (B10.out.trans (b11.mono B10.out.size))
            clear b11
            go_wp2_with fail
            refine (hc12.out _ B11.out).mono ?_; rintro e w12 ⟨rfl, b12⟩
            have B12 := Lib.hid (B11.out.trans (b12.mono B11.out.size))
            clear b12
            go_wp2_with fail
            refine (hc13.out _).mono ?_; rintro e w13 ⟨rfl, b13⟩
            have B13 := Lib.hid (B12.out.trans (b13.mono B12.out.size))
            clear b13
            rcases hlo with hlo | ⟨hlo, hlo2⟩
            · go_wp2
              go_ret
              exact ⟨rfl, B13.out⟩
            · go_wp2
              go_ret
              exact ⟨rfl, B13.out⟩
        · rw [feS_no' hf]
          have hcd := Lib.hid (fun wq => i_DecodeFixed_any (⟨#[]⟩ ++ tail) q wq (by rw [ByteArray.size_append]; have : (⟨#[]⟩ : ByteArray).size = 0 := rfl; omega))
          have had : ∀ (wx : World), (Op.stringOp .add ⟨#[]⟩ tail).run Tryd.prog wx = .ok (.string (⟨#[]⟩ ++ tail)) wx := fun wx => run_string_add_sum _ _ _ (by have : (⟨#[]⟩ : ByteArray).size = 0 := rfl; omega)
          have hcs := Lib.hid (fun wq => (show Calls Tryd.prog 21 #[.int .i64 d, .int .i64 q] wq (fun e w' => e = .returned (.string ⟨#[]⟩) ∧ Below wq.heap.size wq w') from (s_EncodeFixed d q hd.2 wq).mono fun e w' h => ⟨by rw [h.1, feS_no' hf], h.2⟩))
          generalize (⟨#[]⟩ ++ tail : ByteArray) = FT at hcd had
          clear hf
          go_wp2_with fail
          refine (hcd.out _).mono ?_; rintro e w7 ⟨y, bb, rfl, _, rfl⟩
          clear had hcd
          go_wp2_with fail
          refine (hcs.out _).mono ?_; rintro e w8 ⟨rfl, b8⟩
          have B8 := Lib.hid (B6.out.trans (b8.mono B6.out.size))
          clear b8 hcs
          go_wp2_with fail
          have hc9 := Lib.hid (fun wq => i_EncodeHexAny tail wq htl)
          obtain ⟨x1, x2, x3⟩ := hx_back tail
          have hc10 := Lib.hid (fun wq (b : Below w.heap.size w wq) => (show Calls Tryd.prog 8 #[.string (hxS tail)] wq (fun e w' => e = .returned (.tuple #[.string tail, .bool true]) ∧ Below wq.heap.size wq w') from (i_DecodeHex (hxS tail) wq (by rw [x3]; omega) te0 pe0 ((b.cell (p := ⟨0, 0, none⟩) l0).trans HE.out.2.1)).mono fun e w' h => ⟨by rw [h.1, x1, x2], h.2⟩))
          have x4 : (((hxS tail).size : Int) == 2 * (tail.size : Int)) = true := by rw [x3]; simp
          generalize hxS tail = H at hc9 hc10 x4
          clear x1 x2 x3
          have hc11 := Lib.hid (fun wq (b : Below w.heap.size w wq) => i_FormatInt d hd.1 hd.2 wq (HE.out.1.below b))
          obtain ⟨p1, p2⟩ := pi_back d
          have hc12 := Lib.hid (fun wq (b : Below w.heap.size w wq) => i_ParseInt (fmS d) wq (fmS_size hd) (HE.out.1.below b) te1 te2 pe1 pe2 ((b.cell (p := ⟨1, 0, none⟩) l1).trans HE.out.2.2.1) ((b.cell (p := ⟨2, 0, none⟩) l2).trans HE.out.2.2.2.1))
          have hc13 := Lib.hid (fun wq => s_FormatInt d hd.1 hd.2 wq)
          have htt := str_beq' (rfl : tail = tail)
          by_cases hgood : okP (fmS d) = true
          · obtain ⟨g1, g2⟩ := p1.1 hgood
            have g3 := p2 hgood
            have hc12 := Lib.hid (fun wq b => (hc12.out wq b).mono fun e w' (h : PiAns _ _ e w') => (show e = .returned (.tuple #[.int .i64 d, .bool true]) ∧ Below wq.heap.size wq w' from ⟨by rw [h.1, g3, hgood], h.2⟩))
            unfold FmAns at hc11 hc13
            generalize fmS d = D at hc11 hc12 hc13
            have t1 : decide (-1000000000 < d) = true := by simp; omega
            have t2 : decide (d < 1000000000) = true := by simp; omega
            clear p1 p2 hgood g3
            go_wp2_with fail
            refine (hc9.out _).mono ?_; rintro e w9 ⟨rfl, b9⟩
            have B9 := Lib.hid (B8.out.trans (b9.mono B8.out.size))
            clear b9
            go_wp2_with fail
            refine (hc10.out _ B9.out).mono ?_; rintro e w10 ⟨rfl, b10⟩
            have B10 := Lib.hid (B9.out.trans (b10.mono B9.out.size))
            clear b10
            go_wp2_with fail
            refine (hc11.out _ B10.out).mono ?_; rintro e w11 ⟨rfl, b11⟩
            have B11 := Lib.hid (B10.out.trans (b11.mono B10.out.size))
            clear b11
            go_wp2_with fail
            refine (hc12.out _ B11.out).mono ?_; rintro e w12 ⟨rfl, b12⟩
            have B12 := Lib.hid (B11.out.trans (b12.mono B11.out.size))
            clear b12
            go_wp2_with fail
            refine (hc13.out _).mono ?_; rintro e w13 ⟨rfl, b13⟩
            have B13 := Lib.hid (B12.out.trans (b13.mono B12.out.size))
            clear b13
            go_wp2
            go_ret
            exact ⟨rfl, B13.out⟩
          · have hbad : okP (fmS d) = false := by simpa using hgood
            have hc12 := Lib.hid (fun wq b => (hc12.out wq b).mono fun e w' (h : PiAns _ _ e w') => (show e = .returned (.tuple #[.int .i64 (pvV (fmS d)), .bool false]) ∧ Below wq.heap.size wq w' from ⟨by rw [h.1, hbad], h.2⟩))
            have hnb : ¬ (-999999999 ≤ d ∧ d ≤ 999999999) := fun h => hgood (p1.2 h)
            generalize pvV (fmS d) = Z at hc12
            unfold FmAns at hc11 hc13
            generalize fmS d = D at hc11 hc12 hc13
            clear p1 p2 hgood hbad
            have hlo : (decide (-1000000000 < d) = false) ∨ (decide (-1000000000 < d) = true ∧ decide (d < 1000000000) = false) := by
              by_cases h : -1000000000 < d
              · right; exact ⟨by simpa using h, by simp; omega⟩
              · left; simpa using h
            clear hnb
            go_wp2_with fail
            refine (hc9.out _).mono ?_; rintro e w9 ⟨rfl, b9⟩
            have B9 := Lib.hid (B8.out.trans (b9.mono B8.out.size))
            clear b9
            go_wp2_with fail
            refine (hc10.out _ B9.out).mono ?_; rintro e w10 ⟨rfl, b10⟩
            have B10 := Lib.hid (B9.out.trans (b10.mono B9.out.size))
            clear b10
            go_wp2_with fail
            refine (hc11.out _ B10.out).mono ?_; rintro e w11 ⟨rfl, b11⟩
            have B11 := Lib.hid (B10.out.trans (b11.mono B10.out.size))
            clear b11
            go_wp2_with fail
            refine (hc12.out _ B11.out).mono ?_; rintro e w12 ⟨rfl, b12⟩
            have B12 := Lib.hid (B11.out.trans (b12.mono B11.out.size))
            clear b12
            go_wp2_with fail
            refine (hc13.out _).mono ?_; rintro e w13 ⟨rfl, b13⟩
            have B13 := Lib.hid (B12.out.trans (b13.mono B12.out.size))
            clear b13
            rcases hlo with hlo | ⟨hlo, hlo2⟩
            · go_wp2
              go_ret
              exact ⟨rfl, B13.out⟩
            · go_wp2
              go_ret
              exact ⟨rfl, B13.out⟩
      · clear hin
        have hm0' : decide (0 ≤ m) = false := by simpa using hm0
        go_wp2_with fail
        refine (HCD.out _).mono ?_; rintro e w4 ⟨rfl, b4⟩
        have B4 := Lib.hid (B3.out.trans (b4.mono B3.out.size))
        clear b4 HCD had
        have hc5 := s_DrawEncodeFixed v n w4 ((HE.out.2.2.2.2.below B4.out).mono B4.out.size) (by omega)
        go_wp2_with fail
        refine hc5.mono ?_; rintro e w5 ⟨d, q, hd, hq, rfl, b5⟩
        have B5 := Lib.hid (B4.out.trans (b5.mono B4.out.size))
        clear b5 hc5
        go_wp2_with fail
        refine (i_EncodeFixed d q hd.2 _).mono ?_; rintro e w6 ⟨rfl, b6⟩
        have B6 := Lib.hid (B5.out.trans (b6.mono B5.out.size))
        clear b6
        by_cases hf : inR q 1 7 = true ∧ 0 ≤ d ∧ ¬ 0 < d / 2 ^ (8 * q.toNat)
        · obtain ⟨f1, f2⟩ := feS_sz hf
          obtain ⟨r1, r7⟩ := inR_true hf.1
          have hin7 := hf.1
          have hd0 := hf.2.1
          have had : ∀ (wx : World), (Op.stringOp .add (feS d q) tail).run Tryd.prog wx = .ok (.string (feS d q ++ tail)) wx := fun wx => run_string_add_sum _ _ _ (by omega)
          have hcd := Lib.hid (fun wq => (show Calls Tryd.prog 20 #[.string (feS d q ++ tail), .int .i64 q] wq (fun e w' => e = .returned (.tuple #[.int .i64 d, .bool true]) ∧ wq = w') from (i_DecodeFixed_any (feS d q ++ tail) q wq (by rw [ByteArray.size_append]; omega)).mono fun e w' ⟨y, b, he, hi, hw⟩ => by
            obtain ⟨h1, h2⟩ := hi ⟨hin7, by rw [ByteArray.size_append]; omega⟩
            rw [← f1, take_app, f2] at h2
            exact ⟨by rw [he, h1, h2, Int.toNat_of_nonneg hd0], hw⟩))
          have hcs := Lib.hid (fun wq => s_EncodeFixed d q hd.2 wq)
          unfold FixAns at hcs
          obtain ⟨n1, n2, n3, n4⟩ := str_ne (s := feS d q) (by omega)
          have hsz : (((feS d q).size : Int) != q) = false := by rw [f1]; simp; omega
          generalize feS d q = F at hcd had hcs hsz n1 n2 n3 n4 ⊢
          clear f1 f2 hf hin7
          go_wp2_with fail
          refine (hcd.out _).mono ?_; rintro e w7 ⟨rfl, rfl⟩
          clear had hcd
          go_wp2_with fail
          refine (hcs.out _).mono ?_; rintro e w8 ⟨rfl, b8⟩
          have B8 := Lib.hid (B6.out.trans (b8.mono B6.out.size))
          clear b8 hcs
          go_wp2_with fail
          clear n1 n2 n3 n4 hsz r1 r7
          have hc9 := Lib.hid (fun wq => i_EncodeHexAny tail wq htl)
          obtain ⟨x1, x2, x3⟩ := hx_back tail
          have hc10 := Lib.hid (fun wq (b : Below w.heap.size w wq) => (show Calls Tryd.prog 8 #[.string (hxS tail)] wq (fun e w' => e = .returned (.tuple #[.string tail, .bool true]) ∧ Below wq.heap.size wq w') from (i_DecodeHex (hxS tail) wq (by rw [x3]; omega) te0 pe0 ((b.cell (p := ⟨0, 0, none⟩) l0).trans HE.out.2.1)).mono fun e w' h => ⟨by rw [h.1, x1, x2], h.2⟩))
          have x4 : (((hxS tail).size : Int) == 2 * (tail.size : Int)) = true := by rw [x3]; simp
          generalize hxS tail = H at hc9 hc10 x4
          clear x1 x2 x3
          have hc11 := Lib.hid (fun wq (b : Below w.heap.size w wq) => i_FormatInt d hd.1 hd.2 wq (HE.out.1.below b))
          obtain ⟨p1, p2⟩ := pi_back d
          have hc12 := Lib.hid (fun wq (b : Below w.heap.size w wq) => i_ParseInt (fmS d) wq (fmS_size hd) (HE.out.1.below b) te1 te2 pe1 pe2 ((b.cell (p := ⟨1, 0, none⟩) l1).trans HE.out.2.2.1) ((b.cell (p := ⟨2, 0, none⟩) l2).trans HE.out.2.2.2.1))
          have hc13 := Lib.hid (fun wq => s_FormatInt d hd.1 hd.2 wq)
          have htt := str_beq' (rfl : tail = tail)
          by_cases hgood : okP (fmS d) = true
          · obtain ⟨g1, g2⟩ := p1.1 hgood
            have g3 := p2 hgood
            have hc12 := Lib.hid (fun wq b => (hc12.out wq b).mono fun e w' (h : PiAns _ _ e w') => (show e = .returned (.tuple #[.int .i64 d, .bool true]) ∧ Below wq.heap.size wq w' from ⟨by rw [h.1, g3, hgood], h.2⟩))
            unfold FmAns at hc11 hc13
            generalize fmS d = D at hc11 hc12 hc13
            have t1 : decide (-1000000000 < d) = true := by simp; omega
            have t2 : decide (d < 1000000000) = true := by simp; omega
            clear p1 p2 hgood g3
            go_wp2_with fail
            refine (hc9.out _).mono ?_; rintro e w9 ⟨rfl, b9⟩
            have B9 := Lib.hid (B8.out.trans (b9.mono B8.out.size))
            clear b9
            go_wp2_with fail
            refine (hc10.out _ B9.out).mono ?_; rintro e w10 ⟨rfl, b10⟩
            have B10 := Lib.hid (B9.out.trans (b10.mono B9.out.size))
            clear b10
            go_wp2_with fail
            refine (hc11.out _ B10.out).mono ?_; rintro e w11 ⟨rfl, b11⟩
            have B11 := Lib.hid (B10.out.trans (b11.mono B10.out.size))
            clear b11
            go_wp2_with fail
            refine (hc12.out _ B11.out).mono ?_; rintro e w12 ⟨rfl, b12⟩
            have B12 := Lib.hid (B11.out.trans (b12.mono B11.out.size))
            clear b12
            go_wp2_with fail
            refine (hc13.out _).mono ?_; rintro e w13 ⟨rfl, b13⟩
            have B13 := Lib.hid (B12.out.trans (b13.mono B12.out.size))
            clear b13
            go_wp2
            go_ret
            exact ⟨rfl, B13.out⟩
          · have hbad : okP (fmS d) = false := by simpa using hgood
            have hc12 := Lib.hid (fun wq b => (hc12.out wq b).mono fun e w' (h : PiAns _ _ e w') => (show e = .returned (.tuple #[.int .i64 (pvV (fmS d)), .bool false]) ∧ Below wq.heap.size wq w' from ⟨by rw [h.1, hbad], h.2⟩))
            have hnb : ¬ (-999999999 ≤ d ∧ d ≤ 999999999) := fun h => hgood (p1.2 h)
            generalize pvV (fmS d) = Z at hc12
            unfold FmAns at hc11 hc13
            generalize fmS d = D at hc11 hc12 hc13
            clear p1 p2 hgood hbad
            have hlo : (decide (-1000000000 < d) = false) ∨ (decide (-1000000000 < d) = true ∧ decide (d < 1000000000) = false) := by
              by_cases h : -1000000000 < d
              · right; exact ⟨by simpa using h, by simp; omega⟩
              · left; simpa using h
            clear hnb
            go_wp2_with fail
            refine (hc9.out _).mono ?_; rintro e w9 ⟨rfl, b9⟩
            have B9 := Lib.hid (B8.out.trans (b9.mono B8.out.size))
            clear b9
            go_wp2_with fail
            refine (hc10.out _ B9.out).mono ?_; rintro e w10 ⟨rfl, b10⟩
            have B10 := Lib.hid (B9.out.trans (b10.mono B9.out.size))
            clear b10
            go_wp2_with fail
            refine (hc11.out _ B10.out).mono ?_; rintro e w11 ⟨rfl, b11⟩
            have B11 := Lib.hid (B10.out.trans (b11.mono B10.out.size))
            clear b11
            go_wp2_with fail
            refine (hc12.out _ B11.out).mono ?_; rintro e w12 ⟨rfl, b12⟩
            have B12 := Lib.hid (B11.out.trans (b12.mono B11.out.size))
            clear b12
            go_wp2_with fail
            refine (hc13.out _).mono ?_; rintro e w13 ⟨rfl, b13⟩
            have B13 := Lib.hid (B12.out.trans (b13.mono B12.out.size))
            clear b13
            rcases hlo with hlo | ⟨hlo, hlo2⟩
            · go_wp2
              go_ret
              exact ⟨rfl, B13.out⟩
            · go_wp2
              go_ret
              exact ⟨rfl, B13.out⟩
        · rw [feS_no' hf]
          have hcd := Lib.hid (fun wq => i_DecodeFixed_any (⟨#[]⟩ ++ tail) q wq (by rw [ByteArray.size_append]; have : (⟨#[]⟩ : ByteArray).size = 0 := rfl; omega))
          have had : ∀ (wx : World), (Op.stringOp .add ⟨#[]⟩ tail).run Tryd.prog wx = .ok (.string (⟨#[]⟩ ++ tail)) wx := fun wx => run_string_add_sum _ _ _ (by have : (⟨#[]⟩ : ByteArray).size = 0 := rfl; omega)
          have hcs := Lib.hid (fun wq => (show Calls Tryd.prog 21 #[.int .i64 d, .int .i64 q] wq (fun e w' => e = .returned (.string ⟨#[]⟩) ∧ Below wq.heap.size wq w') from (s_EncodeFixed d q hd.2 wq).mono fun e w' h => ⟨by rw [h.1, feS_no' hf], h.2⟩))
          generalize (⟨#[]⟩ ++ tail : ByteArray) = FT at hcd had
          clear hf
          go_wp2_with fail
          refine (hcd.out _).mono ?_; rintro e w7 ⟨y, bb, rfl, _, rfl⟩
          clear had hcd
          go_wp2_with fail
          refine (hcs.out _).mono ?_; rintro e w8 ⟨rfl, b8⟩
          have B8 := Lib.hid (B6.out.trans (b8.mono B6.out.size))
          clear b8 hcs
          go_wp2_with fail
          have hc9 := Lib.hid (fun wq => i_EncodeHexAny tail wq htl)
          obtain ⟨x1, x2, x3⟩ := hx_back tail
          have hc10 := Lib.hid (fun wq (b : Below w.heap.size w wq) => (show Calls Tryd.prog 8 #[.string (hxS tail)] wq (fun e w' => e = .returned (.tuple #[.string tail, .bool true]) ∧ Below wq.heap.size wq w') from (i_DecodeHex (hxS tail) wq (by rw [x3]; omega) te0 pe0 ((b.cell (p := ⟨0, 0, none⟩) l0).trans HE.out.2.1)).mono fun e w' h => ⟨by rw [h.1, x1, x2], h.2⟩))
          have x4 : (((hxS tail).size : Int) == 2 * (tail.size : Int)) = true := by rw [x3]; simp
          generalize hxS tail = H at hc9 hc10 x4
          clear x1 x2 x3
          have hc11 := Lib.hid (fun wq (b : Below w.heap.size w wq) => i_FormatInt d hd.1 hd.2 wq (HE.out.1.below b))
          obtain ⟨p1, p2⟩ := pi_back d
          have hc12 := Lib.hid (fun wq (b : Below w.heap.size w wq) => i_ParseInt (fmS d) wq (fmS_size hd) (HE.out.1.below b) te1 te2 pe1 pe2 ((b.cell (p := ⟨1, 0, none⟩) l1).trans HE.out.2.2.1) ((b.cell (p := ⟨2, 0, none⟩) l2).trans HE.out.2.2.2.1))
          have hc13 := Lib.hid (fun wq => s_FormatInt d hd.1 hd.2 wq)
          have htt := str_beq' (rfl : tail = tail)
          by_cases hgood : okP (fmS d) = true
          · obtain ⟨g1, g2⟩ := p1.1 hgood
            have g3 := p2 hgood
            have hc12 := Lib.hid (fun wq b => (hc12.out wq b).mono fun e w' (h : PiAns _ _ e w') => (show e = .returned (.tuple #[.int .i64 d, .bool true]) ∧ Below wq.heap.size wq w' from ⟨by rw [h.1, g3, hgood], h.2⟩))
            unfold FmAns at hc11 hc13
            generalize fmS d = D at hc11 hc12 hc13
            have t1 : decide (-1000000000 < d) = true := by simp; omega
            have t2 : decide (d < 1000000000) = true := by simp; omega
            clear p1 p2 hgood g3
            go_wp2_with fail
            refine (hc9.out _).mono ?_; rintro e w9 ⟨rfl, b9⟩
            have B9 := Lib.hid (B8.out.trans (b9.mono B8.out.size))
            clear b9
            go_wp2_with fail
            refine (hc10.out _ B9.out).mono ?_; rintro e w10 ⟨rfl, b10⟩
            have B10 := Lib.hid (B9.out.trans (b10.mono B9.out.size))
            clear b10
            go_wp2_with fail
            refine (hc11.out _ B10.out).mono ?_; rintro e w11 ⟨rfl, b11⟩
            have B11 := Lib.hid (B10.out.trans (b11.mono B10.out.size))
            clear b11
            go_wp2_with fail
            refine (hc12.out _ B11.out).mono ?_; rintro e w12 ⟨rfl, b12⟩
            have B12 := Lib.hid (B11.out.trans (b12.mono B11.out.size))
            clear b12
            go_wp2_with fail
            refine (hc13.out _).mono ?_; rintro e w13 ⟨rfl, b13⟩
            have B13 := Lib.hid (B12.out.trans (b13.mono B12.out.size))
            clear b13
            go_wp2
            go_ret
            exact ⟨rfl, B13.out⟩
          · have hbad : okP (fmS d) = false := by simpa using hgood
            have hc12 := Lib.hid (fun wq b => (hc12.out wq b).mono fun e w' (h : PiAns _ _ e w') => (show e = .returned (.tuple #[.int .i64 (pvV (fmS d)), .bool false]) ∧ Below wq.heap.size wq w' from ⟨by rw [h.1, hbad], h.2⟩))
            have hnb : ¬ (-999999999 ≤ d ∧ d ≤ 999999999) := fun h => hgood (p1.2 h)
            generalize pvV (fmS d) = Z at hc12
            unfold FmAns at hc11 hc13
            generalize fmS d = D at hc11 hc12 hc13
            clear p1 p2 hgood hbad
            have hlo : (decide (-1000000000 < d) = false) ∨ (decide (-1000000000 < d) = true ∧ decide (d < 1000000000) = false) := by
              by_cases h : -1000000000 < d
              · right; exact ⟨by simpa using h, by simp; omega⟩
              · left; simpa using h
            clear hnb
            go_wp2_with fail
            refine (hc9.out _).mono ?_; rintro e w9 ⟨rfl, b9⟩
            have B9 := Lib.hid (B8.out.trans (b9.mono B8.out.size))
            clear b9
            go_wp2_with fail
            refine (hc10.out _ B9.out).mono ?_; rintro e w10 ⟨rfl, b10⟩
            have B10 := Lib.hid (B9.out.trans (b10.mono B9.out.size))
            clear b10
            go_wp2_with fail
            refine (hc11.out _ B10.out).mono ?_; rintro e w11 ⟨rfl, b11⟩
            have B11 := Lib.hid (B10.out.trans (b11.mono B10.out.size))
            clear b11
            go_wp2_with fail
            refine (hc12.out _ B11.out).mono ?_; rintro e w12 ⟨rfl, b12⟩
            have B12 := Lib.hid (B11.out.trans (b12.mono B11.out.size))
            clear b12
            go_wp2_with fail
            refine (hc13.out _).mono ?_; rintro e w13 ⟨rfl, b13⟩
            have B13 := Lib.hid (B12.out.trans (b13.mono B12.out.size))
            clear b13
            rcases hlo with hlo | ⟨hlo, hlo2⟩
            · go_wp2
              go_ret
              exact ⟨rfl, B13.out⟩
            · go_wp2
              go_ret
              exact ⟨rfl, B13.out⟩

end Go.Proofs.YthempdleolefnaaDoor
