/- The cursor from which the reference's inputs are drawn: what each of its functions leaves. Only that the drawn numbers lie in their bounds is told. -/
import Derived.Test.YtndooeffjkofdaaDoorMg1
import Derived.Deep.QuietTactic
import Derived.BigQuiet
import Derived.Laws.Bits128
import Derived.IntWalk
namespace Go.Proofs.YtndooeffjkofdaaDoor
open Go.RowKit
set_option linter.unusedVariables false
set_option linter.unusedSimpArgs false

theorem i64_and255 (n : Int) : bits .and .i64 n 255 = n % 256 := by
  have h127 : (BitVec.ofInt 64 255).toNat = 2 ^ 8 - 1 := by decide
  have key : (BitVec.ofInt 64 n &&& BitVec.ofInt 64 255).toNat = (n % ((2 ^ 64 : Nat) : Int)).toNat % 2 ^ 8 := by
    rw [BitVec.toNat_and, BitVec.toNat_ofInt, h127, Nat.and_two_pow_sub_one_eq_mod]
  show IntKind.i64.wrap ((BitVec.ofInt 64 n &&& BitVec.ofInt 64 255).toNat : Nat) = n % 256
  rw [key, IntKind.wrap_i64]
  omega
theorem i64_and30 (n : Int) : bits .and .i64 n 1073741823 = n % 1073741824 := by
  have h127 : (BitVec.ofInt 64 1073741823).toNat = 2 ^ 30 - 1 := by decide
  have key : (BitVec.ofInt 64 n &&& BitVec.ofInt 64 1073741823).toNat = (n % ((2 ^ 64 : Nat) : Int)).toNat % 2 ^ 30 := by
    rw [BitVec.toNat_and, BitVec.toNat_ofInt, h127, Nat.and_two_pow_sub_one_eq_mod]
  show IntKind.i64.wrap ((BitVec.ofInt 64 n &&& BitVec.ofInt 64 1073741823).toNat : Nat) = n % 1073741824
  rw [key, IntKind.wrap_i64]
  omega

/-- a slice of bytes that can be read: n of them, in a block below b -/
def Byt (w : World) (v : Value) (n : Nat) (b : Nat) : Prop :=
  ∃ a cap, v = .slice a n cap ∧ n ≤ cap ∧ cap ≤ maxLen ∧ (n = 0 ∨ ∃ g off, a = some ⟨g, off, none⟩ ∧ g < b ∧ g < w.heap.size ∧ ∀ i, i < n → ∃ x : Int, 0 ≤ x ∧ x ≤ 255 ∧ w.cell? ⟨g, off + i, none⟩ = some (.int .u8 x))
theorem Byt.keep {w w' : World} {v : Value} {n b : Nat} (h : Byt w v n b) (hs : w.heap.size ≤ w'.heap.size) (hk : ∀ k, k < b → k < w.heap.size → w'.heap[k]? = w.heap[k]?) : Byt w' v n b := by
  obtain ⟨a, cap, rfl, h1, h2, h3⟩ := h
  refine ⟨a, cap, rfl, h1, h2, h3.imp id ?_⟩
  rintro ⟨g, off, rfl, hg, hgs, hc⟩
  refine ⟨g, off, rfl, hg, by omega, fun i hi => ?_⟩
  obtain ⟨x, x0, x1, hx⟩ := hc i hi
  refine ⟨x, x0, x1, ?_⟩
  rw [← hx]
  unfold World.cell?
  simp only [hk g hg hgs]

theorem Byt.nil (W : World) (b : Nat) : Byt W (.slice none 0 0) 0 b := ⟨none, 0, rfl, Nat.le_refl _, by decide, .inl rfl⟩
theorem Byt.mk {W : World} {x : Addr} {l c : Nat} {zs : List Int} (hl : l ≤ c) (hm : c ≤ maxLen) (hz : zs.length = c)
    (hcell : ∀ i, i < zs.length → W.cell? (x.add i) = some (.int .u8 (zs.getD i 0))) (hwf : ∀ n ∈ zs, (Lit.int .u8 n).wf = true) : Byt W (.slice (some x) l c) l W.heap.size := by
  refine ⟨some x, c, rfl, hl, hm, ?_⟩
  by_cases h0 : l = 0
  · exact .inl h0
  · right
    obtain ⟨b, off, spot⟩ := x
    have hc0 := hcell 0 (by omega)
    obtain rfl : spot = none := by simpa [Addr.add] using World.cell?_spot hc0
    have hadd : ∀ i, (⟨b, off, none⟩ : Addr).add i = ⟨b, off + i, none⟩ := fun i => by unfold Addr.add; split <;> simp_all
    rw [hadd] at hc0
    refine ⟨b, off, rfl, World.block_lt_of_cell? W _ hc0, World.block_lt_of_cell? W _ hc0, fun i hi => ?_⟩
    have h := hcell i (by omega)
    rw [hadd] at h
    have hm : zs.getD i 0 ∈ zs := by rw [List.getD_eq_getElem?_getD, List.getElem?_eq_getElem (by omega)]; exact List.getElem_mem _
    generalize zs.getD i 0 = x at hm h
    have hw := hwf _ hm
    simp [Lit.wf, IntKind.min, IntKind.max, IntKind.bits, IntKind.signed] at hw
    exact ⟨_, by omega, by omega, h⟩
theorem Byt.below {w w' : World} {v : Value} {n b : Nat} (h : Byt w v n b) (k : Below w.heap.size w w') : Byt w' v n b := h.keep k.size (fun q _ hq => k.block q hq)
theorem Byt.mono {w : World} {v : Value} {n b b' : Nat} (h : Byt w v n b) (hb : b ≤ b') : Byt w v n b' := by
  obtain ⟨a, cap, rfl, h1, h2, h3⟩ := h
  refine ⟨a, cap, rfl, h1, h2, h3.imp id ?_⟩
  rintro ⟨g, off, rfl, hg, hgs, hc⟩
  exact ⟨g, off, rfl, by omega, hgs, hc⟩
theorem Byt.at {w : World} {a : Option Addr} {n cap b : Nat} (h : Byt w (.slice a n cap) n b) {i : Nat} (hi : i < n) : ∃ g off x, a = some ⟨g, off, none⟩ ∧ 0 ≤ x ∧ x ≤ 255 ∧ w.cell? ⟨g, off + i, none⟩ = some (.int .u8 x) := by
  obtain ⟨a', cap', e, h1, h2, h3⟩ := h
  simp only [Value.slice.injEq] at e
  obtain ⟨rfl, _, rfl⟩ := e
  rcases h3 with h0 | ⟨g, off, rfl, _, _, hc⟩
  · omega
  · obtain ⟨x, x0, x1, hx⟩ := hc i hi
    exact ⟨g, off, x, rfl, x0, x1, hx⟩
theorem blk3' {w : World} {b : Nat} {x y z : Value} {T : TypeId} (p : Blk w b #[x, y, z] T) : w.cell? ⟨b, 0, none⟩ = some x ∧ w.cell? ⟨b, 1, none⟩ = some y ∧ w.cell? ⟨b, 2, none⟩ = some z := ⟨p.cell 0, p.cell 1, p.cell 2⟩
/-- the cursor lies in block c -/
def Cur (w : World) (c : Nat) : Prop := ∃ (v : Value) (n i : Nat) (h : Int), Blk w c #[v, .int .i64 i, .int .i64 h] 67 ∧ Byt w v n c ∧ n ≤ 1048576 ∧ i ≤ n
theorem Cur.lt {w : World} {c : Nat} (h : Cur w c) : c < w.heap.size := by
  obtain ⟨v, n, i, hh, hb, _⟩ := h; exact hb.lt
theorem Cur.below {w w' : World} {c : Nat} (h : Cur w c) (b : Below w.heap.size w w') : Cur w' c := by
  obtain ⟨v, n, i, hh, hb, hy, hn, hi⟩ := h
  exact ⟨v, n, i, hh, hb.below b, hy.keep b.size (fun k _ hk => b.block k hk), hn, hi⟩
theorem Cur.belowB {w w' : World} {c B : Nat} (h : Cur w c) (b : Below B w w') (hc : c < B) : Cur w' c := by
  obtain ⟨v, n, i, hh, hb, hy, hn, hi⟩ := h
  exact ⟨v, n, i, hh, hb.belowB b hc, hy.keep b.size (fun k hk _ => b.block k (by omega)), hn, hi⟩
theorem Cur.drewN {w : World} {c : Nat} (h : Cur w c) (n : Nat) : Cur (w.drewN n) c := h
/-- only the cursor's block may have changed, and new blocks have come -/
def CChg (c : Nat) (w w' : World) : Prop := Chg (fun k => k = c) w w'
theorem CChg.refl (c : Nat) (w : World) : CChg c w w := Chg.refl _ w
theorem CChg.trans {c : Nat} {a b d : World} (h : CChg c a b) (k : CChg c b d) : CChg c a d := Chg.trans h k
theorem CChg.of_below {c : Nat} {a b : World} (h : Below a.heap.size a b) : CChg c a b := Chg.of_below h
theorem CChg.below {c : Nat} {a b : World} {B : Nat} (h : CChg c a b) (hB : B ≤ a.heap.size) (hc : B ≤ c) : Below B a b := Chg.below h hB (fun k e => by omega)
theorem CChg.drewN {c : Nat} {a b : World} (h : CChg c a b) (n : Nat) : CChg c a (b.drewN n) := ⟨h.1, h.2, h.3, h.4, h.5⟩
theorem Cur.set {w : World} {c : Nat} {v : Value} {n i : Nat} {h : Int} (hb : Blk w c #[v, .int .i64 i, .int .i64 h] 67) (hy : Byt w v n c) (k : Nat) (u : Value) :
    Blk (w.setCell ⟨c, k, none⟩ u) c (#[v, .int .i64 i, .int .i64 h].setIfInBounds k u) 67 ∧ Byt (w.setCell ⟨c, k, none⟩ u) v n c ∧ CChg c w (w.setCell ⟨c, k, none⟩ u) :=
  ⟨hb.set k u, hy.keep (by simp) (fun q hq _ => heap_setCell_other w ⟨c, k, none⟩ q u (fun e => by simp at e; omega)), (CChg.refl c w).setCell (p := ⟨c, k, none⟩) rfl u⟩

/-- a number was drawn, with a property -/
def Drawn (P : Int → Prop) (c : Nat) (w : World) (e : Ending) (w' : World) : Prop := ∃ r : Int, P r ∧ e = .returned (.int .i64 r) ∧ Cur w' c ∧ CChg c w w'

def NewCur (w : World) (e : Ending) (w' : World) : Prop := ∃ c, e = .returned (.pointer (some ⟨c, 0, none⟩)) ∧ w.heap.size ≤ c ∧ Cur w' c ∧ Below w.heap.size w w'
set_option maxRecDepth 100000 in
set_option maxHeartbeats 1000000 in
theorem s_l1New (v : Value) (n : Nat) (w : World) (hv : Byt w v n w.heap.size) (hn : n ≤ 1048576) :
    Calls Tryd.prog 27 #[v] w (NewCur w) := by
  have HV := Lib.hid hv
  obtain ⟨a, cap, rfl, h1, h2, h3⟩ := hv
  unfold maxLen at h2
  have HE := Lib.hid (fun (h : Int) => (show NewCur w (.returned (.pointer (some ⟨w.heap.size, 0, none⟩))) (w.alloc (.cells #[.slice a n cap, .int .i64 0, .int .i64 h] 67)) from
    ⟨w.heap.size, rfl, Nat.le_refl _, ⟨.slice a n cap, n, 0, h, Blk.new w _ _, HV.out.keep (by simp) (fun k _ hk => ((Below.refl _ w).alloc (Nat.le_refl _) _).block k hk), hn, Nat.zero_le _⟩, (Below.refl _ w).alloc (Nat.le_refl _) _⟩))
  have H3 := Lib.hid h3
  clear h3
  go_enter Tryd.func27, Tryd.ntmps27
  go_wp2
  go_loop [3, 4] (fun h i => ∃ (k : Nat) (H : Int), k ≤ n ∧ i = .int .i64 k ∧ h = .int .i64 H ∧ 0 ≤ H ∧ H ≤ 1073741824) (fun _ i => n - (intOf i).toNat)
  case atStart => exact ⟨0, 10101 + n, Nat.zero_le _, rfl, rfl, by omega, by omega⟩
  case round =>
    obtain ⟨k, H, hk, rfl, rfl, hH0, hH1⟩ := hrel
    by_cases hlt : k < n ∧ k < 4000
    · obtain ⟨hl1, hl2⟩ := hlt
      rcases H3.out with h0 | ⟨g, off, rfl, hg, hgs, hc⟩
      · omega
      obtain ⟨x, x0, x1, hx⟩ := hc k hl1
      clear hc
      have han := i64_and30
      go_wp2
      go_round
      case rel => exact ⟨k + 1, _, by omega, by go_num, rfl, by omega, by omega⟩
      case measure => simp [intOf]; omega
    · go_wp2
      all_goals
        go_ret
        exact HE.out _

set_option maxRecDepth 100000 in
set_option maxHeartbeats 2000000 in
theorem s_l1Byte (c : Nat) (w : World) (hcur : Cur w c) :
    Calls Tryd.prog 55 #[.pointer (some ⟨c, 0, none⟩)] w (Drawn (fun r => 0 ≤ r ∧ r ≤ 255) c w) := by
  obtain ⟨v, n, i, h, hb, hy, hn, hi⟩ := hcur
  obtain ⟨c0, c1, c2⟩ := blk3' hb
  have f2 := hb.frozen 2
  obtain ⟨a, cap, rfl, hv1, hv2, hv3⟩ := id hy
  unfold maxLen at hv2
  have HBY := Lib.hid (And.intro hb hy)
  have HV3 := Lib.hid hv3
  clear hb hy hv3
  go_enter Tryd.func55, Tryd.ntmps55
  go_wp2
  have H1 := Cur.set HBY.out.1 HBY.out.2 2 (.int .i64 (wrap64 (wrap64 (h * 6364136223846793005) + 1442695040888963407)))
  generalize wrap64 (wrap64 (h * 6364136223846793005) + 1442695040888963407) = h' at H1 ⊢
  obtain ⟨b1, y1, ch1⟩ := H1
  generalize w.setCell ⟨c, 2, none⟩ (.int .i64 h') = W at b1 y1 ch1 ⊢
  have b1 : Blk W c #[.slice a n cap, .int .i64 i, .int .i64 h'] 67 := b1
  clear c0 c1 c2 f2
  obtain ⟨c0, c1, c2⟩ := blk3' b1
  have f1 := b1.frozen 1
  have HB1 := Lib.hid (And.intro b1 (And.intro y1 ch1))
  clear b1 y1 ch1
  have han := i64_and255
  go_quiet (fail)
  go_wp2
  obtain ⟨x, hx, x0, x1⟩ : ∃ x : Int, bits .xor .i64 (h' / 8589934592) (h' / 35184372088832) % 256 = x ∧ 0 ≤ x ∧ x ≤ 255 := ⟨_, rfl, by omega, by omega⟩
  rw [hx]
  clear hx han
  by_cases hlt : i < n
  · obtain ⟨g, off, y, rfl, y0, y1, hy⟩ := HB1.out.2.1.at hlt
    have hlt' : (i : Int) < (n : Int) := by omega
    have hi0 : (0 : Int) ≤ (i : Int) := by omega
    have hw1 : IntKind.i64.wrap y = y := IntWalk.i64_in _ (by omega)
    have hw2 : IntKind.i64.wrap (x + y) = x + y := IntWalk.i64_in _ (by omega)
    have han := i64_and255
    go_quiet (fail)
    go_wp2
    go_quiet (fail)
    clear hw1 hw2
    obtain ⟨z, hz, z0, z1⟩ : ∃ z : Int, (x + y) % 256 = z ∧ 0 ≤ z ∧ z ≤ 255 := ⟨_, rfl, by omega, by omega⟩
    go_wp2
    rw [hz]
    clear hz han
    go_ret
    refine ⟨z, ⟨z0, z1⟩, rfl, ?_, ?_⟩
    · have H2 := Cur.set HB1.out.1 HB1.out.2.1 1 (.int .i64 ((i : Int) + 1))
      exact ⟨_, n, i + 1, h', H2.1, H2.2.1, hn, by omega⟩
    · have H2 := Cur.set HB1.out.1 HB1.out.2.1 1 (.int .i64 ((i : Int) + 1))
      exact HB1.out.2.2.trans ⟨H2.2.2.1, H2.2.2.2, H2.2.2.3, H2.2.2.4, H2.2.2.5⟩
  · have hd : decide ((i : Int) < (n : Int)) = false := by simp; omega
    go_quiet (fail)
    go_wp2
    go_ret
    exact ⟨x, ⟨x0, x1⟩, rfl, ⟨_, n, i, h', HB1.out.1, HB1.out.2.1, hn, hi⟩, (HB1.out.2.2.drewN _).drewN _⟩

/-- a number below n was drawn -/
def BelowP (n : Int) (r : Int) : Prop := (n ≤ 0 ∧ r = 0) ∨ (0 ≤ r ∧ r < n)
set_option maxRecDepth 100000 in
set_option maxHeartbeats 2000000 in
theorem s_l1Below (c : Nat) (n : Int) (w : World) (hcur : Cur w c) :
    Calls Tryd.prog 33 #[.pointer (some ⟨c, 0, none⟩), .int .i64 n] w (Drawn (BelowP n) c w) := by
  have HC := Lib.hid hcur
  clear hcur
  by_cases h0 : n ≤ 0
  · go_enter Tryd.func33, Tryd.ntmps33
    go_wp2
    go_ret
    exact ⟨0, .inl ⟨h0, rfl⟩, rfl, HC.out, CChg.refl _ _⟩
  · by_cases h256 : n ≤ 256
    · go_enter Tryd.func33, Tryd.ntmps33
      go_wp2_with fail
      refine (s_l1Byte c _ HC.out).mono ?_; rintro e w1 ⟨r, ⟨r0, r1⟩, rfl, hc1, hg1⟩
      have H1 := Lib.hid (And.intro hc1 hg1)
      clear hc1 hg1
      have hq := Lib.hid (And.intro (Int.emod_nonneg r (show n ≠ 0 by omega)) (Int.emod_lt_of_pos r (show 0 < n by omega)))
      go_wp2
      go_ret
      exact ⟨r % n, .inr hq.out, rfl, H1.out.1, H1.out.2⟩
    · go_enter Tryd.func33, Tryd.ntmps33
      go_wp2_with fail
      refine (s_l1Byte c _ HC.out).mono ?_; rintro e w1 ⟨x, ⟨x0, x1⟩, rfl, hc1, hg1⟩
      have H1 := Lib.hid (And.intro hc1 hg1)
      clear hc1 hg1
      go_wp2_with fail
      refine (s_l1Byte c _ H1.out.1).mono ?_; rintro e w2 ⟨y, ⟨y0, y1⟩, rfl, hc1, hg1⟩
      have H2 := Lib.hid (And.intro hc1 (H1.out.2.trans hg1))
      clear hc1 hg1
      go_wp2_with fail
      refine (s_l1Byte c _ H2.out.1).mono ?_; rintro e w3 ⟨z, ⟨z0, z1⟩, rfl, hc1, hg1⟩
      have H3 := Lib.hid (And.intro hc1 (H2.out.2.trans hg1))
      clear hc1 hg1
      go_wp2_with fail
      refine (s_l1Byte c _ H3.out.1).mono ?_; rintro e w4 ⟨t, ⟨t0, t1⟩, rfl, hc1, hg1⟩
      have H4 := Lib.hid (And.intro hc1 (H3.out.2.trans hg1))
      clear hc1 hg1
      have hq := Lib.hid (And.intro (Int.emod_nonneg (x * 16777216 + y * 65536 + z * 256 + t) (show n ≠ 0 by omega)) (Int.emod_lt_of_pos (x * 16777216 + y * 65536 + z * 256 + t) (show 0 < n by omega)))
      go_wp2
      go_ret
      exact ⟨_, .inr hq.out, rfl, H4.out.1, H4.out.2⟩

set_option maxRecDepth 100000 in
set_option maxHeartbeats 1000000 in
theorem s_l1PickInt (c : Nat) (v : Value) (l : List Int) (w : World) (hcur : Cur w c) (hv : Ints w v l) (hne : ∀ q, blk v = some q → q ≠ c) (hl : 0 < l.length) :
    Calls Tryd.prog 53 #[.pointer (some ⟨c, 0, none⟩), v] w (Drawn (fun r => r ∈ l) c w) := by
  obtain ⟨a, cap, rfl, h1, h2⟩ := hv.shape
  have HC := Lib.hid (And.intro hcur hv)
  have HNE := Lib.hid hne
  clear hcur hv hne
  go_enter Tryd.func53, Tryd.ntmps53
  go_wp2_with fail
  refine (s_l1Below c _ _ HC.out.1).mono ?_; rintro e w1 ⟨r, hr, rfl, hc1, hg1⟩
  obtain ⟨r0, r1⟩ : 0 ≤ r ∧ r < (l.length : Int) := by rcases hr with h | h <;> omega
  obtain ⟨k, rfl⟩ := Int.eq_ofNat_of_zero_le r0
  have hk : k < l.length := by omega
  have hv1 := HC.out.2.keep (w' := w1) fun q hq => hg1.block q (HC.out.2.lt q hq) (HNE.out q hq)
  obtain ⟨g, off, rfl, hgs, hcell, _⟩ := hv1.cell hk
  obtain ⟨x, hx⟩ : ∃ x, l.getD k 0 = x := ⟨_, rfl⟩
  rw [hx] at hcell
  have HX := Lib.hid hx
  have H1 := Lib.hid (And.intro hc1 hg1)
  clear hc1 hg1 hv1 hr hx
  go_wp2
  go_ret
  refine ⟨x, ?_, rfl, H1.out.1, H1.out.2⟩
  rw [← HX.out, List.getD_eq_getElem?_getD, List.getElem?_eq_getElem hk]
  exact List.getElem_mem hk

def DrawnB (c : Nat) (w : World) (e : Ending) (w' : World) : Prop := ∃ b : Bool, e = .returned (.bool b) ∧ Cur w' c ∧ CChg c w w'
set_option maxRecDepth 100000 in
set_option maxHeartbeats 1000000 in
theorem s_l1Once (c : Nat) (n : Int) (w : World) (hcur : Cur w c) :
    Calls Tryd.prog 31 #[.pointer (some ⟨c, 0, none⟩), .int .i64 n] w (DrawnB c w) := by
  have HC := Lib.hid hcur
  clear hcur
  go_enter Tryd.func31, Tryd.ntmps31
  go_wp2_with fail
  refine (s_l1Below c _ _ HC.out).mono ?_; rintro e w1 ⟨r, hr, rfl, hc1, hg1⟩
  have H1 := Lib.hid (And.intro hc1 hg1)
  clear hc1 hg1
  go_wp2
  go_ret
  exact ⟨_, rfl, H1.out.1, H1.out.2⟩

end Go.Proofs.YtndooeffjkofdaaDoor
