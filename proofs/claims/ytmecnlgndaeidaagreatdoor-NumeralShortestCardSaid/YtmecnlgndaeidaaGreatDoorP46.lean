/- SN10 SN11 SN12 SN13 in one text. -/
import Derived.Test.YtmecnlgndaeidaaGreatDoorP31
import Derived.Test.YtmecnlgndaeidaaGreatDoorP42
import Derived.Test.YtmecnlgndaeidaaGreatDoorP43
import Derived.Test.YtmecnlgndaeidaaGreatDoorP45
import Derived.Test.YtmecnlgndaeidaaGreatDoorP17
import Derived.Test.YtmecnlgndaeidaaGreatDoorP28

namespace Go.Proofs.YtmecnlgndaeidaaGreatDoor.Bg
open Go Go.RowKit

/-- the search's state: the numerator, the denominator, ten -/
structure NbG (w W : World) (zn zd zt : Addr) (a b : Nat) : Prop where
  bw : Below w.heap.size w W
  n : IntAt W zn (a : Int) 40
  sn : Slot W zn
  d : IntAt W zd (b : Int) 40
  sd : Slot W zd
  t : IntAt W zt ((10 : Nat) : Int) 2
  ln : w.heap.size ≤ zn.block
  ld : w.heap.size ≤ zd.block
  nd : zd.block ≠ zn.block
  tn : zt.block ≠ zn.block
  td : zt.block ≠ zd.block
theorem NbG.below {w W W' : World} {zn zd zt : Addr} {a b : Nat} (h : NbG w W zn zd zt a b) (k : Below W.heap.size W W') : NbG w W' zn zd zt a b :=
  ⟨h.bw.trans (k.mono h.bw.size), h.n.below k, h.sn.below k, h.d.below k, h.sd.below k, h.t.below k, h.ln, h.ld, h.nd, h.tn, h.td⟩
theorem NbG.keep {w W W' : World} {zn zd zt : Addr} {a b g : Nat} (h : NbG w W zn zd zt a b) (k : KeepB W W' g) (hn : zn.block ≠ g) (hd : zd.block ≠ g) (ht : zt.block ≠ g) (hg : w.heap.size ≤ g) : NbG w W' zn zd zt a b :=
  ⟨h.bw.trans (k.below _ hg h.bw.size), k.intAt h.n hn, k.slot h.sn hn, k.intAt h.d hd, k.slot h.sd hd, k.intAt h.t ht, h.ln, h.ld, h.nd, h.tn, h.td⟩
theorem NbG.lt {w W : World} {zn zd zt : Addr} {a b : Nat} (h : NbG w W zn zd zt a b) : zn.block < W.heap.size ∧ zd.block < W.heap.size ∧ zt.block < W.heap.size := ⟨intAt_lt h.n, intAt_lt h.d, intAt_lt h.t⟩

theorem nb_quo (w W : World) (zn zd zt : Addr) (a b : Nat) (hG : NbG w W zn zd zt a b) (hb : 0 < b) :
    Calls Tryz.prog 32 #[.pointer (some ⟨W.heap.size, 0, none⟩), .pointer (some zn), .pointer (some zd)] (W.alloc (.cells #[.bool false, .slice none 0 0] 67)) fun e w2 => e = .returned (.pointer (some ⟨W.heap.size, 0, none⟩)) ∧ NbG w w2 zn zd zt a b ∧ IntAt w2 ⟨W.heap.size, 0, none⟩ ((a / b : Nat) : Int) 40 ∧ Slot w2 ⟨W.heap.size, 0, none⟩ ∧ Below W.heap.size W w2 := by
  have hal : Below W.heap.size W (W.alloc (.cells #[.bool false, .slice none 0 0] 67)) := (Below.refl _ _).alloc (Nat.le_refl _) _
  have hsl := Slot.new W false none 0 0 67
  have hG1 := hG.below hal
  obtain ⟨l1, l2, l3⟩ := hG.lt
  refine (Quo_any ⟨W.heap.size, 0, none⟩ zn zd a b 40 40 _ hsl hG1.n hG1.d (by omega) (by omega) hb (by omega)).mono ?_
  intro e w2 hg
  have k := KeepB.of_gives hg hsl
  refine ⟨hg.1, hG1.keep k (by show zn.block ≠ W.heap.size; omega) (by show zd.block ≠ W.heap.size; omega) (by show zt.block ≠ W.heap.size; omega) hG.bw.size, hg.2.2, hg.2.1.slot hsl hsl, hal.trans (k.below _ (Nat.le_refl _) hal.size)⟩
theorem nb_pow (w W w4 : World) (zn zd zt zq zi : Addr) (a b x n : Nat) (hG : NbG w W zn zd zt a b) (hq : IntAt W zq (x : Int) 40)
    (h4 : Below (W.alloc (.cells #[.bool false, .slice none 0 0] 67)).heap.size (W.alloc (.cells #[.bool false, .slice none 0 0] 67)) w4) (hi : IntAt w4 zi (n : Int) 2) (hn : 10 ^ n < 4294967296 ^ 2) :
    Calls Tryz.prog 34 #[.pointer (some ⟨W.heap.size, 0, none⟩), .pointer (some zt), .pointer (some zi), .pointer none] w4 fun e w5 => e = .returned (.pointer (some ⟨W.heap.size, 0, none⟩)) ∧ NbG w w5 zn zd zt a b ∧ IntAt w5 zq (x : Int) 40 ∧ IntAt w5 ⟨W.heap.size, 0, none⟩ ((10 ^ n : Nat) : Int) 40 ∧ Below W.heap.size W w5 := by
  have hal : Below W.heap.size W (W.alloc (.cells #[.bool false, .slice none 0 0] 67)) := (Below.refl _ _).alloc (Nat.le_refl _) _
  have hb4 : Below W.heap.size W w4 := hal.trans (h4.mono hal.size)
  have hsl := (Slot.new W false none 0 0 67).below h4
  have hG1 := hG.below hb4
  obtain ⟨l1, l2, l3⟩ := hG.lt
  have l4 := intAt_lt hq
  refine (Exp_any ⟨W.heap.size, 0, none⟩ zt zi 10 n 2 w4 hsl hG1.t hi (by omega) hn (by omega) (by omega)).mono ?_
  intro e w5 hg
  have k := KeepB.of_gives hg hsl
  exact ⟨hg.1, hG1.keep k (by show zn.block ≠ W.heap.size; omega) (by show zd.block ≠ W.heap.size; omega) (by show zt.block ≠ W.heap.size; omega) hG.bw.size, k.intAt (hq.below hb4) (by show zq.block ≠ W.heap.size; omega), hg.2.2.more (by omega), hb4.trans (k.below _ (Nat.le_refl _) hb4.size)⟩
theorem nb_mul_den (w W : World) (zn zd zt : Addr) (a b : Nat) (hG : NbG w W zn zd zt a b) (hb : b * 10 < 4294967296 ^ 40) :
    Calls Tryz.prog 35 #[.pointer (some zd), .pointer (some zd), .pointer (some zt)] W fun e W' => e = .returned (.pointer (some zd)) ∧ NbG w W' zn zd zt a (b * 10) := by
  refine (Mul_self zd zt b 10 40 2 W hG.sd hG.d hG.t (fun h => hG.td (by rw [h])) (by omega) (by omega)).mono ?_
  intro e W' hg
  have k := KeepB.of_gives hg hG.sd
  have h2 := k.below w.heap.size hG.ld hG.bw.size
  exact ⟨hg.1, hG.bw.trans h2, k.intAt hG.n (Ne.symm hG.nd), k.slot hG.sn (Ne.symm hG.nd), intAt_less hg.2.2 hb, hg.2.1.slot hG.sd hG.sd, k.intAt hG.t hG.td, hG.ln, hG.ld, hG.nd, hG.tn, hG.td⟩
theorem nb_mul_num (w W : World) (zn zd zt : Addr) (a b : Nat) (hG : NbG w W zn zd zt a b) (ha : a * 10 < 4294967296 ^ 40) :
    Calls Tryz.prog 35 #[.pointer (some zn), .pointer (some zn), .pointer (some zt)] W fun e W' => e = .returned (.pointer (some zn)) ∧ NbG w W' zn zd zt (a * 10) b := by
  refine (Mul_self zn zt a 10 40 2 W hG.sn hG.n hG.t (fun h => hG.tn (by rw [h])) (by omega) (by omega)).mono ?_
  intro e W' hg
  have k := KeepB.of_gives hg hG.sn
  have h2 := k.below w.heap.size hG.ln hG.bw.size
  exact ⟨hg.1, hG.bw.trans h2, intAt_less hg.2.2 ha, hg.2.1.slot hG.sn hG.sn, k.intAt hG.d hG.nd, k.slot hG.sd hG.nd, k.intAt hG.t hG.tn, hG.ln, hG.ld, hG.nd, hG.tn, hG.td⟩
theorem cmp_nat {x y : Nat} : (0 ≤ cmpI (x : Int) (y : Int) ↔ y ≤ x) ∧ (cmpI (x : Int) (y : Int) < 0 ↔ x < y) := by
  unfold cmpI
  constructor <;> split <;> constructor <;> intro h <;> (try split at h) <;> (try split) <;> omega
theorem words40 {x e : Nat} (he : e ≤ 1280) (h : x < 2 ^ e) : x < 4294967296 ^ 40 := by
  have k : ∀ a b : Nat, a ≤ 32 * b → 2 ^ a ≤ 4294967296 ^ b := fun a b hab => by
    have e1 : (4294967296 : Nat) ^ b = 2 ^ (32 * b) := by rw [Nat.pow_mul]
    rw [e1]
    exact Nat.pow_le_pow_right (by omega) hab
  exact Nat.lt_of_lt_of_le h (k e 40 (by omega))
theorem ten_two {n : Nat} (h : n ≤ 17) : 10 ^ n < 4294967296 ^ 2 :=
  Nat.lt_of_le_of_lt (Nat.pow_le_pow_right (by omega) h) (by decide)
end Go.Proofs.YtmecnlgndaeidaaGreatDoor.Bg

namespace Go.Proofs.YtmecnlgndaeidaaGreatDoor.Bg
open Go Go.RowKit

/-- what Neighbours answers -/
def NbSays (m n : Nat) (E : Int) (w : World) (e : Ending) (w' : World) : Prop :=
  ∃ (g q : Nat) (K : Int) (S1 S2 : ByteArray), e = .returned (.slice (some ⟨g, 0, none⟩) 2 2) ∧ w'.cell? ⟨g, 0, none⟩ = some (.string S1) ∧ w'.cell? ⟨g, 1, none⟩ = some (.string S2) ∧ g < w'.heap.size ∧
    S1.data.toList = (Nb.nbT q K).list ∧ S2.data.toList = (Nb.nbT (q + 1) K).list ∧ S1.size ≤ 100 ∧ S2.size ≤ 100 ∧ 10 ^ (n - 1) ≤ q ∧ q < 10 ^ n ∧ q = Nb.lowK (m * 2 ^ E.toNat) (2 ^ (-E).toNat) K ∧ -2000 ≤ K ∧ K ≤ 2000 ∧ Below w.heap.size w w'

set_option maxRecDepth 8000 in
set_option maxHeartbeats 8000000 in
theorem neighbours_any (zp : Addr) (m n : Nat) (E : Int) (w : World) (hp : IntAt w zp (m : Int) 2) (hm0 : 0 < m) (hm : m < 9007199254740992) (hE : -1074 ≤ E ∧ E ≤ 1040) (hn : 1 ≤ n ∧ n ≤ 16) (hP : Nb.TabP w) :
    Calls Tryz.prog 10 #[.agg #[.pointer (some zp), .int .i64 E], .int .i64 (n : Int)] w (NbSays m n E w) := by
  obtain ⟨eA, heA⟩ : ∃ eA : Nat, eA = 1100 := ⟨_, rfl⟩
  have HEA := Lib.hid heA
  clear heA
  obtain ⟨W1, hW1⟩ : ∃ W1, w.alloc (.cells #[.pointer (some zp), .int .i64 E] 31) = W1 := ⟨_, rfl⟩
  have hB1 : Below w.heap.size w W1 := by rw [← hW1]; exact (Below.refl w.heap.size w).alloc (Nat.le_refl _) _
  have hs1 : W1.heap.size = w.heap.size + 1 := by rw [← hW1]; simp
  have hcx : W1.cell? ⟨w.heap.size, 0, none⟩ = some (.pointer (some zp)) ∧ W1.cell? ⟨w.heap.size, 1, none⟩ = some (.int .i64 E) := by
    rw [← hW1]
    refine ⟨?_, ?_⟩ <;> simp [go_sem]
  obtain ⟨W2, hW2⟩ : ∃ W2, W1.alloc (.cells #[.bool false, .slice none 0 0] 67) = W2 := ⟨_, rfl⟩
  have h12 : Below W1.heap.size W1 W2 := by rw [← hW2]; exact (Below.refl _ _).alloc (Nat.le_refl _) _
  have hsl2 : Slot W2 ⟨W1.heap.size, 0, none⟩ := by rw [← hW2]; exact Slot.new W1 false none 0 0 67
  have hlt1 : w.heap.size < W1.heap.size := by omega
  have c1 := (h12.cell (p := ⟨w.heap.size, 0, none⟩) hlt1).trans hcx.1
  have HST := Lib.hid (Set_any ⟨W1.heap.size, 0, none⟩ zp (m : Int) 2 W2 hsl2 ((hp.below hB1).below h12) (by omega))
  have HX := Lib.hid (And.intro hB1 (And.intro hs1 (And.intro hcx.2 (And.intro h12 hsl2))))
  have HP := Lib.hid hP
  have HM := Lib.hid (And.intro hm0 hm)
  clear hB1 hs1 hcx hp h12 hsl2 hP hm0 hm
  go_enter Tryz.func10, Tryz.ntmps10
  go_wp2_with fail
  refine HST.out.mono ?_
  rintro e w3 hg
  have hk3 := KeepB.of_gives hg HX.out.2.2.2.2
  have hn3 := hg.2.2
  have hsn3 := hg.2.1.slot HX.out.2.2.2.2 HX.out.2.2.2.2
  have hs2 := HX.out.2.2.2.1.size
  have c3 := (hk3.cell ⟨w.heap.size, 1, none⟩ (by show w.heap.size < W2.heap.size; omega) (by show w.heap.size ≠ W1.heap.size; omega)).trans ((HX.out.2.2.2.1.cell (p := ⟨w.heap.size, 1, none⟩) hlt1).trans HX.out.2.2.1)
  have hb3 : Below W1.heap.size W1 w3 := HX.out.2.2.2.1.trans (hk3.below _ (Nat.le_refl _) hs2)
  obtain ⟨rfl, -⟩ := id hg
  have H3 := Lib.hid (And.intro hn3 (And.intro hsn3 (And.intro c3 hb3)))
  clear hg hk3 hn3 hsn3 c3 hb3 hW1 hW2 c1 HST
  have HI1 := Lib.hid (newInt_any 1 w3 (by omega) (by omega))
  go_wp2_with fail
  refine HI1.out.mono ?_
  rintro e w4 ⟨zd, rfl, hzd, sd, id4, b4⟩
  have hs3 := H3.out.2.2.2.size
  obtain ⟨zn, hzn⟩ : ∃ zn : Addr, (⟨W1.heap.size, 0, none⟩ : Addr) = zn := ⟨_, rfl⟩
  have hznb : zn.block = W1.heap.size := by rw [← hzn]
  have hzn3 : W1.heap.size < w3.heap.size := intAt_lt H3.out.1
  have c4 := (b4.cell (p := ⟨w.heap.size, 1, none⟩) (by show w.heap.size < w3.heap.size; omega)).trans H3.out.2.2.1
  have hn4 := H3.out.1.below b4
  have hsn4 := H3.out.2.1.below b4
  rw [hzn] at hn4 hsn4 ⊢
  have HB4 : Hid (Below w.heap.size w w4) := Lib.hid (HX.out.1.trans ((H3.out.2.2.2.trans (b4.mono hs3)).mono HX.out.1.size))
  have H4 := Lib.hid (And.intro hn4 (And.intro hsn4 (And.intro id4 (And.intro sd (And.intro hzd hznb)))))
  have hs4 := b4.size
  clear hn4 hsn4 id4 sd HI1 b4 hzn
  rcases Int.lt_or_le E 0 with hE0 | hE0
  · obtain ⟨N, rfl⟩ : ∃ N : Nat, E = -(N : Int) := ⟨(-E).toNat, by omega⟩
    have hNl : N ≤ 1074 := by omega
    have hNz : ¬ N = 0 := by omega
    have hLS := Lsh_any zd zd 1 N 2 w4 H4.out.2.2.2.1 H4.out.2.2.1 (by omega) (by omega)
    rw [show (1 : Int) * ((2 ^ N : Nat) : Int) = ((2 ^ N : Nat) : Int) by omega] at hLS
    obtain ⟨D0, hD0⟩ : ∃ D0, 2 ^ N = D0 := ⟨_, rfl⟩
    obtain ⟨N0, hN0⟩ : ∃ N0, m = N0 := ⟨_, rfl⟩
    rw [hD0] at hLS
    have HLS := Lib.hid hLS
    have HND : Hid (N0 = m * 2 ^ (-(N : Int)).toNat ∧ D0 = 2 ^ (- -(N : Int)).toNat ∧ 0 < N0 ∧ 0 < D0 ∧ N0 < 2 ^ eA ∧ D0 < 2 ^ eA) := Lib.hid (by
      rw [show (-(N : Int)).toNat = 0 by omega, Nat.pow_zero, Nat.mul_one, show (- -(N : Int)).toNat = N by omega, hD0]
      refine ⟨hN0.symm, rfl, by rw [← hN0]; exact HM.out.1, by rw [← hD0]; exact Nat.two_pow_pos _, ?_, ?_⟩
      · have h9 : (9007199254740992 : Nat) ≤ 2 ^ eA := by
          have h8 : (2 : Nat) ^ 53 ≤ 2 ^ eA := Nat.pow_le_pow_right (by omega) (by have := HEA.out; omega)
          have h7 : (2 : Nat) ^ 53 = 9007199254740992 := by decide
          omega
        have := HM.out.2
        omega
      · rw [← hD0]; exact Nat.pow_lt_pow_right (by omega) (by have := HEA.out; omega))
    clear hLS hD0
    go_wp2_with fail
    refine HLS.out.mono ?_
    rintro e w5 hg
    have hk5 := KeepB.of_gives hg H4.out.2.2.2.1
    have hzd0 : w3.heap.size ≤ zd.block := hzd
    have HG5 : Hid (IntAt w5 zn (N0 : Int) 40 ∧ Slot w5 zn ∧ IntAt w5 zd (D0 : Int) 40 ∧ Slot w5 zd ∧ Below w.heap.size w w5) := Lib.hid (by
      have hne : zn.block ≠ zd.block := by rw [hznb]; omega
      have h9 := hk5.intAt H4.out.1 hne
      rw [hN0] at h9
      exact ⟨h9.more (by omega), hk5.slot H4.out.2.1 hne, hg.2.2.more (by omega), hg.2.1.slot H4.out.2.2.2.1 H4.out.2.2.2.1, HB4.out.trans (hk5.below _ (by have := HX.out.1.size; omega) HB4.out.size)⟩)
    obtain ⟨rfl, -⟩ := id hg
    clear hg hk5 HLS hN0 c4 hNz
    have HI10 := Lib.hid (newInt_any 10 w5 (by omega) (by omega))
    go_wp2_with fail
    refine HI10.out.mono ?_
    rintro e w6 ⟨zt, rfl, hzt, st, it6, b6⟩
    have HG6 : Hid (NbG w w6 zn zd zt N0 D0) := Lib.hid (by
      obtain ⟨g1, g2, g3, g4, g5⟩ := HG5.out
      have l1 := intAt_lt g1
      have l2 := intAt_lt g3
      have hw := HX.out.1.size
      exact ⟨g5.trans (b6.mono g5.size), g1.below b6, g2.below b6, g3.below b6, g4.below b6, it6, by rw [hznb]; exact hw, by omega, by intro h; rw [hznb] at h; omega, by intro h; omega, by intro h; omega⟩)
    clear hzt st it6 b6 HI10 HG5 hznb hzn3 hs4 hs3 hs2 hlt1
    go_wp2_with fail
    go_loopw [7] (fun v wr => ∃ j : Nat, v = .int .i64 (j : Int) ∧ j ≤ 1100 ∧ Hid (NbG w wr zn zd zt N0 (D0 * 10 ^ j) ∧ D0 * 10 ^ j < 2 ^ eA)) (fun v _ => 1200 - (intOf v).toNat)
    case atStart => exact ⟨0, rfl, by omega, Lib.hid ⟨by rw [Nat.pow_zero, Nat.mul_one]; exact HG6.out, by rw [Nat.pow_zero, Nat.mul_one]; exact HND.out.2.2.2.2.2⟩⟩
    case round =>
      clear HG6
      obtain ⟨j, rfl, hj, hg⟩ := hrel
      obtain ⟨D1, hD1⟩ : ∃ D1, D0 * 10 ^ j = D1 := ⟨_, rfl⟩
      rw [hD1] at hg
      have hD10 : 0 < D1 := by rw [← hD1]; exact Nat.mul_pos HND.out.2.2.2.1 (Nat.pow_pos (by omega))
      obtain ⟨Q, hQ⟩ : ∃ Q, N0 / D1 = Q := ⟨_, rfl⟩
      have HQ := nb_quo w wr zn zd zt N0 D1 hg.out.1 hD10
      rw [hQ] at HQ
      have HQ' := Lib.hid HQ
      have HDQ := Lib.hid (And.intro hD1 (And.intro hQ hD10))
      have HW := Lib.hid hg.out.2
      clear HQ hD1 hQ hD10 hg
      go_wp2_with fail
      refine HQ'.out.mono ?_
      rintro e w8 ⟨rfl, g8, q8, s8, b8⟩
      obtain ⟨zq, hzq⟩ : ∃ zq : Addr, (⟨wr.heap.size, 0, none⟩ : Addr) = zq := ⟨_, rfl⟩
      rw [hzq] at q8 s8 ⊢
      have HIn := Lib.hid (newInt_any (n : Int) (w8.alloc (.cells #[.bool false, .slice none 0 0] 67)) (by omega) (by omega))
      have H8 := Lib.hid (And.intro g8 q8)
      clear g8 q8 s8 b8 HQ' hzq
      go_wp2_with fail
      refine HIn.out.mono ?_
      rintro e w9 ⟨zi, rfl, -, -, i9, b9⟩
      have HPw := Lib.hid (nb_pow w w8 w9 zn zd zt zq zi N0 D1 Q n H8.out.1 H8.out.2 b9 i9 (ten_two (by omega)))
      obtain ⟨T, hT⟩ : ∃ T, 10 ^ n = T := ⟨_, rfl⟩
      rw [hT] at HPw
      have HTT := Lib.hid hT
      clear i9 b9 HIn hT
      go_wp2_with fail
      refine HPw.out.mono ?_
      rintro e wa ⟨rfl, ga, qa, pa, ba⟩
      have HC := Lib.hid (Cmp_any zq ⟨w8.heap.size, 0, none⟩ (Q : Int) (T : Int) 40 wa qa pa (by omega))
      have Ha := Lib.hid ga
      clear ga qa pa ba HPw H8
      go_wp2_with fail
      refine HC.out.mono ?_
      rintro e wb ⟨rfl, dr, rfl⟩
      have Hb : Hid (NbG w (wa.drewN dr) zn zd zt N0 D1) := Lib.hid (Ha.out.below (below_dN (Below.refl _ _) dr))
      have hcn := @cmp_nat Q T
      obtain ⟨cc, hcc⟩ : ∃ cc : Int, cmpI (Q : Int) (T : Int) = cc := ⟨_, rfl⟩
      rw [hcc] at hcn ⊢
      clear hcc Ha HC
      generalize wa.drewN dr = wb at *
      by_cases hge : T ≤ Q
      · have hc0 : 0 ≤ cc := hcn.1.2 hge
        have hup := @Nb.nb_up N0 D0 n j eA (by omega) (by rw [HDQ.out.1, HDQ.out.2.1, HTT.out]; exact hge) HND.out.2.2.2.1 HND.out.2.2.2.2.1
        have HUP := Lib.hid hup.1
        have hj1 : j < 1100 := by have := hup.2; have := HEA.out; omega
        have HMu := Lib.hid (nb_mul_den w wb zn zd zt N0 D1 Hb.out (words40 (e := eA + 60) (by have := HEA.out; omega) (by
          have h9 := hup.1
          rw [Nat.pow_succ, ← Nat.mul_assoc, HDQ.out.1] at h9
          exact Nat.lt_of_lt_of_le h9 (Nat.pow_le_pow_right (by omega) (by omega)))))
        clear hup hcn hge
        go_wp2_with fail
        refine HMu.out.mono ?_
        rintro e wc ⟨rfl, gc⟩
        have Hc := Lib.hid gc
        clear gc HMu
        go_wp2_with fail
        go_roundw
        case rel => exact ⟨j + 1, int_eq (by omega), by omega, Lib.hid ⟨by
          have h9 := Hc.out
          rw [← HDQ.out.1, Nat.mul_assoc, ← Nat.pow_succ] at h9
          exact h9, HUP.out⟩⟩
        case measure => simp [intOf]; omega
      · have hc0 : ¬ 0 ≤ cc := fun h => hge (hcn.1.1 h)
        have hqt : N0 * 10 ^ 0 / D1 < T := by rw [Nat.pow_zero, Nat.mul_one, HDQ.out.2.1]; omega
        have HQT := Lib.hid hqt
        have hD10 := HDQ.out.2.2
        clear hcn hge hqt
        obtain ⟨WL, hWL⟩ : ∃ WL, wb = WL := ⟨_, rfl⟩
        have HbL := Hb
        clear hWL
        have HJ := Lib.hid hj
        have HD1L : Hid (D1 < 2 ^ eA) := Lib.hid HW.out
        clear WL
        go_wp2_with fail
        go_loopw [7] (fun v wr => ∃ i : Nat, v = .int .i64 ((j : Int) - (i : Int)) ∧ i ≤ 1160 ∧ Hid (NbG w wr zn zd zt (N0 * 10 ^ i) D1 ∧ N0 * 10 ^ i / D1 < T ∧ N0 * 10 ^ i < 2 ^ (eA + 60))) (fun v _ => (intOf v + 1200).toNat)
        case atStart => exact ⟨0, by simp, by omega, Lib.hid ⟨by rw [Nat.pow_zero, Nat.mul_one]; exact HbL.out, HQT.out, by rw [Nat.pow_zero, Nat.mul_one]; exact Nat.lt_of_lt_of_le HND.out.2.2.2.2.1 (Nat.pow_le_pow_right (by omega) (by omega))⟩⟩
        case round =>
          clear HbL Hb HQT
          obtain ⟨i, rfl, hi, hg⟩ := hrel
          obtain ⟨N1, hN1⟩ : ∃ N1, N0 * 10 ^ i = N1 := ⟨_, rfl⟩
          rw [hN1] at hg
          have hN10 : 0 < N1 := by rw [← hN1]; exact Nat.mul_pos HND.out.2.2.1 (Nat.pow_pos (by omega))
          obtain ⟨R, hR⟩ : ∃ R, N1 / D1 = R := ⟨_, rfl⟩
          have HQ := nb_quo w wr zn zd zt N1 D1 hg.out.1 hD10
          rw [hR] at HQ
          have HQ' := Lib.hid HQ
          have HRR := Lib.hid (And.intro hN1 (And.intro hR (And.intro hN10 (And.intro hg.out.2.1 hg.out.2.2))))
          have HGR := Lib.hid hg.out.1
          obtain ⟨K, hK⟩ : ∃ K : Int, (j : Int) - (i : Int) = K := ⟨_, rfl⟩
          have HK := Lib.hid hK
          have hK0 : -1160 ≤ K := by omega
          have hK1 : K ≤ 1100 := by omega
          rw [hK]
          clear HQ hN1 hR hN10 hg hK
          go_wp2_with fail
          refine HQ'.out.mono ?_
          rintro e w8 ⟨rfl, g8, q8, s8, b8⟩
          obtain ⟨zq, hzq⟩ : ∃ zq : Addr, (⟨wr.heap.size, 0, none⟩ : Addr) = zq := ⟨_, rfl⟩
          rw [hzq] at q8 s8 ⊢
          have HIn := Lib.hid (newInt_any ((n : Int) - 1) (w8.alloc (.cells #[.bool false, .slice none 0 0] 67)) (by omega) (by omega))
          have H8 := Lib.hid (And.intro g8 q8)
          clear g8 q8 s8 b8 HQ' hzq
          go_wp2_with fail
          refine HIn.out.mono ?_
          rintro e w9 ⟨zi, rfl, -, -, i9, b9⟩
          have i9' : IntAt w9 zi ((n - 1 : Nat) : Int) 2 := by rw [show ((n - 1 : Nat) : Int) = (n : Int) - 1 by omega]; exact i9
          have HPw := Lib.hid (nb_pow w w8 w9 zn zd zt zq zi N1 D1 R (n - 1) H8.out.1 H8.out.2 b9 i9' (ten_two (by omega)))
          obtain ⟨T1, hT1⟩ : ∃ T1, 10 ^ (n - 1) = T1 := ⟨_, rfl⟩
          rw [hT1] at HPw
          have HT1 := Lib.hid hT1
          clear i9 i9' b9 HIn hT1
          go_wp2_with fail
          refine HPw.out.mono ?_
          rintro e wa ⟨rfl, ga, qa, pa, ba⟩
          have HC := Lib.hid (Cmp_any zq ⟨w8.heap.size, 0, none⟩ (R : Int) (T1 : Int) 40 wa qa pa (by omega))
          have Ha := Lib.hid ga
          clear ga qa pa ba HPw H8
          go_wp2_with fail
          refine HC.out.mono ?_
          rintro e wb ⟨rfl, dr, rfl⟩
          have Hb : Hid (NbG w (wa.drewN dr) zn zd zt N1 D1) := Lib.hid (Ha.out.below (below_dN (Below.refl _ _) dr))
          have hcn := @cmp_nat R T1
          obtain ⟨cc, hcc⟩ : ∃ cc : Int, cmpI (R : Int) (T1 : Int) = cc := ⟨_, rfl⟩
          rw [hcc] at hcn ⊢
          clear hcc Ha HC
          generalize wa.drewN dr = wb at *
          by_cases hlt : R < T1
          · have hc1 : cc < 0 := hcn.2.2 hlt
            have hdn := @Nb.nb_down N0 D1 n i eA (by omega) (by omega) (by rw [HRR.out.1, HRR.out.2.1, HT1.out]; exact hlt) hD10 HND.out.2.2.1 HD1L.out
            have hnx := @Nb.nb_next N0 D1 n i (by omega) (by rw [HRR.out.1, HRR.out.2.1, HT1.out]; exact hlt) hD10
            rw [HTT.out] at hnx
            have HDN := Lib.hid (And.intro hdn.1 hnx)
            have hi1 : i < 1160 := by have := hdn.2; have := HEA.out; omega
            have HMu := Lib.hid (nb_mul_num w wb zn zd zt N1 D1 Hb.out (words40 (e := eA + 60) (by have := HEA.out; omega) (by
              have h9 := hdn.1
              rw [Nat.pow_succ, ← Nat.mul_assoc, HRR.out.1] at h9
              exact h9)))
            clear hdn hnx hcn hlt
            go_wp2_with fail
            refine HMu.out.mono ?_
            rintro e wc ⟨rfl, gc⟩
            have Hc := Lib.hid gc
            clear gc HMu
            go_wp2_with fail
            go_roundw
            case rel => exact ⟨i + 1, int_eq (by have := HK.out; omega), by omega, Lib.hid ⟨by
              have h9 := Hc.out
              rw [← HRR.out.1, Nat.mul_assoc, ← Nat.pow_succ] at h9
              exact h9, HDN.out.2, HDN.out.1⟩⟩
            case measure => simp [intOf]; omega
          · have hc1 : ¬ cc < 0 := fun h => hlt (hcn.2.1 h)
            have HE1 : Hid (T1 ≤ R) := Lib.hid (by omega)
            clear hcn hlt
            have HQ2 := nb_quo w wb zn zd zt N1 D1 Hb.out hD10
            rw [HRR.out.2.1] at HQ2
            have HQ3 := Lib.hid HQ2
            clear HQ2
            go_wp2_with fail
            refine HQ3.out.mono ?_
            rintro e wc ⟨rfl, gc, qc, sc, bc⟩
            obtain ⟨zq, hzq⟩ : ∃ zq : Addr, (⟨wb.heap.size, 0, none⟩ : Addr) = zq := ⟨_, rfl⟩
            have hzqb : wb.heap.size = zq.block := by rw [← hzq]
            rw [hzq] at qc sc ⊢
            have hR0 : 0 < R := by have h9 := HE1.out; rw [← HT1.out] at h9; have h8 : 0 < 10 ^ (n - 1) := Nat.pow_pos (by omega); omega
            have hRn : R < 10 ^ n := by rw [HTT.out, ← HRR.out.2.1]; exact HRR.out.2.2.2.1
            have hr16 : 10 ^ n ≤ 10 ^ 16 := Nat.pow_le_pow_right (by omega) (by omega)
            have l1 : (Nb.revDig R).length ≤ 18 := Nb.revDig_len_le 18 R (by omega)
            have l2 : (Nb.revDig (R + 1)).length ≤ 18 := Nb.revDig_len_le 18 (R + 1) (by omega)
            obtain ⟨Sa, hSa⟩ : ∃ S : ByteArray, (⟨(Nb.revDig R).reverse.toArray⟩ : ByteArray) = S := ⟨_, rfl⟩
            obtain ⟨Sb, hSb⟩ : ∃ S : ByteArray, (⟨(Nb.revDig (R + 1)).reverse.toArray⟩ : ByteArray) = S := ⟨_, rfl⟩
            obtain ⟨Si, hSi⟩ : ∃ S : ByteArray, (⟨(Lib.itoa K).toArray⟩ : ByteArray) = S := ⟨_, rfl⟩
            have za : Sa.size ≤ 18 := by rw [← Nb.size_list, ← hSa]; show (Nb.revDig R).reverse.length ≤ 18; rw [List.length_reverse]; exact l1
            have zb : Sb.size ≤ 18 := by rw [← Nb.size_list, ← hSb]; show (Nb.revDig (R + 1)).reverse.length ≤ 18; rw [List.length_reverse]; exact l2
            have zi : Si.size ≤ 21 := by rw [← Nb.size_list, ← hSi]; exact Lib.itoa_length_le K (by omega) (by omega)
            have HSA := Lib.hid (rstring_any zq R 40 Sa wc qc hR0 (by omega) (by omega) hSa)
            have Hc : Hid (IntAt wc zq (R : Int) 40 ∧ Slot wc zq ∧ Below w.heap.size w wc) := Lib.hid ⟨qc, sc, gc.bw⟩
            have HS3 := Lib.hid (And.intro hSa (And.intro hSb hSi))
            have HRn := Lib.hid (And.intro hRn (And.intro hR0 hr16))
            have HL2 := Lib.hid l2
            have HZQ := Lib.hid (show w.heap.size ≤ zq.block from by rw [← hzqb]; exact Hb.out.bw.size)
            clear gc qc sc bc hzq hzqb hSa hSb hSi HQ3 Hb hRn hr16 l1 l2 hR0
            go_wp2_with fail
            refine HSA.out.mono ?_
            rintro e wd ⟨rfl, bd⟩
            have Hd : Hid (IntAt wd zq (R : Int) 40 ∧ Slot wd zq ∧ Below w.heap.size w wd) := Lib.hid ⟨Hc.out.1.below bd, Hc.out.2.1.below bd, Hc.out.2.2.trans (bd.mono Hc.out.2.2.size)⟩
            have HIt := Lib.hid (Nb.itoa_any K wd (by omega) (by omega) (HP.out.below Hd.out.2.2 HP.out.2))
            rw [HS3.out.2.2] at HIt
            clear bd HSA Hc
            go_wp2_with fail
            refine HIt.out.mono ?_
            rintro e we ⟨rfl, be⟩
            have He : Hid (IntAt we zq (R : Int) 40 ∧ Slot we zq ∧ Below w.heap.size w we) := Lib.hid ⟨Hd.out.1.below be, Hd.out.2.1.below be, Hd.out.2.2.trans (be.mono Hd.out.2.2.size)⟩
            have HI1 := Lib.hid (newInt_any 1 we (by omega) (by omega))
            clear be HIt Hd
            go_wp2_with fail
            refine HI1.out.mono ?_
            rintro e wf ⟨zo, rfl, -, -, io, bo⟩
            have Hf : Hid (Slot wf zq ∧ Below w.heap.size w wf) := Lib.hid ⟨He.out.2.1.below bo, He.out.2.2.trans (bo.mono He.out.2.2.size)⟩
            have HAd := Lib.hid (Add_any zq zq zo (R : Int) 1 40 wf Hf.out.1 (He.out.1.below bo) (io.more (by omega)) (by omega))
            clear bo io HI1 He
            go_wp2_with fail
            refine HAd.out.mono ?_
            rintro e wg hg
            have hk := KeepB.of_gives hg Hf.out.1
            have hgi : IntAt wg zq ((R + 1 : Nat) : Int) 41 := by rw [show ((R + 1 : Nat) : Int) = (R : Int) + 1 by omega]; exact hg.2.2
            have HSB := Lib.hid (rstring_any zq (R + 1) 41 Sb wg hgi (by omega) (by omega) (by have := HL2.out; omega) HS3.out.2.1)
            have Hg : Hid (Below w.heap.size w wg) := Lib.hid (Hf.out.2.trans (hk.below _ HZQ.out Hf.out.2.size))
            obtain ⟨rfl, -⟩ := id hg
            clear hg hk hgi HAd Hf
            go_wp2_with fail
            refine HSB.out.mono ?_
            rintro e wh ⟨rfl, bh⟩
            have Hh : Hid (Below w.heap.size w wh) := Lib.hid (Hg.out.trans (bh.mono Hg.out.size))
            have HIu := Lib.hid (Nb.itoa_any K wh (by omega) (by omega) (HP.out.below Hh.out HP.out.2))
            rw [HS3.out.2.2] at HIu
            clear bh HSB Hg
            go_wp2_with fail
            refine HIu.out.mono ?_
            rintro e wi ⟨rfl, bi⟩
            have Hi : Hid (Below w.heap.size w wi) := Lib.hid (Hh.out.trans (bi.mono Hh.out.size))
            clear bi HIu Hh
            go_wp2_with fail
            go_ret
            have hal : Below wi.heap.size wi (wi.alloc (.cells #[.string (Sa ++ ⟨#[101]⟩ ++ Si), .string (Sb ++ ⟨#[101]⟩ ++ Si)] 9)) := (Below.refl _ _).alloc (Nat.le_refl _) _
            refine ⟨wi.heap.size, R, K, Sa ++ ⟨#[101]⟩ ++ Si, Sb ++ ⟨#[101]⟩ ++ Si, rfl, by simp [go_sem], by simp [go_sem], by simp, ?_, ?_, ?_, ?_, ?_, HRn.out.1, ?_, by omega, by omega, Hi.out.trans (hal.mono Hi.out.size)⟩
            · rw [Nb.nbT_list, ByteArray.data_append, ByteArray.data_append, Array.toList_append, Array.toList_append, ← HS3.out.1, ← HS3.out.2.2]
              simp
            · rw [Nb.nbT_list, ByteArray.data_append, ByteArray.data_append, Array.toList_append, Array.toList_append, ← HS3.out.2.1, ← HS3.out.2.2]
              simp
            · rw [ByteArray.size_append, ByteArray.size_append]
              have : (⟨#[101]⟩ : ByteArray).size = 1 := rfl
              omega
            · rw [ByteArray.size_append, ByteArray.size_append]
              have : (⟨#[101]⟩ : ByteArray).size = 1 := rfl
              omega
            · rw [HT1.out]; exact HE1.out
            · rw [← HND.out.1, ← HND.out.2.1, ← HK.out, ← Nb.quo_tens, HRR.out.1, HDQ.out.1, HRR.out.2.1]
  · obtain ⟨N, rfl⟩ : ∃ N : Nat, E = (N : Int) := ⟨E.toNat, by omega⟩
    have hNl : N ≤ 1040 := by omega
    have hLS := Lsh_any zn zn (m : Int) N 2 w4 H4.out.2.1 H4.out.1 (by omega) (by omega)
    rw [show (m : Int) * ((2 ^ N : Nat) : Int) = ((m * 2 ^ N : Nat) : Int) by rw [Int.natCast_mul]] at hLS
    obtain ⟨N0, hN0⟩ : ∃ N0, m * 2 ^ N = N0 := ⟨_, rfl⟩
    obtain ⟨D0, hD0⟩ : ∃ D0 : Nat, D0 = 1 := ⟨_, rfl⟩
    rw [hN0] at hLS
    have HLS := Lib.hid hLS
    have HND : Hid (N0 = m * 2 ^ ((N : Int)).toNat ∧ D0 = 2 ^ (-(N : Int)).toNat ∧ 0 < N0 ∧ 0 < D0 ∧ N0 < 2 ^ eA ∧ D0 < 2 ^ eA) := Lib.hid (by
      rw [show (-(N : Int)).toNat = 0 by omega, Nat.pow_zero, show ((N : Int)).toNat = N by omega, hN0]
      refine ⟨rfl, hD0, by rw [← hN0]; exact Nat.mul_pos HM.out.1 (Nat.two_pow_pos _), by omega, ?_, ?_⟩
      · rw [← hN0]
        have h7 : (2 : Nat) ^ 53 = 9007199254740992 := by decide
        have h8 : 2 ^ 53 * 2 ^ N ≤ 2 ^ eA := by rw [← Nat.pow_add]; exact Nat.pow_le_pow_right (by omega) (by have := HEA.out; omega)
        have h9 : m * 2 ^ N < 2 ^ 53 * 2 ^ N := Nat.mul_lt_mul_of_pos_right (by rw [h7]; exact HM.out.2) (Nat.two_pow_pos _)
        exact Nat.lt_of_lt_of_le h9 h8
      · rw [hD0]; exact Nat.one_lt_two_pow (by have := HEA.out; omega))
    have hNi : (N : Int) ≤ 1040 := by omega
    have hN00 : (0 : Int) ≤ (N : Int) := by omega
    have HD0 := Lib.hid hD0
    clear hLS hN0 hD0
    go_wp2_with fail
    refine HLS.out.mono ?_
    rintro e w5 hg
    have hk5 := KeepB.of_gives hg H4.out.2.1
    have hzd0 : w3.heap.size ≤ zd.block := hzd
    have HG5 : Hid (IntAt w5 zn (N0 : Int) 40 ∧ Slot w5 zn ∧ IntAt w5 zd (D0 : Int) 40 ∧ Slot w5 zd ∧ Below w.heap.size w w5) := Lib.hid (by
      have hne : zd.block ≠ zn.block := by rw [hznb]; omega
      have h9 := hk5.intAt H4.out.2.2.1 hne
      have h8 : IntAt w5 zd ((D0 : Nat) : Int) 2 := by rw [HD0.out]; exact h9
      exact ⟨hg.2.2.more (by omega), hg.2.1.slot H4.out.2.1 H4.out.2.1, h8.more (by omega), hk5.slot H4.out.2.2.2.1 hne, HB4.out.trans (hk5.below _ (by have := HX.out.1.size; omega) HB4.out.size)⟩)
    obtain ⟨rfl, -⟩ := id hg
    clear hg hk5 HLS c4
    have HI10 := Lib.hid (newInt_any 10 w5 (by omega) (by omega))
    go_wp2_with fail
    refine HI10.out.mono ?_
    rintro e w6 ⟨zt, rfl, hzt, st, it6, b6⟩
    have HG6 : Hid (NbG w w6 zn zd zt N0 D0) := Lib.hid (by
      obtain ⟨g1, g2, g3, g4, g5⟩ := HG5.out
      have l1 := intAt_lt g1
      have l2 := intAt_lt g3
      have hw := HX.out.1.size
      exact ⟨g5.trans (b6.mono g5.size), g1.below b6, g2.below b6, g3.below b6, g4.below b6, it6, by rw [hznb]; exact hw, by omega, by intro h; rw [hznb] at h; omega, by intro h; omega, by intro h; omega⟩)
    clear hzt st it6 b6 HI10 HG5 hznb hzn3 hs4 hs3 hs2 hlt1
    go_wp2_with fail
    go_loopw [7] (fun v wr => ∃ j : Nat, v = .int .i64 (j : Int) ∧ j ≤ 1100 ∧ Hid (NbG w wr zn zd zt N0 (D0 * 10 ^ j) ∧ D0 * 10 ^ j < 2 ^ eA)) (fun v _ => 1200 - (intOf v).toNat)
    case atStart => exact ⟨0, rfl, by omega, Lib.hid ⟨by rw [Nat.pow_zero, Nat.mul_one]; exact HG6.out, by rw [Nat.pow_zero, Nat.mul_one]; exact HND.out.2.2.2.2.2⟩⟩
    case round =>
      clear HG6
      obtain ⟨j, rfl, hj, hg⟩ := hrel
      obtain ⟨D1, hD1⟩ : ∃ D1, D0 * 10 ^ j = D1 := ⟨_, rfl⟩
      rw [hD1] at hg
      have hD10 : 0 < D1 := by rw [← hD1]; exact Nat.mul_pos HND.out.2.2.2.1 (Nat.pow_pos (by omega))
      obtain ⟨Q, hQ⟩ : ∃ Q, N0 / D1 = Q := ⟨_, rfl⟩
      have HQ := nb_quo w wr zn zd zt N0 D1 hg.out.1 hD10
      rw [hQ] at HQ
      have HQ' := Lib.hid HQ
      have HDQ := Lib.hid (And.intro hD1 (And.intro hQ hD10))
      have HW := Lib.hid hg.out.2
      clear HQ hD1 hQ hD10 hg
      go_wp2_with fail
      refine HQ'.out.mono ?_
      rintro e w8 ⟨rfl, g8, q8, s8, b8⟩
      obtain ⟨zq, hzq⟩ : ∃ zq : Addr, (⟨wr.heap.size, 0, none⟩ : Addr) = zq := ⟨_, rfl⟩
      rw [hzq] at q8 s8 ⊢
      have HIn := Lib.hid (newInt_any (n : Int) (w8.alloc (.cells #[.bool false, .slice none 0 0] 67)) (by omega) (by omega))
      have H8 := Lib.hid (And.intro g8 q8)
      clear g8 q8 s8 b8 HQ' hzq
      go_wp2_with fail
      refine HIn.out.mono ?_
      rintro e w9 ⟨zi, rfl, -, -, i9, b9⟩
      have HPw := Lib.hid (nb_pow w w8 w9 zn zd zt zq zi N0 D1 Q n H8.out.1 H8.out.2 b9 i9 (ten_two (by omega)))
      obtain ⟨T, hT⟩ : ∃ T, 10 ^ n = T := ⟨_, rfl⟩
      rw [hT] at HPw
      have HTT := Lib.hid hT
      clear i9 b9 HIn hT
      go_wp2_with fail
      refine HPw.out.mono ?_
      rintro e wa ⟨rfl, ga, qa, pa, ba⟩
      have HC := Lib.hid (Cmp_any zq ⟨w8.heap.size, 0, none⟩ (Q : Int) (T : Int) 40 wa qa pa (by omega))
      have Ha := Lib.hid ga
      clear ga qa pa ba HPw H8
      go_wp2_with fail
      refine HC.out.mono ?_
      rintro e wb ⟨rfl, dr, rfl⟩
      have Hb : Hid (NbG w (wa.drewN dr) zn zd zt N0 D1) := Lib.hid (Ha.out.below (below_dN (Below.refl _ _) dr))
      have hcn := @cmp_nat Q T
      obtain ⟨cc, hcc⟩ : ∃ cc : Int, cmpI (Q : Int) (T : Int) = cc := ⟨_, rfl⟩
      rw [hcc] at hcn ⊢
      clear hcc Ha HC
      generalize wa.drewN dr = wb at *
      by_cases hge : T ≤ Q
      · have hc0 : 0 ≤ cc := hcn.1.2 hge
        have hup := @Nb.nb_up N0 D0 n j eA (by omega) (by rw [HDQ.out.1, HDQ.out.2.1, HTT.out]; exact hge) HND.out.2.2.2.1 HND.out.2.2.2.2.1
        have HUP := Lib.hid hup.1
        have hj1 : j < 1100 := by have := hup.2; have := HEA.out; omega
        have HMu := Lib.hid (nb_mul_den w wb zn zd zt N0 D1 Hb.out (words40 (e := eA + 60) (by have := HEA.out; omega) (by
          have h9 := hup.1
          rw [Nat.pow_succ, ← Nat.mul_assoc, HDQ.out.1] at h9
          exact Nat.lt_of_lt_of_le h9 (Nat.pow_le_pow_right (by omega) (by omega)))))
        clear hup hcn hge
        go_wp2_with fail
        refine HMu.out.mono ?_
        rintro e wc ⟨rfl, gc⟩
        have Hc := Lib.hid gc
        clear gc HMu
        go_wp2_with fail
        go_roundw
        case rel => exact ⟨j + 1, int_eq (by omega), by omega, Lib.hid ⟨by
          have h9 := Hc.out
          rw [← HDQ.out.1, Nat.mul_assoc, ← Nat.pow_succ] at h9
          exact h9, HUP.out⟩⟩
        case measure => simp [intOf]; omega
      · have hc0 : ¬ 0 ≤ cc := fun h => hge (hcn.1.1 h)
        have hqt : N0 * 10 ^ 0 / D1 < T := by rw [Nat.pow_zero, Nat.mul_one, HDQ.out.2.1]; omega
        have HQT := Lib.hid hqt
        have hD10 := HDQ.out.2.2
        clear hcn hge hqt
        obtain ⟨WL, hWL⟩ : ∃ WL, wb = WL := ⟨_, rfl⟩
        have HbL := Hb
        clear hWL
        have HJ := Lib.hid hj
        have HD1L : Hid (D1 < 2 ^ eA) := Lib.hid HW.out
        clear WL
        go_wp2_with fail
        go_loopw [7] (fun v wr => ∃ i : Nat, v = .int .i64 ((j : Int) - (i : Int)) ∧ i ≤ 1160 ∧ Hid (NbG w wr zn zd zt (N0 * 10 ^ i) D1 ∧ N0 * 10 ^ i / D1 < T ∧ N0 * 10 ^ i < 2 ^ (eA + 60))) (fun v _ => (intOf v + 1200).toNat)
        case atStart => exact ⟨0, by simp, by omega, Lib.hid ⟨by rw [Nat.pow_zero, Nat.mul_one]; exact HbL.out, HQT.out, by rw [Nat.pow_zero, Nat.mul_one]; exact Nat.lt_of_lt_of_le HND.out.2.2.2.2.1 (Nat.pow_le_pow_right (by omega) (by omega))⟩⟩
        case round =>
          clear HbL Hb HQT
          obtain ⟨i, rfl, hi, hg⟩ := hrel
          obtain ⟨N1, hN1⟩ : ∃ N1, N0 * 10 ^ i = N1 := ⟨_, rfl⟩
          rw [hN1] at hg
          have hN10 : 0 < N1 := by rw [← hN1]; exact Nat.mul_pos HND.out.2.2.1 (Nat.pow_pos (by omega))
          obtain ⟨R, hR⟩ : ∃ R, N1 / D1 = R := ⟨_, rfl⟩
          have HQ := nb_quo w wr zn zd zt N1 D1 hg.out.1 hD10
          rw [hR] at HQ
          have HQ' := Lib.hid HQ
          have HRR := Lib.hid (And.intro hN1 (And.intro hR (And.intro hN10 (And.intro hg.out.2.1 hg.out.2.2))))
          have HGR := Lib.hid hg.out.1
          obtain ⟨K, hK⟩ : ∃ K : Int, (j : Int) - (i : Int) = K := ⟨_, rfl⟩
          have HK := Lib.hid hK
          have hK0 : -1160 ≤ K := by omega
          have hK1 : K ≤ 1100 := by omega
          rw [hK]
          clear HQ hN1 hR hN10 hg hK
          go_wp2_with fail
          refine HQ'.out.mono ?_
          rintro e w8 ⟨rfl, g8, q8, s8, b8⟩
          obtain ⟨zq, hzq⟩ : ∃ zq : Addr, (⟨wr.heap.size, 0, none⟩ : Addr) = zq := ⟨_, rfl⟩
          rw [hzq] at q8 s8 ⊢
          have HIn := Lib.hid (newInt_any ((n : Int) - 1) (w8.alloc (.cells #[.bool false, .slice none 0 0] 67)) (by omega) (by omega))
          have H8 := Lib.hid (And.intro g8 q8)
          clear g8 q8 s8 b8 HQ' hzq
          go_wp2_with fail
          refine HIn.out.mono ?_
          rintro e w9 ⟨zi, rfl, -, -, i9, b9⟩
          have i9' : IntAt w9 zi ((n - 1 : Nat) : Int) 2 := by rw [show ((n - 1 : Nat) : Int) = (n : Int) - 1 by omega]; exact i9
          have HPw := Lib.hid (nb_pow w w8 w9 zn zd zt zq zi N1 D1 R (n - 1) H8.out.1 H8.out.2 b9 i9' (ten_two (by omega)))
          obtain ⟨T1, hT1⟩ : ∃ T1, 10 ^ (n - 1) = T1 := ⟨_, rfl⟩
          rw [hT1] at HPw
          have HT1 := Lib.hid hT1
          clear i9 i9' b9 HIn hT1
          go_wp2_with fail
          refine HPw.out.mono ?_
          rintro e wa ⟨rfl, ga, qa, pa, ba⟩
          have HC := Lib.hid (Cmp_any zq ⟨w8.heap.size, 0, none⟩ (R : Int) (T1 : Int) 40 wa qa pa (by omega))
          have Ha := Lib.hid ga
          clear ga qa pa ba HPw H8
          go_wp2_with fail
          refine HC.out.mono ?_
          rintro e wb ⟨rfl, dr, rfl⟩
          have Hb : Hid (NbG w (wa.drewN dr) zn zd zt N1 D1) := Lib.hid (Ha.out.below (below_dN (Below.refl _ _) dr))
          have hcn := @cmp_nat R T1
          obtain ⟨cc, hcc⟩ : ∃ cc : Int, cmpI (R : Int) (T1 : Int) = cc := ⟨_, rfl⟩
          rw [hcc] at hcn ⊢
          clear hcc Ha HC
          generalize wa.drewN dr = wb at *
          by_cases hlt : R < T1
          · have hc1 : cc < 0 := hcn.2.2 hlt
            have hdn := @Nb.nb_down N0 D1 n i eA (by omega) (by omega) (by rw [HRR.out.1, HRR.out.2.1, HT1.out]; exact hlt) hD10 HND.out.2.2.1 HD1L.out
            have hnx := @Nb.nb_next N0 D1 n i (by omega) (by rw [HRR.out.1, HRR.out.2.1, HT1.out]; exact hlt) hD10
            rw [HTT.out] at hnx
            have HDN := Lib.hid (And.intro hdn.1 hnx)
            have hi1 : i < 1160 := by have := hdn.2; have := HEA.out; omega
            have HMu := Lib.hid (nb_mul_num w wb zn zd zt N1 D1 Hb.out (words40 (e := eA + 60) (by have := HEA.out; omega) (by
              have h9 := hdn.1
              rw [Nat.pow_succ, ← Nat.mul_assoc, HRR.out.1] at h9
              exact h9)))
            clear hdn hnx hcn hlt
            go_wp2_with fail
            refine HMu.out.mono ?_
            rintro e wc ⟨rfl, gc⟩
            have Hc := Lib.hid gc
            clear gc HMu
            go_wp2_with fail
            go_roundw
            case rel => exact ⟨i + 1, int_eq (by have := HK.out; omega), by omega, Lib.hid ⟨by
              have h9 := Hc.out
              rw [← HRR.out.1, Nat.mul_assoc, ← Nat.pow_succ] at h9
              exact h9, HDN.out.2, HDN.out.1⟩⟩
            case measure => simp [intOf]; omega
          · have hc1 : ¬ cc < 0 := fun h => hlt (hcn.2.1 h)
            have HE1 : Hid (T1 ≤ R) := Lib.hid (by omega)
            clear hcn hlt
            have HQ2 := nb_quo w wb zn zd zt N1 D1 Hb.out hD10
            rw [HRR.out.2.1] at HQ2
            have HQ3 := Lib.hid HQ2
            clear HQ2
            go_wp2_with fail
            refine HQ3.out.mono ?_
            rintro e wc ⟨rfl, gc, qc, sc, bc⟩
            obtain ⟨zq, hzq⟩ : ∃ zq : Addr, (⟨wb.heap.size, 0, none⟩ : Addr) = zq := ⟨_, rfl⟩
            have hzqb : wb.heap.size = zq.block := by rw [← hzq]
            rw [hzq] at qc sc ⊢
            have hR0 : 0 < R := by have h9 := HE1.out; rw [← HT1.out] at h9; have h8 : 0 < 10 ^ (n - 1) := Nat.pow_pos (by omega); omega
            have hRn : R < 10 ^ n := by rw [HTT.out, ← HRR.out.2.1]; exact HRR.out.2.2.2.1
            have hr16 : 10 ^ n ≤ 10 ^ 16 := Nat.pow_le_pow_right (by omega) (by omega)
            have l1 : (Nb.revDig R).length ≤ 18 := Nb.revDig_len_le 18 R (by omega)
            have l2 : (Nb.revDig (R + 1)).length ≤ 18 := Nb.revDig_len_le 18 (R + 1) (by omega)
            obtain ⟨Sa, hSa⟩ : ∃ S : ByteArray, (⟨(Nb.revDig R).reverse.toArray⟩ : ByteArray) = S := ⟨_, rfl⟩
            obtain ⟨Sb, hSb⟩ : ∃ S : ByteArray, (⟨(Nb.revDig (R + 1)).reverse.toArray⟩ : ByteArray) = S := ⟨_, rfl⟩
            obtain ⟨Si, hSi⟩ : ∃ S : ByteArray, (⟨(Lib.itoa K).toArray⟩ : ByteArray) = S := ⟨_, rfl⟩
            have za : Sa.size ≤ 18 := by rw [← Nb.size_list, ← hSa]; show (Nb.revDig R).reverse.length ≤ 18; rw [List.length_reverse]; exact l1
            have zb : Sb.size ≤ 18 := by rw [← Nb.size_list, ← hSb]; show (Nb.revDig (R + 1)).reverse.length ≤ 18; rw [List.length_reverse]; exact l2
            have zi : Si.size ≤ 21 := by rw [← Nb.size_list, ← hSi]; exact Lib.itoa_length_le K (by omega) (by omega)
            have HSA := Lib.hid (rstring_any zq R 40 Sa wc qc hR0 (by omega) (by omega) hSa)
            have Hc : Hid (IntAt wc zq (R : Int) 40 ∧ Slot wc zq ∧ Below w.heap.size w wc) := Lib.hid ⟨qc, sc, gc.bw⟩
            have HS3 := Lib.hid (And.intro hSa (And.intro hSb hSi))
            have HRn := Lib.hid (And.intro hRn (And.intro hR0 hr16))
            have HL2 := Lib.hid l2
            have HZQ := Lib.hid (show w.heap.size ≤ zq.block from by rw [← hzqb]; exact Hb.out.bw.size)
            clear gc qc sc bc hzq hzqb hSa hSb hSi HQ3 Hb hRn hr16 l1 l2 hR0
            go_wp2_with fail
            refine HSA.out.mono ?_
            rintro e wd ⟨rfl, bd⟩
            have Hd : Hid (IntAt wd zq (R : Int) 40 ∧ Slot wd zq ∧ Below w.heap.size w wd) := Lib.hid ⟨Hc.out.1.below bd, Hc.out.2.1.below bd, Hc.out.2.2.trans (bd.mono Hc.out.2.2.size)⟩
            have HIt := Lib.hid (Nb.itoa_any K wd (by omega) (by omega) (HP.out.below Hd.out.2.2 HP.out.2))
            rw [HS3.out.2.2] at HIt
            clear bd HSA Hc
            go_wp2_with fail
            refine HIt.out.mono ?_
            rintro e we ⟨rfl, be⟩
            have He : Hid (IntAt we zq (R : Int) 40 ∧ Slot we zq ∧ Below w.heap.size w we) := Lib.hid ⟨Hd.out.1.below be, Hd.out.2.1.below be, Hd.out.2.2.trans (be.mono Hd.out.2.2.size)⟩
            have HI1 := Lib.hid (newInt_any 1 we (by omega) (by omega))
            clear be HIt Hd
            go_wp2_with fail
            refine HI1.out.mono ?_
            rintro e wf ⟨zo, rfl, -, -, io, bo⟩
            have Hf : Hid (Slot wf zq ∧ Below w.heap.size w wf) := Lib.hid ⟨He.out.2.1.below bo, He.out.2.2.trans (bo.mono He.out.2.2.size)⟩
            have HAd := Lib.hid (Add_any zq zq zo (R : Int) 1 40 wf Hf.out.1 (He.out.1.below bo) (io.more (by omega)) (by omega))
            clear bo io HI1 He
            go_wp2_with fail
            refine HAd.out.mono ?_
            rintro e wg hg
            have hk := KeepB.of_gives hg Hf.out.1
            have hgi : IntAt wg zq ((R + 1 : Nat) : Int) 41 := by rw [show ((R + 1 : Nat) : Int) = (R : Int) + 1 by omega]; exact hg.2.2
            have HSB := Lib.hid (rstring_any zq (R + 1) 41 Sb wg hgi (by omega) (by omega) (by have := HL2.out; omega) HS3.out.2.1)
            have Hg : Hid (Below w.heap.size w wg) := Lib.hid (Hf.out.2.trans (hk.below _ HZQ.out Hf.out.2.size))
            obtain ⟨rfl, -⟩ := id hg
            clear hg hk hgi HAd Hf
            go_wp2_with fail
            refine HSB.out.mono ?_
            rintro e wh ⟨rfl, bh⟩
            have Hh : Hid (Below w.heap.size w wh) := Lib.hid (Hg.out.trans (bh.mono Hg.out.size))
            have HIu := Lib.hid (Nb.itoa_any K wh (by omega) (by omega) (HP.out.below Hh.out HP.out.2))
            rw [HS3.out.2.2] at HIu
            clear bh HSB Hg
            go_wp2_with fail
            refine HIu.out.mono ?_
            rintro e wi ⟨rfl, bi⟩
            have Hi : Hid (Below w.heap.size w wi) := Lib.hid (Hh.out.trans (bi.mono Hh.out.size))
            clear bi HIu Hh
            go_wp2_with fail
            go_ret
            have hal : Below wi.heap.size wi (wi.alloc (.cells #[.string (Sa ++ ⟨#[101]⟩ ++ Si), .string (Sb ++ ⟨#[101]⟩ ++ Si)] 9)) := (Below.refl _ _).alloc (Nat.le_refl _) _
            refine ⟨wi.heap.size, R, K, Sa ++ ⟨#[101]⟩ ++ Si, Sb ++ ⟨#[101]⟩ ++ Si, rfl, by simp [go_sem], by simp [go_sem], by simp, ?_, ?_, ?_, ?_, ?_, HRn.out.1, ?_, by omega, by omega, Hi.out.trans (hal.mono Hi.out.size)⟩
            · rw [Nb.nbT_list, ByteArray.data_append, ByteArray.data_append, Array.toList_append, Array.toList_append, ← HS3.out.1, ← HS3.out.2.2]
              simp
            · rw [Nb.nbT_list, ByteArray.data_append, ByteArray.data_append, Array.toList_append, Array.toList_append, ← HS3.out.2.1, ← HS3.out.2.2]
              simp
            · rw [ByteArray.size_append, ByteArray.size_append]
              have : (⟨#[101]⟩ : ByteArray).size = 1 := rfl
              omega
            · rw [ByteArray.size_append, ByteArray.size_append]
              have : (⟨#[101]⟩ : ByteArray).size = 1 := rfl
              omega
            · rw [HT1.out]; exact HE1.out
            · rw [← HND.out.1, ← HND.out.2.1, ← HK.out, ← Nb.quo_tens, HRR.out.1, HDQ.out.1, HRR.out.2.1]
end Go.Proofs.YtmecnlgndaeidaaGreatDoor.Bg

namespace Go.Proofs.YtmecnlgndaeidaaGreatDoor.Sh
open Go Go.RowKit

/-- the law's answer -/
def Yes (w : World) (e : Ending) (w' : World) : Prop := e = .returned (.bool true) ∧ Below w.heap.size w w'
theorem tabs_below {w W : World} (hT : Nb.Tab64 w) (hP : Nb.TabP w) (hb : Below w.heap.size w W) : Nb.Tab64 W ∧ Nb.TabP W := ⟨hT.below hb, hP.below hb hP.2⟩
theorem fl_ne {X Y : Nat} (hX : X < 9218868437227405312) (hY : Y < 9218868437227405312) (h : X ≠ Y) : (FloatKind.f64.format.order X Y == some .eq) = false := by
  have h1 := Nx.order_fl (a := false) (b := false) hX hY
  have e : ∀ Z, Nx.fl false Z = Z := fun Z => by simp [Nx.fl]
  rw [e, e] at h1
  rw [h1, Nx.cmp_eq]
  refine decide_eq_false fun h2 => h ?_
  have h3 : ((X : Nat) : Int) = (Y : Nat) := by simpa [Nx.sv] using h2
  omega
set_option maxRecDepth 8000 in
theorem abs_any (f : Nat) (w : World) (h : f < 18446744073709551616) : Calls Tryz.prog 8 #[.float .f64 f] w fun e w' => e = .returned (.float .f64 (f % 9223372036854775808)) ∧ w' = w := by
  obtain ⟨n, hn⟩ : ∃ n, f % 9223372036854775808 = n := ⟨_, rfl⟩
  have ha := andnot_top h
  rw [hn] at ha ⊢
  have hb := Nb.run_bits f w
  have hf := Nb.run_frombits (n : Int) w
  clear hn
  go_enter Tryz.func8, Tryz.ntmps8
  go_wp2_with fail
  go_ret
  exact ⟨rfl, rfl⟩

set_option maxRecDepth 8000 in
theorem shortest_far (f : Nat) (w : World) (hT : Nb.Tab64 w) (hP : Nb.TabP w) (hf : f < 18446744073709551616) (h : 9218868437227405312 ≤ f % 9223372036854775808 ∨ f % 9223372036854775808 = 0) :
    Calls Tryz.prog 3 #[.int .u64 f] w (Yes w) := by
  have HA := Lib.hid (Nb.awake_any w hT hP)
  have hfb := Nb.run_frombits (f : Int) w
  have HF := Lib.hid (Nb.rfinite_any f w hf)
  have hz := Nx.eq_zero f
  clear hT hP
  by_cases h0 : f % 9223372036854775808 = 0
  · rw [decide_eq_true h0] at hz
    have h1 : f % 9223372036854775808 < 9218868437227405312 := by omega
    have H1 := Lib.hid h1
    clear h h0 h1
    go_enter Tryz.func3, Tryz.ntmps3
    go_wp2_with fail
    refine HF.out.mono ?_
    rintro e w1 ⟨⟨r, rfl, hr⟩, hw⟩
    obtain rfl := hw.symm
    obtain rfl : r = true := hr.2 H1.out
    clear hr
    go_wp2_with fail
    refine HA.out.mono ?_
    rintro e w2 ⟨rfl, b2⟩
    have HB := Lib.hid b2
    clear b2
    go_wp2_with fail
    go_ret
    exact ⟨rfl, HB.out⟩
  · have h1 : ¬ f % 9223372036854775808 < 9218868437227405312 := by omega
    have H1 := Lib.hid h1
    clear h h0 h1 hz
    go_enter Tryz.func3, Tryz.ntmps3
    go_wp2_with fail
    refine HF.out.mono ?_
    rintro e w1 ⟨⟨r, rfl, hr⟩, hw⟩
    obtain rfl := hw.symm
    obtain rfl : r = false := by
      cases r with
      | false => rfl
      | true => exact absurd (hr.1 rfl) H1.out
    clear hr
    go_wp2_with fail
    refine HA.out.mono ?_
    rintro e w2 ⟨rfl, b2⟩
    have HB := Lib.hid b2
    clear b2
    go_wp2_with fail
    go_ret
    exact ⟨rfl, HB.out⟩
end Go.Proofs.YtmecnlgndaeidaaGreatDoor.Sh

namespace Go.Proofs.YtmecnlgndaeidaaGreatDoor.Sh
open Go Go.RowKit

/-- Short's text up to the exponent -/
def preT (d0 : UInt8) (ds : List UInt8) : List UInt8 := d0 :: (if Lib.trimRightB ds 48 = [] then [] else 46 :: Lib.trimRightB ds 48)
theorem shortT_pre (d0 : UInt8) (ds : List UInt8) (X : Int) : Nb.shortT d0 ds X = preT d0 ds ++ 101 :: Lib.itoa X := by
  unfold Nb.shortT preT
  simp
theorem trim_mem {ds : List UInt8} {x : UInt8} (h : x ∈ Lib.trimRightB ds 48) : x ∈ ds := by
  unfold Lib.trimRightB at h
  rw [List.mem_reverse] at h
  exact List.mem_reverse.1 ((List.dropWhile_sublist _).subset h)
theorem trim_le (ds : List UInt8) : (Lib.trimRightB ds 48).length ≤ ds.length := by
  unfold Lib.trimRightB
  rw [List.length_reverse]
  have := (List.dropWhile_sublist (p := (· == (48 : UInt8))) (l := ds.reverse)).length_le
  rwa [List.length_reverse] at this
theorem dig_ne {x : UInt8} (h : 48 ≤ x.toNat ∧ x.toNat ≤ 57) : x ≠ 46 ∧ x ≠ 101 := by
  constructor <;> (rintro rfl; exact absurd h (by decide))
theorem preT_ne {d0 : UInt8} {ds : List UInt8} (h : Nb.IsDig (d0 :: ds)) : ∀ x ∈ preT d0 ds, x ≠ 101 := by
  intro x hx
  unfold preT at hx
  rcases List.mem_cons.1 hx with rfl | hx
  · exact (dig_ne (h _ List.mem_cons_self)).2
  · split at hx
    · simp at hx
    · rcases List.mem_cons.1 hx with rfl | hx
      · decide
      · exact (dig_ne (h _ (List.mem_cons_of_mem _ (trim_mem hx)))).2
theorem preT_filter {d0 : UInt8} {ds : List UInt8} (h : Nb.IsDig (d0 :: ds)) : (preT d0 ds).filter (fun b => b != 46) = Nb.shortD d0 ds := by
  have h0 : (d0 != 46) = true := by simpa using (dig_ne (h _ List.mem_cons_self)).1
  have h1 : (Lib.trimRightB ds 48).filter (fun b => b != 46) = Lib.trimRightB ds 48 := by
    rw [List.filter_eq_self]
    intro x hx
    simpa using (dig_ne (h _ (List.mem_cons_of_mem _ (trim_mem hx)))).1
  unfold preT Nb.shortD
  rw [List.filter_cons, if_pos h0]
  split
  · rename_i hz
    rw [hz]; rfl
  · rw [List.filter_cons, if_neg (by decide), h1]
theorem preT_len (d0 : UInt8) (ds : List UInt8) : (preT d0 ds).length ≤ ds.length + 2 := by
  unfold preT
  have := trim_le ds
  rw [List.length_cons]
  split
  · simp
  · rw [List.length_cons]; omega

/-- a byte of a text -/
theorem text_idx {S : ByteArray} {l : List UInt8} (hl : S.data.toList = l) {k : Nat} {x : UInt8} (hx : l[k]? = some x) {X : Int} (hX : X = (x.toNat : Int)) : ∀ W, (Instr.index 9 (.string S) (.int .i64 (k : Int))).run Tryz.prog W = .ok (.int .u8 X) W := by
  intro W
  obtain ⟨hk, hk2⟩ := List.getElem?_eq_some_iff.1 hx
  have hs : S.size = l.length := by rw [← Nb.size_list, hl]
  rw [run_index_string W 9 S .i64 k (by kernel_rfl), dif_pos (by omega)]
  subst hl hX
  simp only [Int.toNat_natCast]
  rw [← hk2]
  rfl
theorem text_piece {S : ByteArray} {l : List UInt8} (hl : S.data.toList = l) {k : Nat} {x : UInt8} (hx : l[k]? = some x) : (S.extract k (k + 1)).data.toList = [x] := by
  obtain ⟨hk, hk2⟩ := List.getElem?_eq_some_iff.1 hx
  subst hl
  simp [ByteArray.extract, ByteArray.copySlice]
  rw [List.take_one, List.head?_drop]
  simpa using hx
theorem few_data {p q X n d : Nat} {E : Int} {d0 : UInt8} {ds : List UInt8} (h : Nb.ShortSays X p q E n d d0 ds) : Nb.IsDig (d0 :: ds) ∧ ds.length ≤ 17 ∧ d < 10 ^ 18 := by
  obtain ⟨h1, h2, d0', ds', e, hl, hl17⟩ := Nb.few_digits h.q0 h.few
  have h3 := Nb.revDig_dig 18 d (by omega)
  rw [h.dig] at e h3
  injection e with e1 e2
  subst e1 e2
  exact ⟨h3.1, hl17, by omega⟩
/-- what the law needs of the neighbours -/
theorem neigh_not {p q X n d m t a : Nat} {E K F : Int} {d0 : UInt8} {ds : List UInt8} (h : Nb.ShortSays X p q E n d d0 ds) (hn : 2 ≤ n) (hX : X < 9218868437227405312) (hm : bigM X = m * 2 ^ t) (hF : bigX X + t = F)
    (h1 : 10 ^ (n - 1 - 1) ≤ a) (h2 : a < 10 ^ (n - 1)) (ha : a = Nb.lowK (m * 2 ^ F.toNat) (2 ^ (-F).toNat) K) : ¬ Nb.Hits a K X ∧ ¬ Nb.Hits (a + 1) K X ∧ 0 < a ∧ a + 1 < 10 ^ 18 := by
  have hv := Nb.exact_val hX hm hF h.val
  have he := Nb.lowK_same (Nat.two_pow_pos _) h.q0 hv K
  rw [← ha] at he
  have hK := Nb.lowK_digits (n := n - 1) h.q0 h.few.dec (by omega) (by rw [← he]; exact h1) (by rw [← he]; exact h2)
  have hl := h.few.least (n - 1) (by omega) (by omega)
  unfold Nb.NoneAt at hl
  rw [← hK, ← he] at hl
  have h17 := h.few.n0.2
  have hp : 10 ^ (n - 1) ≤ 10 ^ 16 := Nat.pow_le_pow_right (by omega) (by omega)
  have hp0 : 0 < 10 ^ (n - 1 - 1) := Nat.pow_pos (by omega)
  exact ⟨hl.1, hl.2, by omega, by omega⟩
end Go.Proofs.YtmecnlgndaeidaaGreatDoor.Sh
