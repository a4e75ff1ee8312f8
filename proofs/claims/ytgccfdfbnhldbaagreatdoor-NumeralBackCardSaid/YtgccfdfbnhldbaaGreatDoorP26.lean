/- SH1 SH5 SH11 BT4 BN5 in one text. -/
import Derived.Test.YtgccfdfbnhldbaaGreatDoorP25
import Derived.Test.YtgccfdfbnhldbaaGreatDoorP23
import Derived.Test.YtgccfdfbnhldbaaGreatDoorP16
import Derived.Test.YtgccfdfbnhldbaaGreatDoorP22
import Derived.Test.YtgccfdfbnhldbaaGreatDoorP24
import Derived.Test.YtgccfdfbnhldbaaGreatDoorP13
import Derived.Test.YtgccfdfbnhldbaaGreatDoorP18

namespace Go.Proofs.YtgccfdfbnhldbaaGreatDoor.Nb
open Go Go.RowKit

theorem dec_start {p q : Nat} {B : Nat} (hp : 0 < p) (hq : 0 < q) (hlo : q ≤ p * 10 ^ B) (hhi : p < q * 10 ^ B) : (blen p : Int) - (blen q : Int) ≤ 4 * B + 2 ∧ (blen q : Int) - (blen p : Int) ≤ 4 * B + 2 := by
  obtain ⟨a1, a2, a3⟩ := blen_spec hp
  obtain ⟨b1, b2, b3⟩ := blen_spec hq
  have h16 : 10 ^ B ≤ 2 ^ (4 * B) := by
    rw [Nat.pow_mul]
    exact Nat.pow_le_pow_left (by omega) B
  constructor
  · have h1 : 2 ^ (blen p - 1) < 2 ^ (blen q + 4 * B) := by
      rw [Nat.pow_add]
      refine Nat.lt_of_le_of_lt a2 (Nat.lt_of_lt_of_le hhi ?_)
      exact Nat.mul_le_mul (Nat.le_of_lt b3) h16
    have := (Nat.pow_lt_pow_iff_right (a := 2) (by omega)).1 h1
    omega
  · have h1 : 2 ^ (blen q - 1) < 2 ^ (blen p + 4 * B + 1) := by
      rw [Nat.pow_succ, Nat.pow_add]
      refine Nat.lt_of_le_of_lt b2 (Nat.lt_of_le_of_lt hlo ?_)
      have := Nat.mul_le_mul (Nat.le_of_lt a3) h16
      have h0 : 0 < 2 ^ blen p * 2 ^ (4 * B) := Nat.mul_pos (Nat.two_pow_pos _) (Nat.two_pow_pos _)
      omega
    have := (Nat.pow_lt_pow_iff_right (a := 2) (by omega)).1 h1
    omega
theorem cmpN_lt {m n : Nat} : (cmpN m n < 0 ↔ m < n) ∧ (0 ≤ cmpN m n ↔ n ≤ m) := by
  unfold cmpN
  split
  · omega
  · split <;> omega

/-- the comparison of a fraction with a power of ten -/
theorem cmp_ten (x z p q L : Nat) (E : Int) (w : World) (hx : RatL w x false p q L) (hz : RatL w z false (10 ^ E.toNat) (10 ^ (-E).toNat) L) (hL : L ≤ 67108864) :
    Calls Tryz.prog 94 #[.pointer (some ⟨x, 0, none⟩), .pointer (some ⟨z, 0, none⟩)] w fun e w' => ∃ c : Int, e = .returned (.int .i64 c) ∧ (c < 0 ↔ ¬ AtM p q E) ∧ -1 ≤ c ∧ c ≤ 1 ∧ Below w.heap.size w w' := by
  refine (ratcmp_anyL x z p q _ _ _ _ L w hx hz rfl rfl hL).mono ?_
  rintro e w' ⟨rfl, hb⟩
  refine ⟨_, rfl, ?_, ?_, ?_, hb⟩
  · rw [cmpN_lt.1]
    unfold AtM
    omega
  · unfold cmpN; split <;> (try split) <;> omega
  · unfold cmpN; split <;> (try split) <;> omega
theorem ten_pow (E : Int) (L : Nat) (w : World) (h0 : -2000 ≤ E) (h1 : E ≤ 2000) (hL : 2100 ≤ L) (hL2 : L ≤ 16777216) : Calls Tryz.prog 83 #[.int .i64 E] w (NewRL w false (10 ^ E.toNat) (10 ^ (-E).toNat) L) :=
  ten_any E _ _ L w (by omega) rfl rfl (ten_ltL (by omega)) (ten_ltL (by omega)) hL2 (by omega)

set_option maxRecDepth 8000 in
set_option maxHeartbeats 4000000 in
theorem decade_any (x p q L B : Nat) (w : World) (hx : RatL w x false p q L) (hp : 0 < p) (hlo : q ≤ p * 10 ^ B) (hhi : p < q * 10 ^ B) (hB : B ≤ 400) (hL : 2100 ≤ L) (hL2 : L ≤ 16777216) :
    Calls Tryz.prog 85 #[.pointer (some ⟨x, 0, none⟩)] w fun e w' => ∃ E : Int, e = .returned (.int .i64 E) ∧ Dec p q E ∧ -(B : Int) ≤ E ∧ E < B ∧ Below w.heap.size w w' := by
  have hq : 0 < q := by
    obtain ⟨_, _, _, _, _, _, _, _, _, _, _, _, h, _⟩ := hx.open
    exact h
  obtain ⟨s1, s2⟩ := dec_start hp hq hlo hhi
  have hA0 : AtM p q (-(B : Int)) := by
    unfold AtM
    rw [show (-(B : Int)).toNat = 0 by omega, show (- -(B : Int)).toNat = B by omega, Nat.pow_zero, Nat.one_mul]
    exact hlo
  have hA1 : ¬ AtM p q (B : Int) := by
    unfold AtM
    rw [show ((B : Int)).toNat = B by omega, show (-(B : Int)).toNat = 0 by omega, Nat.pow_zero, Nat.mul_one, Nat.mul_comm]
    omega
  have HAT := Lib.hid (And.intro hA0 hA1)
  have HN := Lib.hid (num_anyL x p q L w hx (by omega))
  have HX := Lib.hid hx
  obtain ⟨a, ha⟩ : ∃ a : Nat, blen p = a := ⟨_, rfl⟩
  obtain ⟨b, hb⟩ : ∃ b : Nat, blen q = b := ⟨_, rfl⟩
  rw [ha, hb] at s1 s2
  have HAB := Lib.hid (And.intro ha hb)
  obtain ⟨e0, he0⟩ : ∃ e0 : Int, (((a : Int) - (b : Int)) * 3).tdiv 10 = e0 := ⟨_, rfl⟩
  have he1 : -500 ≤ e0 ∧ e0 ≤ 500 := by
    rw [← he0]
    rcases Int.lt_or_le ((a : Int) - (b : Int)) 0 with c | c
    · rw [show ((a : Int) - (b : Int)) * 3 = -(((b : Int) - (a : Int)) * 3) by omega, Int.neg_tdiv, Int.tdiv_eq_ediv_of_nonneg (by omega)]
      omega
    · rw [Int.tdiv_eq_ediv_of_nonneg (by omega)]
      omega
  clear hx hp hq hlo hhi hA0 hA1 ha hb
  go_enter Tryz.func85, Tryz.ntmps85
  go_wp2_with fail
  refine HN.out.mono ?_
  rintro e w1 ⟨b1, rfl, hb1, i1, s1', c1⟩
  have HX1 := Lib.hid (HX.out.below c1 (Nat.le_refl _))
  have H1 := Lib.hid (And.intro c1 i1)
  clear c1 i1 s1' HN HX
  go_wp2_with fail
  refine (bitlen_anyL b1 0 p L false w1 H1.out.2 (by omega)).mono ?_
  rintro e w2 ⟨rfl, hw⟩
  obtain rfl := hw.symm
  rw [HAB.out.1]
  go_wp2_with fail
  refine (denom_anyL x p q L w1 HX1.out (by omega)).mono ?_
  rintro e w2 ⟨b2, rfl, hb2, i2, s2', c2⟩
  have HX2 := Lib.hid (HX1.out.below c2 (Nat.le_refl _))
  have H2 := Lib.hid (And.intro (back_of' H1.out.1 c2) i2)
  clear c2 i2 s2' HX1 H1
  go_wp2_with fail
  refine (bitlen_anyL b2 0 q L false w2 H2.out.2 (by omega)).mono ?_
  rintro e w3 ⟨rfl, hw⟩
  obtain rfl := hw.symm
  rw [HAB.out.2]
  go_wp2_with fail
  have H3 := Lib.hid H2.out.1
  clear H2 hw s1 s2 HAB
  have HX3 := Lib.hid HX2.out
  go_loopw [3] (fun v wr => ∃ E : Int, v = .int .i64 E ∧ -500 ≤ E ∧ E ≤ 500 ∧ Hid (Below w.heap.size w wr ∧ RatL wr x false p q L)) (fun v _ => (intOf v + 600).toNat)
  case atStart => exact ⟨e0, rfl, he1.1, he1.2, Lib.hid ⟨H3.out, HX3.out⟩⟩
  case round =>
    obtain ⟨E, rfl, g1, g2, H⟩ := hrel
    go_wp2_with fail
    refine (ten_pow E L wr (by omega) (by omega) (by omega) hL2).mono ?_
    rintro e wa ⟨bz, rfl, hbz, rz, sz, bb⟩
    have HR := Lib.hid (And.intro (back_of' H.out.1 bb) (And.intro (H.out.2.below bb (Nat.le_refl _)) rz))
    clear rz sz bb H
    go_wp2_with fail
    refine (cmp_ten x _ p q L E _ HR.out.2.1 HR.out.2.2 (by omega)).mono ?_
    rintro e wb ⟨cc, rfl, hcc, hc1, hc2, bc⟩
    have HS := Lib.hid (And.intro (back_of' HR.out.1 bc) (HR.out.2.1.below bc (Nat.le_refl _)))
    clear bc HR
    by_cases hA : AtM p q E
    · have h0 : 0 ≤ cc := by
        rcases Int.lt_or_le cc 0 with t | t
        · exact absurd hA (hcc.1 t)
        · exact t
      have HE := Lib.hid hA
      clear hcc hA
      go_wp2_with fail
      go_loopw [3] (fun v wr => ∃ E : Int, v = .int .i64 E ∧ -500 ≤ E ∧ E ≤ 500 ∧ Hid (AtM p q E ∧ Below w.heap.size w wr ∧ RatL wr x false p q L)) (fun v _ => (600 - intOf v).toNat)
      case atStart => exact ⟨E, rfl, g1, g2, Lib.hid ⟨HE.out, HS.out⟩⟩
      case round =>
        clear HE HS
        obtain ⟨E, rfl, g1, g2, H⟩ := hrel
        go_wp2_with fail
        refine (ten_pow (E + 1) L wr (by omega) (by omega) (by omega) hL2).mono ?_
        rintro e wa ⟨bz, rfl, hbz, rz, sz, bb⟩
        have HR := Lib.hid (And.intro (back_of' H.out.2.1 bb) (And.intro (H.out.2.2.below bb (Nat.le_refl _)) rz))
        have HE := Lib.hid H.out.1
        clear rz sz bb H
        go_wp2_with fail
        refine (cmp_ten x _ p q L (E + 1) _ HR.out.2.1 HR.out.2.2 (by omega)).mono ?_
        rintro e wb ⟨cc, rfl, hcc, hc1, hc2, bc⟩
        have HS := Lib.hid (And.intro (back_of' HR.out.1 bc) (HR.out.2.1.below bc (Nat.le_refl _)))
        clear bc HR
        by_cases hA : AtM p q (E + 1)
        · have h0 : 0 ≤ cc := by
            rcases Int.lt_or_le cc 0 with t | t
            · exact absurd hA (hcc.1 t)
            · exact t
          have h1 : E + 1 ≤ 500 := by
            rcases Int.lt_or_le (E + 1) (B : Int) with t | t
            · omega
            · exact absurd (hA.le t) HAT.out.2
          have HE := Lib.hid hA
          clear hcc hA
          go_wp2_with fail
          exact ⟨⟨_, rfl, by omega, by omega, Lib.hid ⟨HE.out, HS.out⟩⟩, by simp only [intOf]; omega⟩
        · have h0 : cc < 0 := hcc.2 hA
          have HF : Hid (∃ E' : Int, (Ending.returned (.int .i64 E) = .returned (.int .i64 E') ∧ Dec p q E' ∧ -(B : Int) ≤ E' ∧ E' < B ∧ Below w.heap.size w wb)) := by
            refine Lib.hid ⟨E, rfl, ⟨HE.out, hA⟩, ?_, ?_, HS.out.1⟩
            · rcases Int.lt_or_le E (-(B : Int)) with t | t
              · exact absurd (HAT.out.1.le (by omega)) hA
              · exact t
            · rcases Int.lt_or_le E (B : Int) with t | t
              · exact t
              · exact absurd (HE.out.le t) HAT.out.2
          clear hcc hA HE HS
          go_wp2_with fail
          go_ret
          exact HF.out
    · have h0 : cc < 0 := hcc.2 hA
      have h1 : -500 ≤ E - 1 := by
        rcases Int.lt_or_le (-(B : Int)) E with t | t
        · omega
        · exact absurd (HAT.out.1.le t) hA
      clear hcc hA
      go_wp2_with fail
      exact ⟨⟨_, rfl, by omega, by omega, Lib.hid HS.out⟩, by simp only [intOf]; omega⟩
end Go.Proofs.YtgccfdfbnhldbaaGreatDoor.Nb

namespace Go.Proofs.YtgccfdfbnhldbaaGreatDoor.Nb
open Go Go.RowKit

structure FewG (w W : World) (x xv x0 cu u z3 p q r s P Q L : Nat) : Prop where
  b : Below w.heap.size w W
  rx : RatL W x false p q L
  cx : W.cell? ⟨xv, 0, none⟩ = some (.float .f64 x0) ∧ xv < w.heap.size
  ca : W.cell? ⟨w.heap.size, 0, none⟩ = some (.func (.func 39) #[] #[.pointer (some ⟨xv, 0, none⟩)]) ∧ w.heap.size < W.heap.size
  cc : W.cell? ⟨cu, 0, none⟩ = some (.pointer (some ⟨u, 0, none⟩)) ∧ cu < W.heap.size
  ru : RatL W u false r s L
  rz : RatL W z3 false P Q (L + L)
theorem FewG.below {w W W' : World} {x xv x0 cu u z3 p q r s P Q L : Nat} (h : FewG w W x xv x0 cu u z3 p q r s P Q L) (k : Below W.heap.size W W') : FewG w W' x xv x0 cu u z3 p q r s P Q L :=
  ⟨back_of' h.b k, h.rx.below k (Nat.le_refl _), ⟨(k.cell (p := ⟨xv, 0, none⟩) (Nat.lt_of_lt_of_le h.cx.2 h.b.size)).trans h.cx.1, h.cx.2⟩, ⟨(k.cell (p := ⟨w.heap.size, 0, none⟩) h.ca.2).trans h.ca.1, Nat.lt_of_lt_of_le h.ca.2 k.size⟩, ⟨(k.cell (p := ⟨cu, 0, none⟩) h.cc.2).trans h.cc.1, Nat.lt_of_lt_of_le h.cc.2 k.size⟩, h.ru.below k (Nat.le_refl _), h.rz.below k (Nat.le_refl _)⟩

theorem RatL.lt {w : World} {b p q L : Nat} {neg : Bool} (h : RatL w b neg p q L) : p < 18446744073709551616 ^ L ∧ q < 18446744073709551616 ^ L := by
  obtain ⟨⟨-, -, A, k, c, -, h4⟩, ⟨-, -, A', k', c', -, h4'⟩, -⟩ := h
  exact ⟨mag_lt h4, mag_lt h4'⟩
theorem words_big {L : Nat} (h : 1 ≤ L) : 1000000000000000000 ≤ 18446744073709551616 ^ L := by
  have h1 : 18446744073709551616 ^ 1 ≤ 18446744073709551616 ^ L := Nat.pow_le_pow_right (by omega) h
  rw [Nat.pow_one] at h1
  omega
theorem words_mul {a b c L : Nat} (h : c ≤ a * b) (ha : a < 18446744073709551616 ^ L) (hb : b < 18446744073709551616 ^ L) : c < 18446744073709551616 ^ (L + L) := by
  rw [Nat.pow_add]
  refine Nat.lt_of_le_of_lt h ?_
  exact Nat.mul_lt_mul_of_lt_of_le ha (Nat.le_of_lt hb) (by omega)
theorem sub_le {P Q low : Nat} (h : low * Q ≤ P) (_ : 0 < Q) : low * (Q / Nat.gcd Q 1) ≤ P * (1 / Nat.gcd Q 1) := by
  rw [Nat.gcd_one_right, Nat.div_one, Nat.div_one, Nat.mul_one]; exact h
theorem sub_pos {D Q : Nat} (hQ : 0 < Q) : 0 < Q / Nat.gcd Q 1 * (1 / Nat.gcd D (Nat.gcd Q 1)) := by
  rw [Nat.gcd_one_right, Nat.gcd_one_right, Nat.div_one, Nat.div_one, Nat.mul_one]; exact hQ
/-- a fraction over a fraction, in lowest terms -/
theorem quo_law {p q r s P Q : Nat} (hq : 0 < q) (hr : 0 < r) (hP : p / Nat.gcd p r * (s / Nat.gcd s q) = P) (hQ : q / Nat.gcd s q * (r / Nat.gcd p r) = Q) : P * (q * r) = p * s * Q ∧ 0 < Q ∧ P ≤ p * s ∧ Q ≤ q * r := by
  have g1 : 0 < Nat.gcd p r := Nat.gcd_pos_of_pos_right p hr
  have g2 : 0 < Nat.gcd s q := Nat.gcd_pos_of_pos_right s hq
  obtain ⟨p', hp'⟩ := Nat.gcd_dvd_left p r
  obtain ⟨r', hr'⟩ := Nat.gcd_dvd_right p r
  obtain ⟨s', hs'⟩ := Nat.gcd_dvd_left s q
  obtain ⟨q', hq'⟩ := Nat.gcd_dvd_right s q
  rw [Nat.div_eq_of_eq_mul_right g1 hp', Nat.div_eq_of_eq_mul_right g2 hs'] at hP
  rw [Nat.div_eq_of_eq_mul_right g2 hq', Nat.div_eq_of_eq_mul_right g1 hr'] at hQ
  generalize Nat.gcd p r = g at *
  generalize Nat.gcd s q = h at *
  subst hp' hr' hs' hq' hP hQ
  refine ⟨by ac_rfl, ?_, ?_, ?_⟩
  · refine Nat.mul_pos ?_ ?_
    · exact Nat.pos_of_mul_pos_left hq
    · exact Nat.pos_of_mul_pos_left hr
  · exact Nat.mul_le_mul (Nat.le_mul_of_pos_left _ g1) (Nat.le_mul_of_pos_left _ g2)
  · exact Nat.mul_le_mul (Nat.le_mul_of_pos_left _ g2) (Nat.le_mul_of_pos_left _ g1)
/-- the digits cut off, of p / q by the unit ten to the k-th -/
def lowK (p q : Nat) (k : Int) : Nat := p * 10 ^ (-k).toNat / (q * 10 ^ k.toNat)
theorem low_of {p q r s P Q : Nat} {K : Int} (hr : 10 ^ K.toNat = r) (hs : 10 ^ (-K).toNat = s) (hr0 : 0 < r) (hq : 0 < q) (hQ : 0 < Q) (h : P * (q * r) = p * s * Q) : P / Q = lowK p q K := by
  unfold lowK
  rw [hr, hs]
  exact (same_quo hQ (Nat.mul_pos hq hr0) h).1
theorem low_in {p q n : Nat} {E K : Int} (hq : 0 < q) (hd : Dec p q E) (hK : E - n + 1 = K) (h1 : 1 ≤ n) : 10 ^ (n - 1) ≤ lowK p q K ∧ lowK p q K < 10 ^ n := by
  have hr0 : 0 < 10 ^ K.toNat := Nat.pow_pos (by omega)
  have a1 := (atm_shift (k := K) (by omega)).1 hd.1
  have a2 := mt (atm_shift (k := K) (by omega)).2 hd.2
  rw [show (E - K).toNat = n - 1 by omega] at a1
  rw [show (E + 1 - K).toNat = n by omega] at a2
  unfold lowK
  have hM := Nat.mul_pos hq hr0
  exact ⟨(Nat.le_div_iff_mul_le hM).2 a1, (Nat.div_lt_iff_lt_mul hM).2 (by omega)⟩
/-- neither neighbour of so many digits is read as the number -/
def NoneAt (p q X : Nat) (E : Int) (n : Nat) : Prop := ¬ Hits (lowK p q (E - n + 1)) (E - n + 1) X ∧ ¬ Hits (lowK p q (E - n + 1) + 1) (E - n + 1) X
/-- a digit string's number by the unit, as the program has it -/
theorem hits_mul {d r s : Nat} {K : Int} {X : Nat} (hr : 10 ^ K.toNat = r) (hs : 10 ^ (-K).toNat = s) (hs0 : 0 < s) : Rnd 53 1074 (d / Nat.gcd d s * (r / Nat.gcd r 1)) (1 / Nat.gcd r 1 * (s / Nat.gcd d s)) X ↔ Hits d K X := by
  unfold Hits
  rw [hr, hs]
  have h := @mul_law d r s hs0
  exact rnd_same h.2.1 hs0 h.1
theorem len_wrap {d n : Nat} {E : Int} (hd : d < 18446744073709551616) (h1 : -400 ≤ E) (h2 : E ≤ 400) (hn : n ≤ 17) : wrap64 (wrap64 (E + ((revDig d).length : Int)) - (n : Int)) = E + ((revDig d).length : Int) - (n : Int) := by
  have := revDig_len hd
  unfold wrap64
  omega
/-- what fewest finds -/
structure FewSays (p q X : Nat) (E : Int) (n d : Nat) : Prop where
  dec : Dec p q E
  n0 : 1 ≤ n ∧ n ≤ 17
  d0 : d = lowK p q (E - n + 1) ∨ d = lowK p q (E - n + 1) + 1
  hit : Hits d (E - n + 1) X
  least : ∀ m, 1 ≤ m → m < n → NoneAt p q X E m

set_option maxRecDepth 8000 in
set_option maxHeartbeats 8000000 in
theorem fewest_any (x xv x0 p q L X : Nat) (w : World) (hx : RatL w x false p q L) (hv : w.cell? ⟨xv, 0, none⟩ = some (.float .f64 x0)) (hxv : xv < w.heap.size)
    (HA : Hid (∀ W, Calls Tryz.prog 40 #[.float .f64 x0] W fun e w' => e = .returned (.float .f64 X) ∧ w' = W)) (hX0 : 0 < X) (hX : X < 9218868437227405312)
    (hp : 0 < p) (hlo : q ≤ p * 10 ^ 400) (hhi : p < q * 10 ^ 400) (hval : p * 2 ^ 1074 = Nx.amt64 X * q) (hL : 2100 ≤ L) (hL2 : L ≤ 20000) :
    Calls Tryz.prog 37 #[.pointer (some ⟨x, 0, none⟩), .func (.func 39) #[] #[.pointer (some ⟨xv, 0, none⟩)]] w fun e w' => ∃ (E : Int) (n d : Nat), FewSays p q X E n d ∧ e = .returned (.tuple #[.string ⟨(revDig d).reverse.toArray⟩, .int .i64 (E + (revDig d).length - n)]) ∧ Below w.heap.size w w' := by
  have hmf : ∀ (fn : Fn) (first cap : Array Value) (w : World), (Instr.makeFunc fn first cap).run Tryz.prog w = .ok (.func fn first cap) w := fun _ _ _ _ => rfl
  have hA := (Below.refl w.heap.size w).alloc (Nat.le_refl _) (.cells #[.func (.func 39) #[] #[.pointer (some ⟨xv, 0, none⟩)]] 85)
  have hca : (w.alloc (.cells #[.func (.func 39) #[] #[.pointer (some ⟨xv, 0, none⟩)]] 85)).cell? ⟨w.heap.size, 0, none⟩ = some (.func (.func 39) #[] #[.pointer (some ⟨xv, 0, none⟩)]) := by simp [go_sem]
  have hcs : w.heap.size < (w.alloc (.cells #[.func (.func 39) #[] #[.pointer (some ⟨xv, 0, none⟩)]] 85)).heap.size := by simp
  have HD := Lib.hid (decade_any x p q L 400 _ (hx.below hA (Nat.le_refl _)) hp hlo hhi (by omega) hL (by omega))
  have hq : 0 < q := hx.2.2
  have H0 := Lib.hid (And.intro hA (And.intro hca hcs))
  have HX := Lib.hid (And.intro hx hv)
  have HV := Lib.hid (And.intro hval (And.intro hp (And.intro hq hX0)))
  clear hA hca hcs hx hv hlo hhi hval hp hq hX0
  go_enter Tryz.func37, Tryz.ntmps37
  go_wp2_with fail
  refine HD.out.mono ?_
  rintro e w1 ⟨E, rfl, hdec, hE1, hE2, b1⟩
  have H1 := Lib.hid (And.intro (H0.out.1.trans (b1.mono H0.out.1.size)) (And.intro ((b1.cell (p := ⟨w.heap.size, 0, none⟩) H0.out.2.2).trans H0.out.2.1) (Nat.lt_of_lt_of_le H0.out.2.2 b1.size)))
  have HE := Lib.hid hdec
  clear b1 H0 HD hdec
  go_wp2_with fail
  go_loopw [7] (fun v wr => ∃ n : Nat, v = .int .i64 n ∧ 1 ≤ n ∧ n ≤ 17 ∧ Hid ((∀ m, 1 ≤ m → m < n → NoneAt p q X E m) ∧ Below w.heap.size w wr ∧ wr.cell? ⟨w.heap.size, 0, none⟩ = some (.func (.func 39) #[] #[.pointer (some ⟨xv, 0, none⟩)]) ∧ w.heap.size < wr.heap.size)) (fun v _ => (18 - intOf v).toNat)
  case atStart => exact ⟨1, rfl, by omega, by omega, Lib.hid ⟨fun m _ _ => by omega, H1.out⟩⟩
  case round =>
    clear H1
    obtain ⟨n, rfl, n1, n17, H1⟩ := hrel
    obtain ⟨K, hK⟩ : ∃ K : Int, E - n + 1 = K := ⟨_, rfl⟩
    go_wp2_with fail
    refine (ten_pow K L wr (by omega) (by omega) (by omega) (by omega)).mono ?_
    rintro e w2 ⟨u, rfl, hu0, r2, s2, c2⟩
    obtain ⟨r, hr⟩ : ∃ r, 10 ^ K.toNat = r := ⟨_, rfl⟩
    obtain ⟨s, hs⟩ : ∃ s, 10 ^ (-K).toNat = s := ⟨_, rfl⟩
    have hr0 : 0 < r := hr ▸ Nat.pow_pos (by omega)
    have hs0 : 0 < s := hs ▸ Nat.pow_pos (by omega)
    rw [hr, hs] at r2
    obtain ⟨P, hP⟩ : ∃ P, p / Nat.gcd p r * (s / Nat.gcd s q) = P := ⟨_, rfl⟩
    obtain ⟨Q, hQ⟩ : ∃ Q, q / Nat.gcd s q * (r / Nat.gcd p r) = Q := ⟨_, rfl⟩
    have hlaw := quo_law HV.out.2.2.1 hr0 hP hQ
    have hB := (back_of' H1.out.2.1 c2)
    have hb2 := (Below.refl w2.heap.size w2).alloc (Nat.le_refl _) (.cells #[.pointer (some ⟨u, 0, none⟩)] 76)
    have hb3 := hb2.alloc hb2.size (.cells #[.bool false, .slice none 0 0, .bool false, .slice none 0 0] 136)
    have hs3 : RSlot ((w2.alloc (.cells #[.pointer (some ⟨u, 0, none⟩)] 76)).alloc (.cells #[.bool false, .slice none 0 0, .bool false, .slice none 0 0] 136)) (w2.heap.size + 1) := by
      have := RSlot.new (w2.alloc (.cells #[.pointer (some ⟨u, 0, none⟩)] 76)) 136
      simpa using this
    have hc3 : ((w2.alloc (.cells #[.pointer (some ⟨u, 0, none⟩)] 76)).alloc (.cells #[.bool false, .slice none 0 0, .bool false, .slice none 0 0] 136)).cell? ⟨w2.heap.size, 0, none⟩ = some (.pointer (some ⟨u, 0, none⟩)) := by simp [go_sem]
    have hxl := HX.out.1.lt
    have hrl := r2.lt
    have HQ := Lib.hid (ratquoL (w2.heap.size + 1) x u p q r s P Q L (L + L) _ hs3 (HX.out.1.below (back_of' hB hb3) (Nat.le_refl _)) (r2.below hb3 (Nat.le_refl _)) hr0 hP hQ (words_mul hlaw.2.2.1 hxl.1 hrl.2) (words_mul hlaw.2.2.2 hxl.2 hrl.1) hlaw.2.1 (by omega) (by omega))
    have HL := Lib.hid (And.intro hr (And.intro hs (And.intro hr0 (And.intro hs0 (And.intro hlaw.1 hlaw.2.1)))))
    have HC0 := Lib.hid (And.intro hB (And.intro hb3 (And.intro hc3 (And.intro r2 (And.intro ((c2.cell (p := ⟨w.heap.size, 0, none⟩) H1.out.2.2.2).trans H1.out.2.2.1) (Nat.lt_of_lt_of_le H1.out.2.2.2 c2.size))))))
    have HM := Lib.hid H1.out.1
    clear r2 s2 c2 hb2 hb3 hs3 hc3 hB H1 hr hs hr0 hs0 hlaw hP hQ hxl hrl
    go_wp2_with fail
    refine HQ.out.mono ?_
    rintro e w3 ⟨rfl, r3, s3, b3⟩
    have HC : Hid (FewG w w3 x xv x0 w2.heap.size u (w2.heap.size + 1) p q r s P Q L) := Lib.hid (by
      obtain ⟨g1, g2, g3, g4, g5, g6⟩ := HC0.out
      have k := g2.trans (b3.mono (Nat.le_succ _))
      have kk := back_of' g1 k
      exact ⟨kk, HX.out.1.below kk (Nat.le_refl _), ⟨(kk.cell (p := ⟨xv, 0, none⟩) hxv).trans HX.out.2, hxv⟩, ⟨(k.cell (p := ⟨w.heap.size, 0, none⟩) g6).trans g5, Nat.lt_of_lt_of_le g6 k.size⟩, ⟨(b3.cell (p := ⟨w2.heap.size, 0, none⟩) (Nat.lt_succ_self _)).trans g3, Nat.lt_of_lt_of_le (by simp; omega) b3.size⟩, g4.below k (Nat.le_refl _), r3⟩)
    clear r3 s3 b3 HC0 HQ
    go_wp2_with fail
    have hA4 := (Below.refl w3.heap.size w3).alloc (Nat.le_refl _) (.cells #[.bool false, .slice none 0 0] 90)
    have HN4 := Lib.hid (num_anyL (w2.heap.size + 1) _ _ _ _ (HC.out.below hA4).rz (by omega))
    have HA4 := Lib.hid (And.intro hA4 (ISlot.new w3 90))
    clear hA4
    refine HN4.out.mono ?_
    rintro e w4 ⟨b4, rfl, hb4, i4, s4, c4⟩
    have H4 := Lib.hid (And.intro (back_of' HA4.out.1 c4) (And.intro i4 (HA4.out.2.below c4 (Nat.le_refl _))))
    clear i4 s4 c4 HN4 HA4
    go_wp2_with fail
    refine (denom_anyL (w2.heap.size + 1) _ _ _ w4 (HC.out.below H4.out.1).rz (by omega)).mono ?_
    rintro e w5 ⟨b5, rfl, hb5, i5, s5, c5⟩
    have H5 := Lib.hid (And.intro (back_of' H4.out.1 c5) (And.intro (H4.out.2.1.below c5 (Nat.le_refl _)) (And.intro (H4.out.2.2.below c5 (Nat.le_refl _)) i5)))
    clear i5 s5 c5 H4
    go_wp2_with fail
    refine (quo_anyL w3.heap.size 0 b4 0 P b5 0 Q (L + L) w5 H5.out.2.2.1 H5.out.2.1 H5.out.2.2.2 HL.out.2.2.2.2.2 (by omega) (by omega)).mono ?_
    rintro e w6 ⟨rfl, i6, s6, b6⟩
    obtain ⟨low, hlow⟩ : ∃ low, P / Q = low := ⟨_, rfl⟩
    have hlw : low = lowK p q K := by rw [← hlow]; exact low_of HL.out.1 HL.out.2.1 HL.out.2.2.1 HV.out.2.2.1 HL.out.2.2.2.2.2 HL.out.2.2.2.2.1
    have hin := low_in HV.out.2.2.1 HE.out hK n1
    rw [← hlw] at hin
    have h17 : 10 ^ n ≤ 10 ^ 17 := Nat.pow_le_pow_right (by omega) n17
    have hlow1 : 1 ≤ low := Nat.le_trans (Nat.pow_pos (by omega)) hin.1
    have hlow2 : low < 100000000000000000 := Nat.lt_of_lt_of_le hin.2 h17
    rw [hlow] at i6
    have HLW := Lib.hid hlw
    have HC := Lib.hid (HC.out.below (H5.out.1.trans b6))
    have HLo : Hid (IntN w6 w3.heap.size 0 false low) := Lib.hid (i6.less (L' := 1) (by omega))
    have hl6 : w3.heap.size < w6.heap.size := i6.1
    have hlq : low * Q ≤ P := by rw [← hlow]; exact Nat.div_mul_le_self _ _
    clear i6 s6 b6 H5 hin h17 hlw hlow
    go_wp2_with fail
    have hA7 := (Below.refl w6.heap.size w6).alloc (Nat.le_refl _) (.cells #[.bool false, .slice none 0 0] 90)
    have HA7 := Lib.hid (And.intro hA7 (ISlot.new w6 90))
    clear hA7
    refine (newInt_any 1 _ (by omega)).mono ?_
    rintro e w7 ⟨b7, rfl, hb7, i7, s7, c7⟩
    have H7 := Lib.hid (And.intro (back_of' HA7.out.1 c7) (And.intro i7 (HA7.out.2.below c7 (Nat.le_refl _))))
    clear i7 s7 c7 HA7
    go_wp2_with fail
    refine (add_pos w6.heap.size 0 w3.heap.size 0 low b7 0 1 w7 H7.out.2.2 (HLo.out.below H7.out.1 (Nat.le_refl _)) H7.out.2.1 (by omega)).mono ?_
    rintro e w8 ⟨rfl, i8, s8, b8⟩
    have HC := Lib.hid (HC.out.below (H7.out.1.trans b8))
    have HLo := Lib.hid (HLo.out.below (H7.out.1.trans b8) (Nat.le_refl _))
    have HH : Hid (IntN w8 w6.heap.size 0 false (low + 1)) := Lib.hid i8
    clear i8 s8 b8 H7
    go_wp2_with fail
    have HRd := Lib.hid (fun (d : Nat) (hd : d < 1000000000000000000) (W : World) (hW : Below w8.heap.size w8 W) (b : Nat) (hb : IntN W b 0 false d) (h0 : 0 < d) =>
      read_any' b d r s _ _ w.heap.size w2.heap.size u xv L (L + L) (Hits d K X) W hb h0 (HC.out.below hW).ca.1 (HC.out.below hW).ca.2 (HC.out.below hW).cc.1 (HC.out.below hW).cc.2 (HC.out.below hW).ru rfl rfl
        (words_mul (mul_law HL.out.2.2.2.1).2.2.1 (Nat.lt_of_lt_of_le hd (words_big (by omega))) HC.out.ru.lt.1)
        (Nat.lt_of_le_of_lt (mul_law (n := d) (r := r) HL.out.2.2.2.1).2.2.2 (Nat.lt_of_lt_of_le HC.out.ru.lt.2 (Nat.pow_le_pow_right (by omega) (by omega))))
        (mul_law HL.out.2.2.2.1).2.1 (by omega)
        (Lib.hid (fun z W' hW' hz => (again_any z xv x0 X _ _ (L + L) W' hz (by omega) (by omega) ((HC.out.below hW).below hW').cx.1 (Nat.lt_of_lt_of_le HC.out.cx.2 ((HC.out.below hW).below hW').b.size) HA (mul_law HL.out.2.2.2.1).2.1 hX).mono (fun e w' h => by
          obtain ⟨rb, h1, h2, h3⟩ := h
          exact ⟨rb, h1, h2.trans (hits_mul HL.out.1 HL.out.2.1 HL.out.2.2.2.1), h3⟩))))
    refine (HRd.out low (by omega) w8 (Below.refl _ _) w3.heap.size HLo.out (by omega)).mono ?_
    rintro e w9 ⟨ra, rfl, hra, b9⟩
    have hb9 := b9
    have HC9 := Lib.hid (HC.out.below b9)
    have HLo := Lib.hid (HLo.out.below b9 (Nat.le_refl _))
    have HH := Lib.hid (HH.out.below b9 (Nat.le_refl _))
    clear b9
    go_wp2_with fail
    refine (HRd.out (low + 1) (by omega) w9 hb9 w6.heap.size HH.out (by omega)).mono ?_
    rintro e w10 ⟨rb, rfl, hrb, b10⟩
    have HC := Lib.hid (HC9.out.below b10)
    have HLo := Lib.hid (HLo.out.below b10 (Nat.le_refl _))
    have HH := Lib.hid (HH.out.below b10 (Nat.le_refl _))
    have hl10 : w3.heap.size < w10.heap.size := HLo.out.1
    clear b10 hb9 HRd HC9
    have hnx : ra = false → rb = false → n < 17 ∧ NoneAt p q X E n := by
      intro h1 h2
      rw [h1] at hra
      rw [h2] at hrb
      have k1 : ¬ Hits low K X := fun h => by have := hra.2 h; simp at this
      have k2 : ¬ Hits (low + 1) K X := fun h => by have := hrb.2 h; simp at this
      refine ⟨?_, ?_⟩
      · rcases Nat.lt_or_ge n 17 with t | t
        · exact t
        · exfalso
          rcases hits_last (k := K) HV.out.2.2.1 HV.out.2.2.2 HV.out.1 HE.out.1 (by omega) HLW.out with t1 | t1
          · exact k1 t1
          · exact k2 t1
      · unfold NoneAt
        rw [hK, ← HLW.out]
        exact ⟨k1, k2⟩
    have HNX := Lib.hid hnx
    have HRR := Lib.hid (And.intro hra hrb)
    clear hnx hra hrb
    have HLQ := Lib.hid hlq
    clear hlq
    cases ra
    · cases rb
      · have hfx := HNX.out rfl rfl
        have HFX := Lib.hid hfx
        clear hfx
        go_wp2_with fail
        obtain ⟨t1, t2⟩ := HFX.out
        refine ⟨⟨n + 1, by rfl, by omega, by omega, Lib.hid ⟨fun m m1 m2 => ?_, HC.out.b, HC.out.ca⟩⟩, by simp only [intOf]; omega⟩
        rcases Nat.lt_or_ge m n with t | t
        · exact HM.out m m1 t
        · obtain rfl : m = n := by omega
          exact t2
      · have hit : Hits (low + 1) K X := HRR.out.2.1 rfl
        have HIT := Lib.hid hit
        clear hit
        go_wp2_with fail
        have hA11 := ((Below.refl w10.heap.size w10).alloc (Nat.le_refl _) (.cells #[.bool false, .slice none 0 0, .bool false, .slice none 0 0] 136))
        have hA12 := hA11.alloc hA11.size (.cells #[.bool false, .slice none 0 0, .bool false, .slice none 0 0] 136)
        have hs56 : RSlot ((w10.alloc (.cells #[.bool false, .slice none 0 0, .bool false, .slice none 0 0] 136)).alloc (.cells #[.bool false, .slice none 0 0, .bool false, .slice none 0 0] 136)) (w10.heap.size + 1) := by
          have := RSlot.new (w10.alloc (.cells #[.bool false, .slice none 0 0, .bool false, .slice none 0 0] 136)) 136
          simpa using this
        have hs54 := (RSlot.new w10 136).below ((Below.refl _ _).alloc (Nat.le_refl _) (.cells #[.bool false, .slice none 0 0, .bool false, .slice none 0 0] 136)) (Nat.le_refl _)
        have HI := Lib.hid (setintLK (w10.heap.size + 1) w3.heap.size 0 low (L + L) _ hs56 ((HLo.out.any (by omega)).below hA12 (Nat.le_refl _)) (by omega) (by omega) (by omega))
        have HA11 := Lib.hid (And.intro hA12 hs54)
        clear hA11 hA12 hs56 hs54
        refine HI.out.mono ?_
        rintro e w11 ⟨⟨rfl, r11, s11, b11⟩, k11⟩
        have hb11 := HA11.out.1.trans (b11.mono (Nat.le_succ _))
        have HCx := Lib.hid (HC.out.below hb11)
        have HBx := Lib.hid hb11
        have H11 := Lib.hid (And.intro r11 (HA11.out.2.kept k11 (by omega)))
        clear r11 s11 b11 k11 hb11 HI HA11
        go_wp2_with fail
        refine (ratsub_anyL w10.heap.size (w2.heap.size + 1) (w10.heap.size + 1) P Q low 1 _ _ _ _ _ _ _ _ _ _ (L + L) (L + L + (L + L)) w11 H11.out.2 HCx.out.rz H11.out.1 (by omega) rfl rfl rfl rfl rfl (sub_le HLQ.out HL.out.2.2.2.2.2) rfl rfl rfl rfl rfl rfl (by omega) (sub_pos HL.out.2.2.2.2.2)).mono ?_
        rintro e w12 ⟨rfl, r12, s12, b12⟩
        have H12 := Lib.hid (And.intro r12 (HBx.out.trans b12))
        clear r12 s12 b12 HCx HBx H11
        go_wp2_with fail
        refine (newrat_any 1 2 w12 (by omega) (by omega) (by decide) (by omega)).mono ?_
        rintro e w13 ⟨b13, rfl, hb13, r13, s13, c13⟩
        have HCm := Lib.hid (ratcmp_anyL w10.heap.size b13 _ _ 1 2 _ _ _ w13 (H12.out.1.below c13 (Nat.le_refl _)) ⟨r13.1.any (by omega), r13.2.1.any (by omega), r13.2.2⟩ rfl rfl (by omega))
        have H13 := Lib.hid (H12.out.2.trans (c13.mono H12.out.2.size))
        clear r13 s13 c13 H12
        go_wp2_with fail
        refine HCm.out.mono ?_
        rintro e w14 ⟨rfl, b14⟩
        generalize cmpN _ _ = cc
        have hb14 := H13.out.trans (b14.mono H13.out.size)
        have H14 := Lib.hid (back_of' HC.out.b hb14)
        have HLo := Lib.hid (HLo.out.below hb14 (Nat.le_refl _))
        have HH := Lib.hid (HH.out.below hb14 (Nat.le_refl _))
        clear b14 H13 HCm HC hb14
        go_wp2_with fail
        refine (string_word w6.heap.size 0 (low + 1) _ w14 HH.out (by omega) rfl).mono ?_
        rintro e w15 ⟨rfl, b15⟩
        have H15 := Lib.hid (back_of' H14.out b15)
        clear b15 H14
        go_wp2_with fail
        go_ret2
        refine ⟨E, n, low + 1, ⟨HE.out, ⟨n1, n17⟩, .inr (by rw [hK, ← HLW.out]), by rw [hK]; exact HIT.out, HM.out⟩, ?_, H15.out⟩
        exact congrArg (fun z => Ending.returned (Value.tuple #[Value.string ⟨(revDig (low + 1)).reverse.toArray⟩, Value.int .i64 z])) (len_wrap (by omega) (by omega) (by omega) n17)
    · have hitl : Hits low K X := HRR.out.1.1 rfl
      have HITL := Lib.hid hitl
      clear hitl
      cases rb
      · have HIT := HITL
        go_wp2_with fail
        have hA11 := ((Below.refl w10.heap.size w10).alloc (Nat.le_refl _) (.cells #[.bool false, .slice none 0 0, .bool false, .slice none 0 0] 136))
        have hA12 := hA11.alloc hA11.size (.cells #[.bool false, .slice none 0 0, .bool false, .slice none 0 0] 136)
        have hs56 : RSlot ((w10.alloc (.cells #[.bool false, .slice none 0 0, .bool false, .slice none 0 0] 136)).alloc (.cells #[.bool false, .slice none 0 0, .bool false, .slice none 0 0] 136)) (w10.heap.size + 1) := by
          have := RSlot.new (w10.alloc (.cells #[.bool false, .slice none 0 0, .bool false, .slice none 0 0] 136)) 136
          simpa using this
        have hs54 := (RSlot.new w10 136).below ((Below.refl _ _).alloc (Nat.le_refl _) (.cells #[.bool false, .slice none 0 0, .bool false, .slice none 0 0] 136)) (Nat.le_refl _)
        have HI := Lib.hid (setintLK (w10.heap.size + 1) w3.heap.size 0 low (L + L) _ hs56 ((HLo.out.any (by omega)).below hA12 (Nat.le_refl _)) (by omega) (by omega) (by omega))
        have HA11 := Lib.hid (And.intro hA12 hs54)
        clear hA11 hA12 hs56 hs54
        refine HI.out.mono ?_
        rintro e w11 ⟨⟨rfl, r11, s11, b11⟩, k11⟩
        have hb11 := HA11.out.1.trans (b11.mono (Nat.le_succ _))
        have HCx := Lib.hid (HC.out.below hb11)
        have HBx := Lib.hid hb11
        have H11 := Lib.hid (And.intro r11 (HA11.out.2.kept k11 (by omega)))
        clear r11 s11 b11 k11 hb11 HI HA11
        go_wp2_with fail
        refine (ratsub_anyL w10.heap.size (w2.heap.size + 1) (w10.heap.size + 1) P Q low 1 _ _ _ _ _ _ _ _ _ _ (L + L) (L + L + (L + L)) w11 H11.out.2 HCx.out.rz H11.out.1 (by omega) rfl rfl rfl rfl rfl (sub_le HLQ.out HL.out.2.2.2.2.2) rfl rfl rfl rfl rfl rfl (by omega) (sub_pos HL.out.2.2.2.2.2)).mono ?_
        rintro e w12 ⟨rfl, r12, s12, b12⟩
        have H12 := Lib.hid (And.intro r12 (HBx.out.trans b12))
        clear r12 s12 b12 HCx HBx H11
        go_wp2_with fail
        refine (newrat_any 1 2 w12 (by omega) (by omega) (by decide) (by omega)).mono ?_
        rintro e w13 ⟨b13, rfl, hb13, r13, s13, c13⟩
        have HCm := Lib.hid (ratcmp_anyL w10.heap.size b13 _ _ 1 2 _ _ _ w13 (H12.out.1.below c13 (Nat.le_refl _)) ⟨r13.1.any (by omega), r13.2.1.any (by omega), r13.2.2⟩ rfl rfl (by omega))
        have H13 := Lib.hid (H12.out.2.trans (c13.mono H12.out.2.size))
        clear r13 s13 c13 H12
        go_wp2_with fail
        refine HCm.out.mono ?_
        rintro e w14 ⟨rfl, b14⟩
        generalize cmpN _ _ = cc
        have hb14 := H13.out.trans (b14.mono H13.out.size)
        have H14 := Lib.hid (back_of' HC.out.b hb14)
        have HLo := Lib.hid (HLo.out.below hb14 (Nat.le_refl _))
        have HH := Lib.hid (HH.out.below hb14 (Nat.le_refl _))
        clear b14 H13 HCm HC hb14
        go_wp2_with fail
        refine (string_word w3.heap.size 0 low _ w14 HLo.out (by omega) rfl).mono ?_
        rintro e w15 ⟨rfl, b15⟩
        have H15 := Lib.hid (back_of' H14.out b15)
        clear b15 H14
        go_wp2_with fail
        go_ret2
        refine ⟨E, n, low, ⟨HE.out, ⟨n1, n17⟩, .inl (by rw [hK, ← HLW.out]), by rw [hK]; exact HIT.out, HM.out⟩, ?_, H15.out⟩
        exact congrArg (fun z => Ending.returned (Value.tuple #[Value.string ⟨(revDig low).reverse.toArray⟩, Value.int .i64 z])) (len_wrap (by omega) (by omega) (by omega) n17)
      · have hit : Hits (low + 1) K X := HRR.out.2.1 rfl
        have HIT := Lib.hid hit
        clear hit
        go_wp2_with fail
        have hA11 := ((Below.refl w10.heap.size w10).alloc (Nat.le_refl _) (.cells #[.bool false, .slice none 0 0, .bool false, .slice none 0 0] 136))
        have hA12 := hA11.alloc hA11.size (.cells #[.bool false, .slice none 0 0, .bool false, .slice none 0 0] 136)
        have hs56 : RSlot ((w10.alloc (.cells #[.bool false, .slice none 0 0, .bool false, .slice none 0 0] 136)).alloc (.cells #[.bool false, .slice none 0 0, .bool false, .slice none 0 0] 136)) (w10.heap.size + 1) := by
          have := RSlot.new (w10.alloc (.cells #[.bool false, .slice none 0 0, .bool false, .slice none 0 0] 136)) 136
          simpa using this
        have hs54 := (RSlot.new w10 136).below ((Below.refl _ _).alloc (Nat.le_refl _) (.cells #[.bool false, .slice none 0 0, .bool false, .slice none 0 0] 136)) (Nat.le_refl _)
        have HI := Lib.hid (setintLK (w10.heap.size + 1) w3.heap.size 0 low (L + L) _ hs56 ((HLo.out.any (by omega)).below hA12 (Nat.le_refl _)) (by omega) (by omega) (by omega))
        have HA11 := Lib.hid (And.intro hA12 hs54)
        clear hA11 hA12 hs56 hs54
        refine HI.out.mono ?_
        rintro e w11 ⟨⟨rfl, r11, s11, b11⟩, k11⟩
        have hb11 := HA11.out.1.trans (b11.mono (Nat.le_succ _))
        have HCx := Lib.hid (HC.out.below hb11)
        have HBx := Lib.hid hb11
        have H11 := Lib.hid (And.intro r11 (HA11.out.2.kept k11 (by omega)))
        clear r11 s11 b11 k11 hb11 HI HA11
        go_wp2_with fail
        refine (ratsub_anyL w10.heap.size (w2.heap.size + 1) (w10.heap.size + 1) P Q low 1 _ _ _ _ _ _ _ _ _ _ (L + L) (L + L + (L + L)) w11 H11.out.2 HCx.out.rz H11.out.1 (by omega) rfl rfl rfl rfl rfl (sub_le HLQ.out HL.out.2.2.2.2.2) rfl rfl rfl rfl rfl rfl (by omega) (sub_pos HL.out.2.2.2.2.2)).mono ?_
        rintro e w12 ⟨rfl, r12, s12, b12⟩
        have H12 := Lib.hid (And.intro r12 (HBx.out.trans b12))
        clear r12 s12 b12 HCx HBx H11
        go_wp2_with fail
        refine (newrat_any 1 2 w12 (by omega) (by omega) (by decide) (by omega)).mono ?_
        rintro e w13 ⟨b13, rfl, hb13, r13, s13, c13⟩
        have HCm := Lib.hid (ratcmp_anyL w10.heap.size b13 _ _ 1 2 _ _ _ w13 (H12.out.1.below c13 (Nat.le_refl _)) ⟨r13.1.any (by omega), r13.2.1.any (by omega), r13.2.2⟩ rfl rfl (by omega))
        have H13 := Lib.hid (H12.out.2.trans (c13.mono H12.out.2.size))
        clear r13 s13 c13 H12
        go_wp2_with fail
        refine HCm.out.mono ?_
        rintro e w14 ⟨rfl, b14⟩
        generalize cmpN _ _ = cc
        have hb14 := H13.out.trans (b14.mono H13.out.size)
        have H14 := Lib.hid (back_of' HC.out.b hb14)
        have HLo := Lib.hid (HLo.out.below hb14 (Nat.le_refl _))
        have HH := Lib.hid (HH.out.below hb14 (Nat.le_refl _))
        clear b14 H13 HCm HC hb14
        go_wp2_with fail
        · refine (bit0_word w3.heap.size 0 low w14 HLo.out (by omega)).mono ?_
          rintro e w15 ⟨rfl, hw⟩
          obtain rfl := hw.symm
          rcases Nat.mod_two_eq_zero_or_one low with hb | hb
          · rw [hb]
            go_wp2_with fail
            refine (string_word w3.heap.size 0 low _ w14 HLo.out (by omega) rfl).mono ?_
            rintro e w15 ⟨rfl, b15⟩
            have H15 := Lib.hid (back_of' H14.out b15)
            clear b15 H14
            go_wp2_with fail
            go_ret2
            refine ⟨E, n, low, ⟨HE.out, ⟨n1, n17⟩, .inl (by rw [hK, ← HLW.out]), by rw [hK]; exact HITL.out, HM.out⟩, ?_, H15.out⟩
            exact congrArg (fun z => Ending.returned (Value.tuple #[Value.string ⟨(revDig low).reverse.toArray⟩, Value.int .i64 z])) (len_wrap (by omega) (by omega) (by omega) n17)
          · rw [hb]
            go_wp2_with fail
            refine (string_word w6.heap.size 0 (low + 1) _ w14 HH.out (by omega) rfl).mono ?_
            rintro e w15 ⟨rfl, b15⟩
            have H15 := Lib.hid (back_of' H14.out b15)
            clear b15 H14
            go_wp2_with fail
            go_ret2
            refine ⟨E, n, low + 1, ⟨HE.out, ⟨n1, n17⟩, .inr (by rw [hK, ← HLW.out]), by rw [hK]; exact HIT.out, HM.out⟩, ?_, H15.out⟩
            exact congrArg (fun z => Ending.returned (Value.tuple #[Value.string ⟨(revDig (low + 1)).reverse.toArray⟩, Value.int .i64 z])) (len_wrap (by omega) (by omega) (by omega) n17)
        · refine (string_word w6.heap.size 0 (low + 1) _ w14 HH.out (by omega) rfl).mono ?_
          rintro e w15 ⟨rfl, b15⟩
          have H15 := Lib.hid (back_of' H14.out b15)
          clear b15 H14
          go_wp2_with fail
          go_ret2
          refine ⟨E, n, low + 1, ⟨HE.out, ⟨n1, n17⟩, .inr (by rw [hK, ← HLW.out]), by rw [hK]; exact HIT.out, HM.out⟩, ?_, H15.out⟩
          exact congrArg (fun z => Ending.returned (Value.tuple #[Value.string ⟨(revDig (low + 1)).reverse.toArray⟩, Value.int .i64 z])) (len_wrap (by omega) (by omega) (by omega) n17)
        · refine (string_word w3.heap.size 0 low _ w14 HLo.out (by omega) rfl).mono ?_
          rintro e w15 ⟨rfl, b15⟩
          have H15 := Lib.hid (back_of' H14.out b15)
          clear b15 H14
          go_wp2_with fail
          go_ret2
          refine ⟨E, n, low, ⟨HE.out, ⟨n1, n17⟩, .inl (by rw [hK, ← HLW.out]), by rw [hK]; exact HITL.out, HM.out⟩, ?_, H15.out⟩
          exact congrArg (fun z => Ending.returned (Value.tuple #[Value.string ⟨(revDig low).reverse.toArray⟩, Value.int .i64 z])) (len_wrap (by omega) (by omega) (by omega) n17)
end Go.Proofs.YtgccfdfbnhldbaaGreatDoor.Nb

namespace Go.Proofs.YtgccfdfbnhldbaaGreatDoor.Nb

theorem low_next (p q : Nat) (K : Int) : lowK p q (K + 1) = lowK p q K / 10 := by
  unfold lowK
  rcases Int.lt_or_le K 0 with c | c
  · obtain ⟨j, hj⟩ : ∃ j : Nat, (-K).toNat = j + 1 := ⟨(-K).toNat - 1, by omega⟩
    rw [show (K + 1).toNat = 0 by omega, show (-(K + 1)).toNat = j by omega, show K.toNat = 0 by omega, hj, Nat.pow_succ, Nat.pow_zero, Nat.mul_one, ← Nat.mul_assoc, Nat.div_div_eq_div_mul]
    rw [Nat.mul_div_mul_right _ _ (by omega)]
  · rw [show (K + 1).toNat = K.toNat + 1 by omega, show (-(K + 1)).toNat = 0 by omega, show (-K).toNat = 0 by omega, Nat.pow_succ, Nat.div_div_eq_div_mul, Nat.mul_assoc]
theorem hits_next {d X : Nat} {K : Int} (h : Hits (10 * d) K X) : Hits d (K + 1) X := by
  unfold Hits at *
  refine rnd_move (Nat.pow_pos (by omega)) (Nat.pow_pos (by omega)) ?_ h
  rcases Int.lt_or_le K 0 with c | c
  · obtain ⟨j, hj⟩ : ∃ j : Nat, (-K).toNat = j + 1 := ⟨(-K).toNat - 1, by omega⟩
    rw [show (K + 1).toNat = 0 by omega, show (-(K + 1)).toNat = j by omega, show K.toNat = 0 by omega, hj, Nat.pow_succ]
    ac_rfl
  · rw [show (K + 1).toNat = K.toNat + 1 by omega, show (-(K + 1)).toNat = 0 by omega, show (-K).toNat = 0 by omega, Nat.pow_succ]
    ac_rfl
theorem few_last {p q X n d : Nat} {E : Int} (h : FewSays p q X E n d) (hn : 2 ≤ n) : d % 10 ≠ 0 := by
  intro hz
  obtain ⟨d', rfl⟩ : ∃ d', d = 10 * d' := ⟨d / 10, by omega⟩
  have h1 := hits_next h.hit
  have h2 := low_next p q (E - n + 1)
  have h3 := h.least (n - 1) (by omega) (by omega)
  unfold NoneAt at h3
  rw [show E - ((n - 1 : Nat) : Int) + 1 = E - n + 1 + 1 by omega] at h3
  rcases h.d0 with e | e
  · rw [show lowK p q (E - n + 1 + 1) = d' by omega] at h3
    exact h3.1 h1
  · rw [show lowK p q (E - n + 1 + 1) + 1 = d' by omega] at h3
    exact h3.2 h1
theorem few_len {p q X n d : Nat} {E : Int} (hq : 0 < q) (h : FewSays p q X E n d) (hn : 2 ≤ n) : 10 ^ (n - 1) ≤ d ∧ d < 10 ^ n := by
  have h1 := low_in (n := n) hq h.dec rfl h.n0.1
  have h2 := few_last h hn
  have h3 := h.d0
  refine ⟨by omega, ?_⟩
  rcases Nat.lt_or_ge d (10 ^ n) with t | t
  · exact t
  · exfalso
    have e : d = 10 ^ n := by omega
    obtain ⟨j, rfl⟩ : ∃ j, n = j + 1 := ⟨n - 1, by omega⟩
    rw [Nat.pow_succ] at e
    omega
end Go.Proofs.YtgccfdfbnhldbaaGreatDoor.Nb

namespace Go.Proofs.YtgccfdfbnhldbaaGreatDoor.Nb
open Go Go.RowKit

theorem two_ltL {n L : Nat} (h : n < L) : 2 ^ n < 18446744073709551616 ^ L := by
  have h1 : 2 ^ n ≤ 10 ^ n := Nat.pow_le_pow_left (by omega) n
  have h2 := ten_ltL h
  omega
/-- two to any power, in new memory -/
theorem two_any (E : Int) (r s L : Nat) (w : World) (hE : -1000000 ≤ E ∧ E ≤ 1000000) (hr : 2 ^ E.toNat = r) (hs : 2 ^ (-E).toNat = s) (hrl : r < 18446744073709551616 ^ L) (hsl : s < 18446744073709551616 ^ L) (hL : L ≤ 16777216) (hL1 : 1 ≤ L) :
    Calls Tryz.prog 97 #[.int .i64 E] w (NewRL w false r s L) := by
  by_cases h : 0 ≤ E
  · obtain ⟨k, rfl⟩ : ∃ k : Nat, E = (k : Int) := ⟨E.toNat, by omega⟩
    have e1 : (k : Int).toNat = k := by omega
    have e2 : (-(k : Int)).toNat = 0 := by omega
    rw [e1] at hr
    rw [e2, Nat.pow_zero] at hs
    subst hs
    exact two_posL k r L w (by omega) hr hrl hL hL1
  · obtain ⟨k, rfl⟩ : ∃ k : Nat, E = -(k : Int) := ⟨(-E).toNat, by omega⟩
    have e1 : (-(k : Int)).toNat = 0 := by omega
    have e2 : (- -(k : Int)).toNat = k := by omega
    rw [e1, Nat.pow_zero] at hr
    rw [e2] at hs
    subst hr
    exact two_negL k s L _ w (by omega) (by omega) rfl hs hsl hL hL1
set_option maxRecDepth 8000 in
set_option maxHeartbeats 1000000 in
theorem amount_any (g : Bool) (m : Nat) (X : Int) (r s L : Nat) (w : World) (hm : m < 18446744073709551616) (hX : -10000 ≤ X ∧ X ≤ 10000) (hr : 2 ^ X.toNat = r) (hsd : 2 ^ (-X).toNat = s) (hL : 10100 ≤ L) (hLm : L ≤ 16777216) :
    Calls Tryz.prog 38 #[.agg #[.bool g, .int .u64 (m : Int), .int .i64 X]] w fun e w' => ∃ z p q, e = .returned (.pointer (some ⟨z, 0, none⟩)) ∧ RatL w' z false p q L ∧ p * s = m * r * q ∧ Below w.heap.size w w' := by
  have hL1 : 1 ≤ L := by omega
  have hrl : r < 18446744073709551616 ^ L := by rw [← hr]; exact two_ltL (by omega)
  have hsl : s < 18446744073709551616 ^ L := by rw [← hsd]; exact two_ltL (by omega)
  have hs0 : 0 < s := by rw [← hsd]; exact Nat.pow_pos (by omega)
  obtain ⟨heq, hQ0, hPle, hQle⟩ := mul_law (n := m) (r := r) hs0
  have hnr : m * r < 18446744073709551616 ^ L := by
    obtain ⟨z, rfl⟩ : ∃ z, L = z + 1 := ⟨L - 1, by omega⟩
    have h1 : r < 18446744073709551616 ^ z := by rw [← hr]; exact two_ltL (by omega)
    rw [Nat.pow_succ, Nat.mul_comm (18446744073709551616 ^ z)]
    exact Nat.mul_lt_mul_of_lt_of_lt hm h1
  have hPl := Nat.lt_of_le_of_lt hPle hnr
  have hQl := Nat.lt_of_le_of_lt hQle hsl
  clear hnr hPle hQle hs0
  have hA1 := (Below.refl w.heap.size w).alloc (Nat.le_refl _) (.cells #[.bool g, .int .u64 (m : Int), .int .i64 X] 60)
  have hA2 := hA1.alloc hA1.size (.cells #[.bool false, .slice none 0 0, .bool false, .slice none 0 0] 136)
  have hA3 := hA2.alloc hA2.size (.cells #[.bool false, .slice none 0 0] 90)
  have h1 : RSlot ((((w.alloc (.cells #[.bool g, .int .u64 (m : Int), .int .i64 X] 60)).alloc (.cells #[.bool false, .slice none 0 0, .bool false, .slice none 0 0] 136)).alloc (.cells #[.bool false, .slice none 0 0] 90))) (w.heap.size + 1) := by
    have := (RSlot.new (w.alloc (.cells #[.bool g, .int .u64 (m : Int), .int .i64 X] 60)) 136).below ((Below.refl _ _).alloc (Nat.le_refl _) (.cells #[.bool false, .slice none 0 0] 90)) (Nat.le_refl _)
    simpa using this
  have h2 : ISlot ((((w.alloc (.cells #[.bool g, .int .u64 (m : Int), .int .i64 X] 60)).alloc (.cells #[.bool false, .slice none 0 0, .bool false, .slice none 0 0] 136)).alloc (.cells #[.bool false, .slice none 0 0] 90))) (w.heap.size + 2) 0 := by
    have := ISlot.new ((w.alloc (.cells #[.bool g, .int .u64 (m : Int), .int .i64 X] 60)).alloc (.cells #[.bool false, .slice none 0 0, .bool false, .slice none 0 0] 136)) 90
    simpa using this
  have h3 : ((((w.alloc (.cells #[.bool g, .int .u64 (m : Int), .int .i64 X] 60)).alloc (.cells #[.bool false, .slice none 0 0, .bool false, .slice none 0 0] 136)).alloc (.cells #[.bool false, .slice none 0 0] 90))).cell? ⟨w.heap.size, 2, none⟩ = some (.int .i64 X) := by simp [go_sem]
  have HU := Lib.hid (setUint_any (w.heap.size + 2) 0 m _ h2 (by omega))
  have HA := Lib.hid (And.intro hA3 (And.intro h1 h3))
  have HT := Lib.hid (fun W => two_any X r s L W (by omega) hr hsd hrl hsl (by omega) (by omega))
  have HLL := Lib.hid (And.intro hLm hL1)
  have HM := Lib.hid (And.intro hPl (And.intro hQl (And.intro hQ0 heq)))
  clear hA1 hA2 hA3 h1 h2 h3 hr hsd hrl hsl hLm hL1 hPl hQl hQ0 heq
  go_enter Tryz.func38, Tryz.ntmps38
  go_wp2_with fail
  refine HU.out.mono ?_
  rintro e w1 ⟨rfl, i1, s1, b1⟩
  have H1 := Lib.hid (And.intro i1 (And.intro (HA.out.1.trans (b1.mono (by omega))) (And.intro ((show RSlot w1 (w.heap.size + 1) from ⟨⟨Nat.lt_of_lt_of_le HA.out.2.1.1.1 b1.size, by
      obtain ⟨-, ⟨n, h2⟩, -, -, -⟩ := HA.out.2.1.1; exact ⟨n, (b1.cell (p := ⟨w.heap.size + 1, 0, none⟩) (by show w.heap.size + 1 < w.heap.size + 2; omega)).trans h2⟩, by
      obtain ⟨-, -, ⟨A, k, c, h3⟩, -, -⟩ := HA.out.2.1.1; exact ⟨A, k, c, (b1.cell (p := ⟨w.heap.size + 1, 0 + 1, none⟩) (by show w.heap.size + 1 < w.heap.size + 2; omega)).trans h3⟩, (b1.frozen (p := ⟨w.heap.size + 1, 0, none⟩) (by show w.heap.size + 1 < w.heap.size + 2; omega)).trans HA.out.2.1.1.2.2.2.1, (b1.frozen (p := ⟨w.heap.size + 1, 0 + 1, none⟩) (by show w.heap.size + 1 < w.heap.size + 2; omega)).trans HA.out.2.1.1.2.2.2.2⟩, ⟨Nat.lt_of_lt_of_le HA.out.2.1.1.1 b1.size, by
      obtain ⟨-, ⟨n, h2⟩, -, -, -⟩ := HA.out.2.1.2; exact ⟨n, (b1.cell (p := ⟨w.heap.size + 1, 2, none⟩) (by show w.heap.size + 1 < w.heap.size + 2; omega)).trans h2⟩, by
      obtain ⟨-, -, ⟨A, k, c, h3⟩, -, -⟩ := HA.out.2.1.2; exact ⟨A, k, c, (b1.cell (p := ⟨w.heap.size + 1, 2 + 1, none⟩) (by show w.heap.size + 1 < w.heap.size + 2; omega)).trans h3⟩, (b1.frozen (p := ⟨w.heap.size + 1, 2, none⟩) (by show w.heap.size + 1 < w.heap.size + 2; omega)).trans HA.out.2.1.2.2.2.2.1, (b1.frozen (p := ⟨w.heap.size + 1, 2 + 1, none⟩) (by show w.heap.size + 1 < w.heap.size + 2; omega)).trans HA.out.2.1.2.2.2.2.2⟩⟩)) ((b1.cell (p := ⟨w.heap.size, 2, none⟩) (by show w.heap.size < w.heap.size + 2; omega)).trans HA.out.2.2))))
  clear i1 s1 b1 HA HU
  go_wp2_with fail
  refine (setintL (w.heap.size + 1) (w.heap.size + 2) 0 m L w1 H1.out.2.2.1 (H1.out.1.any HLL.out.2) (by have := HLL.out.1; omega) HLL.out.2 (by omega)).mono ?_
  rintro e w2 ⟨rfl, r2, s2, b2⟩
  have c2 := (b2.cell (p := ⟨w.heap.size, 2, none⟩) (by show w.heap.size < w.heap.size + 1; omega)).trans H1.out.2.2.2
  have H2 := Lib.hid (And.intro r2 (And.intro s2 (H1.out.2.1.trans (b2.mono (by omega)))))
  clear r2 s2 b2 H1
  go_wp2_with fail
  refine (HT.out w2).mono ?_
  rintro e w3 ⟨b3, rfl, hb3, r3, s3, c3⟩
  have H3 := Lib.hid (And.intro (H2.out.1.below c3 (Nat.le_refl _)) (And.intro (H2.out.2.1.below c3 (Nat.le_refl _)) (And.intro (back_of' H2.out.2.2 c3) r3)))
  clear r3 s3 c3
  go_wp2_with fail
  refine (ratmulL (w.heap.size + 1) (w.heap.size + 1) b3 m 1 r s _ _ L L w3 H3.out.2.1 H3.out.1 H3.out.2.2.2 rfl rfl HM.out.1 HM.out.2.1 HM.out.2.2.1 HLL.out.1 HLL.out.2).mono ?_
  rintro e w4 ⟨rfl, r4, s4, b4⟩
  have HF := Lib.hid (And.intro r4 (And.intro s4 (H3.out.2.2.1.trans (b4.mono (by omega)))))
  clear r4 s4 b4
  go_wp2_with fail
  go_ret
  exact ⟨_, _, _, rfl, HF.out.1, HM.out.2.2.2, HF.out.2.2⟩
end Go.Proofs.YtgccfdfbnhldbaaGreatDoor.Nb

namespace Go.Proofs.YtgccfdfbnhldbaaGreatDoor.Nb
open Go Go.RowKit Nx

set_option maxRecDepth 8000 in
theorem under_nil (b : Nat) (w : World) (h : w.cell? ⟨b, 3, none⟩ = some (.slice none 0 0)) :
    Calls Tryz.prog 139 #[.pointer (some ⟨b, 0, none⟩)] w fun e w' => (∃ v, e = .returned v) ∧ Below w.heap.size w w' := by
  go_enter Tryz.func139, Tryz.ntmps139
  go_wp2_with fail
  go_ret
  exact ⟨⟨_, rfl⟩, (Below.refl _ _).alloc (Nat.le_refl _) _⟩
/-- a fraction that nobody has set -/
structure RatO (w : World) (b : Nat) : Prop where
  l : b < w.heap.size
  c0 : w.cell? ⟨b, 0, none⟩ = some (.bool false)
  c1 : w.cell? ⟨b, 1, none⟩ = some (.slice none 0 0)
  c3 : w.cell? ⟨b, 3, none⟩ = some (.slice none 0 0)
theorem RatO.below {w w' : World} {b : Nat} (h : RatO w b) (k : Below w.heap.size w w') : RatO w' b :=
  ⟨Nat.lt_of_lt_of_le h.l k.size, (k.cell (p := ⟨b, 0, none⟩) (by exact h.l)).trans h.c0, (k.cell (p := ⟨b, 1, none⟩) (by exact h.l)).trans h.c1, (k.cell (p := ⟨b, 3, none⟩) (by exact h.l)).trans h.c3⟩
theorem RatO.new (w : World) (t : TypeId) : RatO (w.alloc (.cells #[.bool false, .slice none 0 0, .bool false, .slice none 0 0] t)) w.heap.size :=
  ⟨by simp, by simp [go_sem], by simp [go_sem], by simp [go_sem]⟩
set_option maxRecDepth 8000 in
set_option maxHeartbeats 1000000 in
theorem nearest_nil (E : Int) (x : Nat) (w : World) (hx : RatO w x) :
    Calls Tryz.prog 84 #[.pointer (some ⟨x, 0, none⟩), .int .i64 53, .int .i64 E] w fun e w' => e = .returned (.tuple #[.int .u64 0, .int .i64 E, .bool true]) ∧ Below w.heap.size w w' := by
  have HS := Lib.hid (fun (W : World) (hW : Below w.heap.size w W) => hx.below hW)
  have hcur : Below w.heap.size w w.drew := (Below.refl _ _).drew
  clear hx
  go_enter Tryz.func84, Tryz.ntmps84
  go_wp2_with fail
  go_region_held3 (fun w' => w'.cell? ⟨x, 1, none⟩ = some (.slice none 0 0)) (first | exact (HS.out _ hcur3).c1 | exact (HS.out _ hcur).c1) ((go_at_call 139; refine (under_nil x _ (HS.out _ hcur).c3).mono ?_; rintro e w3 ⟨⟨v, rfl⟩, b3⟩; have hcur3 : Below w.heap.size w w3 := back_of' hcur b3))
  all_goals go_wp2_with fail
  all_goals go_ret3
  all_goals exact ⟨rfl, hcur3⟩
set_option maxRecDepth 8000 in
set_option maxHeartbeats 1000000 in
theorem float64_nil (x : Nat) (w : World) (hx : RatO w x) :
    Calls Tryz.prog 35 #[.pointer (some ⟨x, 0, none⟩)] w fun e w' => e = .returned (.tuple #[.float .f64 0, .bool true]) ∧ Below w.heap.size w w' := by
  have HN := Lib.hid (nearest_nil (-1074) x w hx)
  have HX := Lib.hid (fun (W : World) (hW : Below w.heap.size w W) => hx.below hW)
  have HLN := Lib.hid (fun W => len_bits 0 0 W (by omega) (by decide))
  have hfb := run_frombits 0
  clear hx
  go_enter Tryz.func35, Tryz.ntmps35
  go_wp2_with fail
  refine HN.out.mono ?_
  rintro e w1 ⟨rfl, hb1⟩
  have y0 := (HX.out _ hb1).c0
  have HB := Lib.hid hb1
  clear hb1 HX HN
  go_wp2_with fail
  refine (HLN.out _).mono ?_
  rintro e w2 ⟨rfl, hw⟩
  obtain rfl := hw.symm
  go_wp2_with fail
  go_ret2
  exact ⟨rfl, HB.out⟩
set_option maxRecDepth 8000 in
set_option maxHeartbeats 2000000 in
theorem value_none (neg : Bool) (Z : ByteArray) (E : Int) (w : World) (hs : Z.size ≤ 1000000) (hE : -1000000000 ≤ E ∧ E ≤ 1000000000) (ht : Z.size = 0 ∨ E + (Z.size : Int) - 1 < -400) :
    Calls Tryz.prog 34 #[.agg #[.bool neg, .string Z, .int .i64 E]] w fun e w' => ∃ z, e = .returned (.tuple #[.pointer (some ⟨z, 0, none⟩), .bool true]) ∧ RatO w' z ∧ Below w.heap.size w w' := by
  have hB := (Below.refl w.heap.size w).alloc (Nat.le_refl _) (.cells #[.bool neg, .string Z, .int .i64 E] 73)
  have HB := Lib.hid (hB.alloc hB.size (.cells #[.bool false, .slice none 0 0, .bool false, .slice none 0 0] 136))
  have HR : Hid (RatO _ (w.heap.size + 1)) := Lib.hid (by have := RatO.new (w.alloc (.cells #[.bool neg, .string Z, .int .i64 E] 73)) 136; rwa [show (w.alloc (.cells #[.bool neg, .string Z, .int .i64 E] 73)).heap.size = w.heap.size + 1 by simp] at this)
  clear hB
  rcases Nat.eq_zero_or_pos Z.size with h0 | h0
  · have hz : Z = ⟨#[]⟩ := by
      have h1 := size_list Z
      have h2 : Z.data.toList = [] := List.length_eq_zero_iff.1 (by omega)
      cases Z with
      | mk d => cases d with
        | mk l => simp at h2; subst h2; rfl
    subst hz
    clear ht hs h0
    obtain ⟨h1, h2⟩ := hE
    go_enter Tryz.func34, Tryz.ntmps34
    go_wp2_with fail
    go_ret2
    exact ⟨_, rfl, HR.out, HB.out⟩
  · have he0 := not_empty_size h0
    have ht1 : E + (Z.size : Int) - 1 < -400 := by omega
    obtain ⟨h1, h2⟩ := hE
    clear ht
    go_enter Tryz.func34, Tryz.ntmps34
    go_wp2_with fail
    go_ret2
    exact ⟨_, rfl, HR.out, HB.out⟩
set_option maxRecDepth 8000 in
theorem inf_any (f : Nat) (w : World) (hf : f ≤ 9218868437227405312) : Calls Tryz.prog 36 #[.float .f64 f, .int .i64 0] w fun e w' => e = .returned (.bool (decide (f = 9218868437227405312))) ∧ w' = w := by
  have hg := gt_max f (by omega)
  generalize decide (f = 9218868437227405312) = q at hg
  have HA := Lib.hid (abs_pos f w (by
    have h := andnot_top (f := f) (by omega)
    rwa [Nat.mod_eq_of_lt (by omega)] at h))
  go_enter Tryz.func36, Tryz.ntmps36
  go_wp2_with fail
  refine HA.out.mono ?_
  rintro e w1 ⟨rfl, hw⟩
  obtain rfl := hw.symm
  go_wp2_with fail
  go_ret
  exact ⟨rfl, rfl⟩
set_option maxRecDepth 8000 in
theorem unspecial_no (s : ByteArray) (w : World) (u1 : (s.toList == [110, 97, 110]) = false) (u2 : (s.toList == [43, 105, 110, 102]) = false) (u3 : (s.toList == [45, 105, 110, 102]) = false) : Calls Tryz.prog 23 #[.string s] w fun e w' => e = .returned (.tuple #[.float .f64 0, .bool false]) ∧ w' = w := by
  go_enter Tryz.func23, Tryz.ntmps23
  go_wp2_with fail
  go_ret2
  exact ⟨rfl, rfl⟩
end Go.Proofs.YtgccfdfbnhldbaaGreatDoor.Nb
