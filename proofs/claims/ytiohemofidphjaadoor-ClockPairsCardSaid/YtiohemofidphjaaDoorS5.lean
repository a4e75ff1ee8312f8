/- Contracts of the reference's fractions: SetFrac, NewRat, Num, Denom, bottom. Conditions: the divisor is above 0, of at most two words. -/
import Derived.Test.YtiohemofidphjaaDoorS4
import Derived.Test.YtiohemofidphjaaDoorQ11
import Derived.Test.YtiohemofidphjaaDoorQ19
namespace Go.Proofs.YtiohemofidphjaaDoor.Bg
open Go Go.RowKit

/-- lowest terms of x / n -/
def redX (x : Int) (n : Nat) : Int := x / (Nat.gcd x.natAbs n : Nat)
def redY (x : Int) (n : Nat) : Nat := n / Nat.gcd x.natAbs n
theorem redX_sgn (neg : Bool) (m n : Nat) : sgn neg (m / Nat.gcd m n) = redX (sgn neg m) n ∧ n / Nat.gcd m n = redY (sgn neg m) n := by
  have e : (sgn neg m).natAbs = m := by cases neg <;> simp [sgn]
  unfold redX redY
  rw [e]
  refine ⟨?_, rfl⟩
  obtain ⟨k, hk⟩ := Nat.gcd_dvd_left m n
  cases neg
  · simp [sgn]
  · simp only [sgn, if_true]
    rcases Nat.eq_zero_or_pos (Nat.gcd m n) with h0 | h0
    · rw [h0]; simp
    · generalize Nat.gcd m n = g at *
      subst hk
      rw [Nat.mul_div_cancel_left _ h0, Int.natCast_mul, ← Int.mul_neg, Int.mul_ediv_cancel_left _ (by omega)]

theorem made_any (b off : Nat) (neg : Bool) (u v : Value) (m n L : Nat) (w : World) (sa : Slot w ⟨b, off, none⟩) (sb : Slot w ⟨b, off + 2, none⟩) (hu : MagN w u m L) (hv : MagN w v n 2)
    (hn : 0 < n) (hL : L ≤ 67108864) (hL2 : 2 ≤ L) (hT : Tab w) :
    Calls Tryd.prog 53 #[.pointer (some ⟨b, off, none⟩), .bool neg, u, v] w (Made w b off (redX (sgn neg m) n) (redY (sgn neg m) n) L) := by
  obtain ⟨A, k, c, rfl, k0, k1⟩ := hu.slice
  rw [← (redX_sgn neg m n).1, ← (redX_sgn neg m n).2]
  rcases Nat.eq_zero_or_pos m with h0 | h0
  · subst h0
    have hk : k = 0 := by
      rcases Nat.eq_zero_or_pos k with h | h
      · exact h
      · exact absurd rfl (k1 (by omega))
    subst hk
    obtain ⟨A2, k2, c2, rfl, -, -⟩ := hv.slice
    refine (made_zero b off neg A A2 c k2 c2 w sa sb).mono fun e w' ⟨h1, h2, h3⟩ => ⟨h1, ?_, h3⟩
    rw [Nat.zero_div, Nat.gcd_zero_left, Nat.div_self hn]
    have : sgn neg 0 = 0 := by cases neg <;> rfl
    rw [this]
    exact ⟨h2.num.more hL2, h2.den, h2.sa, h2.sb⟩
  · exact made_pos b off neg A k c v m n L w sa sb hu hv h0 hn hL hL2 hT

theorem keepR_four {w w' : World} {g : Nat} {a b c d : Addr} {va vb vc vd : Value} (hb : KeepR w w' g) (h : w.cell? a = some va ∧ w.cell? b = some vb ∧ w.cell? c = some vc ∧ w.cell? d = some vd)
    (ha : a.block < w.heap.size) (hb' : b.block < w.heap.size) (hc : c.block < w.heap.size) (hd : d.block < w.heap.size) (na : a.block ≠ g) (nb : b.block ≠ g) (nc : c.block ≠ g) (nd : d.block ≠ g) : w'.cell? a = some va ∧ w'.cell? b = some vb ∧ w'.cell? c = some vc ∧ w'.cell? d = some vd :=
  ⟨(hb.cell _ ha na).trans h.1, (hb.cell _ hb' nb).trans h.2.1, (hb.cell _ hc nc).trans h.2.2.1, (hb.cell _ hd nd).trans h.2.2.2⟩

set_option maxHeartbeats 4000000 in
theorem setFrac_any (b off : Nat) (p q : Addr) (x : Int) (n L : Nat) (w : World) (sa : Slot w ⟨b, off, none⟩) (sb : Slot w ⟨b, off + 2, none⟩) (hp : IntAt w p x L) (hq : IntAt w q (n : Int) 2) (np : p.block ≠ b) (nq : q.block ≠ b)
    (hn : 0 < n) (hL : L ≤ 67108864) (hL2 : 2 ≤ L) (hT : Tab w) :
    Calls Tryd.prog 44 #[.pointer (some ⟨b, off, none⟩), .pointer (some p), .pointer (some q)] w (Made w b off (redX x n) (redY x n) L) := by
  obtain ⟨b1, o1, s1, A1, k1, c1, m, rfl, hb1, h3, h4, h5, h6, h7⟩ := hp.open
  obtain ⟨b2, o2, s2, A2, k2, c2, n', rfl, hb2, g3, g4, g5, g6, g7⟩ := hq.open
  have hs2 : s2 = false := by
    cases s2 with
    | false => rfl
    | true => exfalso; have := g7 rfl; simp at g6; omega
  subst hs2
  have hnn : n' = n := by simp at g6; omega
  subst hnn
  have hx : x = sgn s1 m := h6
  rw [hx]
  have HM := Lib.hid (fun (W : World) (hb : Below w.heap.size w W) => made_any b off s1 (.slice A1 k1 c1) (.slice A2 k2 c2) m n' L W (sa.below hb) (sb.below hb) (h5.below hb) (g5.below hb) hn hL hL2 (hT.below hb))
  have HC := Lib.hid (show w.drew.cell? ⟨b1, o1, none⟩ = some (.bool s1) ∧ w.drew.cell? ⟨b2, o2, none⟩ = some (.bool false) ∧ w.drew.cell? ⟨b1, o1 + 1, none⟩ = some (.slice A1 k1 c1) ∧ w.drew.cell? ⟨b2, o2 + 1, none⟩ = some (.slice A2 k2 c2) from ⟨h3, g3, h4, g4⟩)
  clear h5 g5 hp hq h6 h7 g6 g7 hx sa sb hT
  go_enter Tryd.func44, Tryd.ntmps44
  go_wp2_with fail
  go_region_held3 (fun w' => w'.cell? ⟨b1, o1, none⟩ = some (.bool s1) ∧ w'.cell? ⟨b2, o2, none⟩ = some (.bool false) ∧ w'.cell? ⟨b1, o1 + 1, none⟩ = some (.slice A1 k1 c1) ∧ w'.cell? ⟨b2, o2 + 1, none⟩ = some (.slice A2 k2 c2))
    (first | exact keepR_four hg.2.2 HC.out hb1 hb2 hb1 hb2 np nq np nq | exact HC.out)
    ((go_at_call 53; refine (HM.out _ (Below.refl _ _).drew).mono ?_; rintro e w2 hg; have HG := Lib.hid hg; obtain ⟨rfl, -⟩ := id hg))
  go_wp2_with fail
  go_ret
  exact ⟨rfl, HG.out.2.1, (KeepR.of_below (Below.refl _ _).drew).trans HG.out.2.2⟩

/-- a new fraction -/
def FreshR (w : World) (x : Int) (y L : Nat) (e : Ending) (w' : World) : Prop :=
  ∃ b : Nat, e = .returned (.pointer (some ⟨b, 0, none⟩)) ∧ w.heap.size ≤ b ∧ b < w'.heap.size ∧ RatAt w' b 0 x y L ∧ Below w.heap.size w w'
theorem Slot.rat (w : World) (t : TypeId) : Slot (w.alloc (.cells #[.bool false, .slice none 0 0, .bool false, .slice none 0 0] t)) ⟨w.heap.size, 0, none⟩ ∧ Slot (w.alloc (.cells #[.bool false, .slice none 0 0, .bool false, .slice none 0 0] t)) ⟨w.heap.size, 0 + 2, none⟩ :=
  ⟨⟨w.heap.size, 0, false, none, 0, 0, rfl, by simp, by simp [go_sem], by simp [go_sem], by simp [go_sem], by simp [go_sem]⟩, ⟨w.heap.size, 2, false, none, 0, 0, rfl, by simp, by simp [go_sem], by simp [go_sem], by simp [go_sem], by simp [go_sem]⟩⟩

set_option maxHeartbeats 2000000 in
theorem newRat_any (x : Int) (n : Nat) (w : World) (x0 : -9223372036854775808 ≤ x) (x1 : x ≤ 9223372036854775807) (hn : 0 < n) (hn1 : n ≤ 9223372036854775807) (hT : Tab w) :
    Calls Tryd.prog 20 #[.int .i64 x, .int .i64 (n : Int)] w (FreshR w (redX x n) (redY x n) 2) := by
  have HS := Lib.hid (Slot.rat w 76)
  have HB := Lib.hid (show Below w.heap.size w (w.alloc (.cells #[.bool false, .slice none 0 0, .bool false, .slice none 0 0] 76)) from (Below.refl _ _).alloc (Nat.le_refl _) _)
  have hl : w.heap.size < (w.alloc (.cells #[.bool false, .slice none 0 0, .bool false, .slice none 0 0] 76)).heap.size := by simp
  have HT := Lib.hid hT
  clear hT
  go_enter Tryd.func20, Tryd.ntmps20
  go_wp2_with fail
  generalize w.alloc (.cells #[.bool false, .slice none 0 0, .bool false, .slice none 0 0] 76) = W1 at *
  refine (newInt_any x W1 x0 x1).mono ?_
  rintro e W2 ⟨z2, rfl, hz2, hs2, hi2, hb2⟩
  have HI2 := Lib.hid hi2
  have HB2 := Lib.hid hb2
  clear hs2 hi2 hb2
  go_wp2_with fail
  refine (newInt_any (n : Int) W2 (by omega) (by omega)).mono ?_
  rintro e W3 ⟨z3, rfl, hz3, hs3, hi3, hb3⟩
  have HI3 := Lib.hid hi3
  have HB3 := Lib.hid hb3
  clear hs3 hi3 hb3
  go_wp2_with fail
  have hb13 : Below W1.heap.size W1 W3 := HB2.out.trans (HB3.out.mono HB2.out.size)
  have hs12 := HB2.out.size
  refine (setFrac_any w.heap.size 0 z2 z3 x n 2 W3 (HS.out.1.below hb13) (HS.out.2.below hb13) (HI2.out.below HB3.out) HI3.out (by omega) (by omega) hn (by omega) (by omega) (HT.out.below (HB.out.trans (hb13.mono HB.out.size)))).mono ?_
  rintro e W4 hg
  have HG := Lib.hid hg
  obtain ⟨rfl, -⟩ := id hg
  have HB13 := Lib.hid hb13
  clear hg hb13
  go_wp2_with fail
  go_ret
  have hw3 := HB13.out.size
  exact ⟨w.heap.size, rfl, Nat.le_refl _, by have := HG.out.2.2.size; omega, HG.out.2.1, (HB.out.trans (HB13.out.mono HB.out.size)).trans (HG.out.2.2.below _ (Nat.le_refl _) (by have := HB.out.size; omega))⟩

theorem num_any (b off : Nat) (w : World) : Calls Tryd.prog 22 #[.pointer (some ⟨b, off, none⟩)] w fun e w' => e = .returned (.pointer (some ⟨b, off, none⟩)) ∧ w = w' := by
  go_enter Tryd.func22, Tryd.ntmps22
  go_wp2_with fail
  go_ret
  exact ⟨rfl, rfl⟩

/-- bottom: the denominator's words -/
theorem bottom_any (b off : Nat) (x : Int) (y L : Nat) (w : World) (h : RatAt w b off x y L) (hy : 0 < y) :
    Calls Tryd.prog 48 #[.pointer (some ⟨b, off, none⟩)] w fun e w' => ∃ A k c, e = .returned (.slice A k c) ∧ MagN w (.slice A k c) y 2 ∧ w = w' := by
  obtain ⟨b2, o2, s2, A2, k2, c2, n', e2, hb2, g3, g4, g5, g6, g7⟩ := h.den.open
  injection e2 with a1 a2
  subst a1 a2
  have hnn : n' = y := by
    cases s2 with
    | false => simp at g6; omega
    | true => exfalso; have := g7 rfl; simp at g6; omega
  subst hnn
  have hk : ¬ k2 = 0 := fun h => by have := g5.len.1 h; omega
  have hki : ¬ (k2 : Int) = 0 := by omega
  have g4' : w.cell? ⟨b, off + 3, none⟩ = some (.slice A2 k2 c2) := g4
  have G5 := Lib.hid g5
  clear h g5 g6 g7 g3
  go_enter Tryd.func48, Tryd.ntmps48
  go_wp2_with fail
  go_ret
  exact ⟨_, _, _, rfl, G5.out, rfl⟩

/-- Denom: the denominator, in new memory -/
theorem denom_any (b off : Nat) (x : Int) (y L : Nat) (w : World) (h : RatAt w b off x y L) (hy : 0 < y) : Calls Tryd.prog 24 #[.pointer (some ⟨b, off, none⟩)] w (Fresh w (y : Int) 2) := by
  have HS := Lib.hid (Slot.new w false none 0 0 68)
  have HB := Lib.hid (show Below w.heap.size w (w.alloc (.cells #[.bool false, .slice none 0 0] 68)) from (Below.refl _ _).alloc (Nat.le_refl _) _)
  have HR := Lib.hid (show RatAt (w.alloc (.cells #[.bool false, .slice none 0 0] 68)) b off x y L from ⟨h.num.below HB.out, h.den.below HB.out, h.sa.below HB.out, h.sb.below HB.out⟩)
  clear h
  go_enter Tryd.func24, Tryd.ntmps24
  go_wp2_with fail
  refine (bottom_any b off x y L _ HR.out hy).mono ?_
  rintro e W ⟨A, k, c, rfl, hm, rfl⟩
  have HM := Lib.hid hm
  clear hm
  go_wp2_with fail
  refine (put_pos _ (.slice A k c) y 2 (y : Int) _ HS.out HM.out rfl).mono ?_
  rintro e w1 hg
  have HG := Lib.hid hg
  obtain ⟨rfl, -, -⟩ := hg
  go_wp2_with fail
  go_ret
  have hg := HG.out
  exact ⟨_, rfl, Nat.le_refl _, hg.2.1.slot HS.out HS.out, hg.2.2, HB.out.trans (hg.2.1.below (by exact Nat.le_refl _) HB.out.size)⟩
end Go.Proofs.YtiohemofidphjaaDoor.Bg
