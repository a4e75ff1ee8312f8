/- The reference's fractions in lowest terms: quotient, product, difference. Conditions: numerators and denominators of few words. -/
import Derived.Test.YtiohemofidphjaaDoorS5
import Derived.Test.YtiohemofidphjaaDoorB1
import Derived.Test.YtiohemofidphjaaDoorPA
import Derived.Test.YtiohemofidphjaaDoorS6
import Derived.Test.YtiohemofidphjaaDoorQ10

namespace Go.Proofs.YtiohemofidphjaaDoor.Bg
open Go Go.RowKit

theorem red_ex (x : Int) (n : Nat) (hn : 0 < n) : ∃ g : Nat, 0 < g ∧ x = redX x n * (g : Int) ∧ n = redY x n * g ∧ 0 < redY x n := by
  have hg : 0 < Nat.gcd x.natAbs n := Nat.gcd_pos_of_pos_right _ hn
  have h1 : ((Nat.gcd x.natAbs n : Nat) : Int) ∣ x := Int.ofNat_dvd_left.2 (Nat.gcd_dvd_left _ _)
  have h2 : Nat.gcd x.natAbs n ∣ n := Nat.gcd_dvd_right _ _
  refine ⟨Nat.gcd x.natAbs n, hg, ?_, ?_, ?_⟩
  · unfold redX; exact (Int.ediv_mul_cancel h1).symm
  · unfold redY; exact (Nat.div_mul_cancel h2).symm
  · unfold redY; exact Nat.div_pos (Nat.le_of_dvd hn h2) hg

theorem drift_k {N1 D1 N2 D2 x1 y1 x2 y2 g1 g2 g3 g4 g5 a b e f G H : Int} (h1 : N1 = x1 * g1) (h2 : D1 = y1 * g1) (h3 : N2 = x2 * g2) (h4 : D2 = y2 * g2)
    (h5 : x1 * y2 = a * g3) (h6 : y1 * x2 = b * g3) (h7 : a - b = e * g4) (h8 : b = f * g4) (h9 : e * 1000000000 = G * g5) (h10 : f = H * g5) :
    1000000000 * (N1 * D2 - D1 * N2) = G * (g1 * g2 * g3 * g4 * g5) ∧ D1 * N2 = H * (g1 * g2 * g3 * g4 * g5) := by
  constructor
  · grind
  · grind

/-- the reference's steps: the floor is the same -/
theorem dri_steps {n d m k : Nat} (d0 : 0 < d) (m0 : 0 < m) (k0 : 0 < k) {x1 y1 x2 y2 : Nat} {a e G : Int} {b f H : Nat}
    (h1 : redX (n : Int) d = (x1 : Int)) (h2 : redY (n : Int) d = y1) (h3 : redX (m : Int) k = (x2 : Int)) (h4 : redY (m : Int) k = y2)
    (h5 : redX ((x1 : Int) * (y2 : Int)) (y1 * x2) = a) (h6 : redY ((x1 : Int) * (y2 : Int)) (y1 * x2) = b)
    (h7 : redX (a * ((1 : Nat) : Int) - 1 * (b : Int)) (b * 1) = e) (h8 : redY (a * ((1 : Nat) : Int) - 1 * (b : Int)) (b * 1) = f)
    (h9 : redX (e * ((1000000000 : Nat) : Int)) (f * 1) = G) (h10 : redY (e * ((1000000000 : Nat) : Int)) (f * 1) = H) :
    0 < y1 ∧ 0 < x2 ∧ 0 < y2 ∧ 0 < b ∧ 0 < f ∧ 0 < H ∧ G / (H : Int) = driP n d m k / driQ d m := by
  obtain ⟨g1, p1, q1, r1, s1⟩ := red_ex (n : Int) d d0
  rw [h1] at q1
  rw [h2] at r1 s1
  obtain ⟨g2, p2, q2, r2, s2⟩ := red_ex (m : Int) k k0
  rw [h3] at q2
  rw [h4] at r2 s2
  have x20 : 0 < x2 := by
    refine Nat.pos_of_ne_zero fun h => ?_
    subst h
    simp at q2
    omega
  obtain ⟨g3, p3, q3, r3, s3⟩ := red_ex ((x1 : Int) * (y2 : Int)) (y1 * x2) (Nat.mul_pos s1 x20)
  rw [h5] at q3
  rw [h6] at r3 s3
  obtain ⟨g4, p4, q4, r4, s4⟩ := red_ex (a * ((1 : Nat) : Int) - 1 * (b : Int)) (b * 1) (by omega)
  rw [h7] at q4
  rw [h8] at r4 s4
  obtain ⟨g5, p5, q5, r5, s5⟩ := red_ex (e * ((1000000000 : Nat) : Int)) (f * 1) (by omega)
  rw [h9] at q5
  rw [h10] at r5 s5
  refine ⟨s1, x20, s2, s3, s4, s5, ?_⟩
  have c2 : (d : Int) = (y1 : Int) * (g1 : Int) := by exact_mod_cast r1
  have c4 : (k : Int) = (y2 : Int) * (g2 : Int) := by exact_mod_cast r2
  have c6 : (y1 : Int) * (x2 : Int) = (b : Int) * (g3 : Int) := by exact_mod_cast r3
  have c7 : a - (b : Int) = e * (g4 : Int) := by rw [← q4]; simp
  have c8 : (b : Int) = (f : Int) * (g4 : Int) := by rw [Nat.mul_one] at r4; exact_mod_cast r4
  have c9 : e * 1000000000 = G * (g5 : Int) := q5
  have c10 : (f : Int) = (H : Int) * (g5 : Int) := by rw [Nat.mul_one] at r5; exact_mod_cast r5
  obtain ⟨z1, z2⟩ := drift_k q1 c2 q2 c4 q3 c6 c7 c8 c9 c10
  unfold driP driQ
  rw [z1, z2, Int.mul_ediv_mul_of_pos_left]
  have hh : 0 < g1 * g2 * g3 * g4 * g5 := Nat.mul_pos (Nat.mul_pos (Nat.mul_pos (Nat.mul_pos p1 p2) p3) p4) p5
  exact_mod_cast hh

theorem red_le (x : Int) (n : Nat) (hn : 0 < n) : (redX x n).natAbs ≤ x.natAbs ∧ redY x n ≤ n := by
  obtain ⟨g, p, q, r, s⟩ := red_ex x n hn
  generalize redX x n = X at *
  generalize redY x n = Y at *
  subst q r
  refine ⟨?_, Nat.le_mul_of_pos_right _ p⟩
  rw [Int.natAbs_mul]
  exact Nat.le_mul_of_pos_right _ (by omega)

/-- lowest terms of a product of lowest terms -/
theorem red_prod {n d m k : Nat} (d0 : 0 < d) (k0 : 0 < k) {x1 y1 x2 y2 : Nat} (h1 : redX (n : Int) d = (x1 : Int)) (h2 : redY (n : Int) d = y1) (h3 : redX (m : Int) k = (x2 : Int)) (h4 : redY (m : Int) k = y2) :
    redX ((x1 : Int) * (x2 : Int)) (y1 * y2) = rateN (n * m) (d * k) ∧ ((redY ((x1 : Int) * (x2 : Int)) (y1 * y2) : Nat) : Int) = rateD (n * m) (d * k) := by
  obtain ⟨g1, p1, q1, r1, s1⟩ := red_ex (n : Int) d d0
  rw [h1] at q1
  rw [h2] at r1 s1
  obtain ⟨g2, p2, q2, r2, s2⟩ := red_ex (m : Int) k k0
  rw [h3] at q2
  rw [h4] at r2 s2
  have q1' : n = x1 * g1 := by exact_mod_cast q1
  have q2' : m = x2 * g2 := by exact_mod_cast q2
  have hgg : 0 < g1 * g2 := Nat.mul_pos p1 p2
  have e1 : n * m = (x1 * x2) * (g1 * g2) := by rw [q1', q2']; grind
  have e2 : d * k = (y1 * y2) * (g1 * g2) := by rw [r1, r2]; grind
  unfold redX redY rateN rateD
  rw [e1, e2, Nat.gcd_mul_right, Nat.mul_div_mul_right _ _ hgg, Nat.mul_div_mul_right _ _ hgg]
  have e3 : ((x1 : Int) * (x2 : Int)).natAbs = x1 * x2 := by rw [← Int.natCast_mul]; rfl
  rw [e3, ← Int.natCast_mul]
  exact ⟨rfl, rfl⟩

/-- fewer words, for a number that has no more -/
theorem IntAt.less {w : World} {p : Addr} {x : Int} {L L' : Nat} (h : IntAt w p x L) (hx : x.natAbs < 4294967296 ^ L') : IntAt w p x L' := by
  obtain ⟨b, off, neg, v, n, h1, h2, h3, h4, h5, h6, h7⟩ := h
  refine ⟨b, off, neg, v, n, h1, h2, h3, h4, h5.less ?_, h6, h7⟩
  have : n = x.natAbs := by cases neg <;> simp at h6 h7 <;> omega
  omega
theorem RatAt.less {w : World} {b off : Nat} {x : Int} {y L L' : Nat} (h : RatAt w b off x y L) (hx : x.natAbs < 4294967296 ^ L') : RatAt w b off x y L' := ⟨h.num.less hx, h.den, h.sa, h.sb⟩
end Go.Proofs.YtiohemofidphjaaDoor.Bg

namespace Go.Proofs.YtiohemofidphjaaDoor.Bg
open Go Go.RowKit

theorem sgn_mul {x : Int} {m : Nat} {s : Bool} (h : x = if s = true then -(m : Int) else (m : Int)) (k : Nat) : sgn s (m * k) = x * (k : Int) := by
  subst h
  cases s <;> simp [sgn, Int.neg_mul]
/-- a fraction's words and signs, opened -/
theorem RatAt.open {w : World} {b off : Nat} {x : Int} {y L : Nat} (h : RatAt w b off x y L) : ∃ (s : Bool) (A : Option Addr) (k c n : Nat), b < w.heap.size ∧ w.cell? ⟨b, off, none⟩ = some (.bool s) ∧
    w.cell? ⟨b, off + 1, none⟩ = some (.slice A k c) ∧ MagN w (.slice A k c) n L ∧ (x = if s = true then -(n : Int) else (n : Int)) ∧ (s = true → n ≠ 0) := by
  obtain ⟨b1, o1, s1, A1, k1, c1, m, e, hb1, h3, h4, h5, h6, h7⟩ := h.num.open
  injection e with e1 e2
  subst e1 e2
  exact ⟨s1, A1, k1, c1, m, hb1, h3, h4, h5, h6, h7⟩
theorem RatAt.below {w w' : World} {b off : Nat} {x : Int} {y L : Nat} (h : RatAt w b off x y L) (hb : Below w.heap.size w w') : RatAt w' b off x y L := ⟨h.num.below hb, h.den.below hb, h.sa.below hb, h.sb.below hb⟩

/-- behind made into the fraction itself, times a number above 0: the sign is as it was -/
theorem self_kept {w w4 : World} {b b2 : Nat} {x1 : Int} {m n d L : Nat} {s1 : Bool} {e : Ending} {u2 v2 : Value} (hg : Made w b 0 (redX (sgn s1 (m * n)) d) (redY (sgn s1 (m * n)) d) L e w4) (_hs : (x1 = if s1 = true then -(m : Int) else (m : Int)) ∧ (s1 = true → m ≠ 0))
    (hn : 0 < n ∧ 0 < d) (n2 : b2 ≠ b) (hb2 : b2 < w.heap.size) (h : w.cell? ⟨b, 0, none⟩ = some (.bool s1) ∧ w.cell? ⟨b2, 0, none⟩ = some u2 ∧ w.cell? ⟨b2, 0, none⟩ = some u2 ∧ w.cell? ⟨b2, 0 + 1, none⟩ = some v2) :
    w4.cell? ⟨b, 0, none⟩ = some (.bool s1) ∧ w4.cell? ⟨b2, 0, none⟩ = some u2 ∧ w4.cell? ⟨b2, 0 + 1, none⟩ = some v2 := by
  refine ⟨?_, (hg.2.2.cell _ hb2 n2).trans h.2.1, (hg.2.2.cell _ hb2 n2).trans h.2.2.2⟩
  obtain ⟨s, A, k, c, q, -, h3, -, -, h6, h7⟩ := hg.2.1.open
  rw [h3]
  have hg0 : 0 < Nat.gcd (m * n) d := Nat.gcd_pos_of_pos_right _ hn.2
  rw [← (redX_sgn _ (m * n) d).1] at h6
  obtain ⟨t, ht⟩ := Nat.gcd_dvd_left (m * n) d
  have hdiv : m * n / Nat.gcd (m * n) d = t := by
    generalize Nat.gcd (m * n) d = g at *
    rw [ht, Nat.mul_div_cancel_left _ hg0]
  rw [hdiv] at h6
  have ht0 : s1 = true → 0 < t := fun hs => Nat.pos_of_ne_zero fun h0 => by
    rw [h0, Nat.mul_zero] at ht
    rcases Nat.mul_eq_zero.1 ht with h | h
    · exact _hs.2 hs h
    · omega
  congr 2
  cases s1 <;> cases s <;> simp [sgn] at h6 h7 ht0 ⊢ <;> omega

set_option maxRecDepth 8000 in
set_option maxHeartbeats 4000000 in
/-- x / y -/
theorem quoR_any (b b1 b2 : Nat) (x1 : Int) (x2 y1 y2 : Nat) (w : World) (sa : Slot w ⟨b, 0, none⟩) (sb : Slot w ⟨b, 0 + 2, none⟩) (hx : RatAt w b1 0 x1 y1 2) (hy : RatAt w b2 0 (x2 : Int) y2 2) (n1 : b1 ≠ b) (n2 : b2 ≠ b)
    (hy1 : 0 < y1) (hy2 : 0 < y2) (hx2 : 0 < x2) (hl : y1 * x2 < 18446744073709551616) (hT : Tab w) : 
    Calls Tryd.prog 35 #[.pointer (some ⟨b, 0, none⟩), .pointer (some ⟨b1, 0, none⟩), .pointer (some ⟨b2, 0, none⟩)] w (Made w b 0 (redX (x1 * (y2 : Int)) (y1 * x2)) (redY (x1 * (y2 : Int)) (y1 * x2)) 4) := by
  obtain ⟨s1, A1, k1, c1, m, hb1, h3, h4, h5, h6, h7⟩ := hx.open
  obtain ⟨s2, A2, k2, c2, n, hb2, g3, g4, g5, g6, g7⟩ := hy.open
  have hs2 : s2 = false := by
    cases s2 with
    | false => rfl
    | true => exfalso; have := g7 rfl; simp at g6; omega
  subst hs2
  have hnn : n = x2 := by simp at g6; omega
  subst hnn
  have HX := Lib.hid hx
  have HY := Lib.hid hy
  have HS := Lib.hid (And.intro sa sb)
  have HT := Lib.hid hT
  have H5 := Lib.hid h5
  have G5 := Lib.hid g5
  have HSG := Lib.hid (And.intro h6 h7)
  have HC := Lib.hid (show w.drew.cell? ⟨b1, 0, none⟩ = some (.bool s1) ∧ w.drew.cell? ⟨b2, 0, none⟩ = some (.bool false) ∧ w.drew.cell? ⟨b1, 0 + 1, none⟩ = some (.slice A1 k1 c1) ∧ w.drew.cell? ⟨b2, 0 + 1, none⟩ = some (.slice A2 k2 c2) from ⟨h3, g3, h4, g4⟩)
  clear hx hy sa sb hT h5 g5 h6 h7 g6 g7
  go_enter Tryd.func35, Tryd.ntmps35
  go_wp2_with fail
  have hq : n * y1 = y1 * n := Nat.mul_comm _ _
  go_region_held3 (fun w' => w'.cell? ⟨b1, 0, none⟩ = some (.bool s1) ∧ w'.cell? ⟨b2, 0, none⟩ = some (.bool false) ∧ w'.cell? ⟨b1, 0 + 1, none⟩ = some (.slice A1 k1 c1) ∧ w'.cell? ⟨b2, 0 + 1, none⟩ = some (.slice A2 k2 c2))
    (first | exact keepR_four (KeepR.trans (KeepR.of_below HB2.out) hg.2.2) HC.out hb1 hb2 hb1 hb2 n1 n2 n1 n2 | exact keep_four HB2.out HC.out hb1 hb2 hb1 hb2 | exact keep_four HB1.out HC.out hb1 hb2 hb1 hb2 | exact HC.out)
    (first | (go_at_call_of 48 (Value.pointer (some (⟨b2, 0, none⟩ : Addr))); refine (bottom_any b2 0 (n : Int) y2 2 _ (HY.out.below (Below.refl _ _).drew) hy2).mono ?_; rintro e w1 ⟨Ab, kb, cb, rfl, hmb, rfl⟩; have HMB := Lib.hid hmb; clear hmb) | (go_at_call_of 48 (Value.pointer (some (⟨b1, 0, none⟩ : Addr))); refine (bottom_any b1 0 x1 y1 2 _ (HX.out.below HB1.out) hy1).mono ?_; rintro e w1 ⟨Ab, kb, cb, rfl, hmb, rfl⟩; have HMC := Lib.hid hmb; clear hmb) | (go_at_call_of 54 (Value.slice A1 k1 c1); refine (times_mag _ _ m y2 2 2 _ (H5.out.below (Below.refl _ _).drew) HMB.out (by omega) (by omega)).mono ?_; rintro e w2 ⟨v1, rfl, hm1, hb⟩; have HM1 := Lib.hid hm1; have HB1 : Hid (Below w.heap.size w w2) := Lib.hid ((Below.refl _ _).drew.trans hb); clear hm1 hb) | (go_at_call_of 54 (Value.slice A2 k2 c2); refine (times_mag _ _ y1 n 2 2 _ HMC.out (G5.out.below HB1.out) (by omega) (by omega)).mono ?_; rintro e w3 ⟨v2, rfl, hm2, hb⟩; have HM2 := Lib.hid hm2; have HM1' := Lib.hid (HM1.out.below hb); have HB2 : Hid (Below w.heap.size w w3) := Lib.hid (HB1.out.trans (hb.mono HB1.out.size)); clear hm2 hb) | (go_at_call 53; refine (made_any b 0 _ v1 v2 (m * y2) (y1 * n) 4 _ (HS.out.1.below HB2.out) (HS.out.2.below HB2.out) HM1'.out (HM2.out.less (by rw [show (4294967296 : Nat) ^ 2 = 18446744073709551616 from rfl]; exact hl)) (Nat.mul_pos hy1 hx2) (by omega) (by omega) (HT.out.below HB2.out)).mono ?_; rintro e w4 hg; have HG := Lib.hid hg; obtain ⟨rfl, -⟩ := id hg))
  clear hg
  go_wp2_with fail
  go_ret
  have h9 := HG.out
  rw [sgn_mul HSG.out.1] at h9
  exact ⟨rfl, h9.2.1, (KeepR.of_below HB2.out).trans h9.2.2⟩

set_option maxRecDepth 8000 in
set_option maxHeartbeats 4000000 in
/-- r = r k -/
theorem mulR_self (b b2 : Nat) (x1 : Int) (x2 y1 y2 : Nat) (w : World) (hx : RatAt w b 0 x1 y1 4) (hy : RatAt w b2 0 (x2 : Int) y2 2) (n2 : b2 ≠ b)
    (hy1 : 0 < y1) (hy2 : 0 < y2) (hx2 : 0 < x2) (hl : y1 * y2 < 18446744073709551616) (hT : Tab w) : 
    Calls Tryd.prog 37 #[.pointer (some ⟨b, 0, none⟩), .pointer (some ⟨b, 0, none⟩), .pointer (some ⟨b2, 0, none⟩)] w (Made w b 0 (redX (x1 * (x2 : Int)) (y1 * y2)) (redY (x1 * (x2 : Int)) (y1 * y2)) 6) := by
  obtain ⟨s1, A1, k1, c1, m, hb1, h3, h4, h5, h6, h7⟩ := hx.open
  obtain ⟨s2, A2, k2, c2, n, hb2, g3, g4, g5, g6, g7⟩ := hy.open
  have hs2 : s2 = false := by
    cases s2 with
    | false => rfl
    | true => exfalso; have := g7 rfl; simp at g6; omega
  subst hs2
  have hnn : n = x2 := by simp at g6; omega
  subst hnn
  have HX := Lib.hid hx
  have HY := Lib.hid hy
  have HT := Lib.hid hT
  have H5 := Lib.hid h5
  have G5 := Lib.hid g5
  have HSG := Lib.hid (And.intro h6 h7)
  have HC := Lib.hid (show w.drew.cell? ⟨b, 0, none⟩ = some (.bool s1) ∧ w.drew.cell? ⟨b2, 0, none⟩ = some (.bool false) ∧ w.drew.cell? ⟨b2, 0, none⟩ = some (.bool false) ∧ w.drew.cell? ⟨b2, 0 + 1, none⟩ = some (.slice A2 k2 c2) from ⟨h3, g3, g3, g4⟩)
  clear hx hy hT h5 g5 h6 h7 g6 g7
  go_enter Tryd.func37, Tryd.ntmps37
  go_wp2_with fail
  refine wp_region_noPanic ?_
  refine wp_region_held_drew (S := (fun w' => w'.cell? ⟨b, 0, none⟩ = some (.bool s1) ∧ w'.cell? ⟨b2, 0, none⟩ = some (.bool false) ∧ w'.cell? ⟨b2, 0 + 1, none⟩ = some (.slice A2 k2 c2))) (by kernel_rfl) ⟨HC.out.1, HC.out.2.1, HC.out.2.2.2⟩ (fun hHeld => ?_)
  show wpAnyH _ _ _ _ _ (29 + 1) _ _ _
  refine wpAnyH_take (i := 0) (oi := _) (v := ?v0) rfl (by kernel_rfl) (by kernel_rfl) (by kernel_rfl) (fun _ _ _ h => h) (Or.inl ⟨by rfl, ?hy0⟩) (by assumption) ?rest0
  case hy0 => (intro w hSw; (try dsimp only at hSw); go_simp; try with_reducible rfl)
  try simp only [Act.put, List.setIfInBounds_toArray]
  show wpAnyH _ _ _ _ _ (28 + 1) _ _ _
  refine wpAnyH_take (i := 1) (oi := _) (v := ?v1) rfl (by kernel_rfl) (by kernel_rfl) (by kernel_rfl) (fun _ _ _ h => h) (Or.inl ⟨by rfl, ?hy1⟩) (by assumption) ?rest1
  case hy1 => (intro w hSw; (try dsimp only at hSw); go_simp; try with_reducible rfl)
  try simp only [Act.put]
  show wpAnyH _ _ _ _ _ (27 + 1) _ _ _
  refine wpAnyH_take (i := 2) (oi := _) (v := ?v2) rfl (by kernel_rfl) (by kernel_rfl) (by kernel_rfl) (fun _ _ _ h => h) (Or.inl ⟨by rfl, ?hy2⟩) (by assumption) ?rest2
  case hy2 => (intro w hSw; (try dsimp only at hSw); go_simp; try with_reducible rfl)
  try simp only [Act.put]
  show wpAnyH _ _ _ _ _ (26 + 1) _ _ _
  refine wpAnyH_take (i := 3) (oi := _) (v := ?v3) rfl (by kernel_rfl) (by kernel_rfl) (by kernel_rfl) (fun _ _ _ h => h) (Or.inl ⟨by rfl, ?hy3⟩) (by assumption) ?rest3
  case hy3 => (intro w hSw; (try dsimp only at hSw); go_simp; try with_reducible rfl)
  try simp only [Act.put]
  show wpAnyH _ _ _ _ _ (25 + 1) _ _ _
  refine wpAnyH_take (i := 4) (oi := _) (v := ?v4) rfl (by kernel_rfl) (by kernel_rfl) (by kernel_rfl) (fun _ _ _ h => h) (Or.inl ⟨by rfl, ?hy4⟩) (by assumption) ?rest4
  case hy4 => (intro w hSw; (try dsimp only at hSw); go_simp; try with_reducible rfl)
  try simp only [Act.put]
  show wpAnyH _ _ _ _ _ (24 + 1) _ _ _
  refine wpAnyH_take (i := 5) (oi := _) (v := ?v5) rfl (by kernel_rfl) (by kernel_rfl) (by kernel_rfl) (fun _ _ _ h => h) (Or.inl ⟨by rfl, ?hy5⟩) (by assumption) ?rest5
  case hy5 => (intro w hSw; (try dsimp only at hSw); go_simp; try with_reducible rfl)
  try simp only [Act.put]
  show wpAnyH _ _ _ _ _ (23 + 1) _ _ _
  refine wpAnyH_take (i := 6) (oi := _) (v := ?v6) rfl (by kernel_rfl) (by kernel_rfl) (by kernel_rfl) (fun _ _ _ h => h) (Or.inl ⟨by rfl, ?hy6⟩) (by assumption) ?rest6
  case hy6 => (intro w hSw; (try dsimp only at hSw); go_simp; try with_reducible rfl)
  try simp only [Act.put]
  show wpAnyH _ _ _ _ _ (22 + 1) _ _ _
  refine wpAnyH_take (i := 7) (oi := _) (v := ?v7) rfl (by kernel_rfl) (by kernel_rfl) (by kernel_rfl) (fun _ _ _ h => h) (Or.inl ⟨by rfl, ?hy7⟩) (by assumption) ?rest7
  case hy7 => (intro w hSw; (try dsimp only at hSw); go_simp; try with_reducible rfl)
  try simp only [Act.put]
  show wpAnyH _ _ _ _ _ (21 + 1) _ _ _
  refine wpAnyH_take (i := 8) (oi := _) (v := ?v8) rfl (by kernel_rfl) (by kernel_rfl) (by kernel_rfl) (fun _ _ _ h => h) (Or.inl ⟨by rfl, ?hy8⟩) (by assumption) ?rest8
  case hy8 => (intro w hSw; (try dsimp only at hSw); go_simp; try with_reducible rfl)
  try simp only [Act.put]
  show wpAnyH _ _ _ _ _ (20 + 1) _ _ _
  refine wpAnyH_take (i := 9) (oi := _) (v := ?v9) rfl (by kernel_rfl) (by kernel_rfl) (by kernel_rfl) (fun _ _ _ h => h) (Or.inl ⟨by rfl, ?hy9⟩) (by assumption) ?rest9
  case hy9 => (intro w hSw; (try dsimp only at hSw); go_simp; try with_reducible rfl)
  try simp only [Act.put]
  show wpAnyH _ _ _ _ _ (19 + 1) _ _ _
  refine wpAnyH_take (i := 10) (oi := _) (v := ?v10) rfl (by kernel_rfl) (by kernel_rfl) (by kernel_rfl) (fun _ _ _ h => h) (Or.inl ⟨by rfl, ?hy10⟩) (by assumption) ?rest10
  case hy10 => (intro w hSw; (try dsimp only at hSw); go_simp; try with_reducible rfl)
  try simp only [Act.put]
  show wpAnyH _ _ _ _ _ (18 + 1) _ _ _
  refine wpAnyH_take (i := 11) (oi := _) (v := ?v11) rfl (by kernel_rfl) (by kernel_rfl) (by kernel_rfl) (fun _ _ _ h => h) (Or.inl ⟨by rfl, ?hy11⟩) (by assumption) ?rest11
  case hy11 => (intro w hSw; (try dsimp only at hSw); go_simp; try with_reducible rfl)
  try simp only [Act.put]
  show wpAnyH _ _ _ _ _ (17 + 1) _ _ _
  refine wpAnyH_take (i := 12) (oi := _) (v := ?v12) rfl (by kernel_rfl) (by kernel_rfl) (by kernel_rfl) (fun _ _ _ h => h) (Or.inl ⟨by rfl, ?hy12⟩) (by assumption) ?rest12
  case hy12 => (intro w hSw; (try dsimp only at hSw); go_simp; try with_reducible rfl)
  try simp only [Act.put]
  show wpAnyH _ _ _ _ _ (16 + 1) _ _ _
  refine wpAnyH_take (i := 13) (oi := _) (v := ?v13) rfl (by kernel_rfl) (by kernel_rfl) (by kernel_rfl) (fun _ _ _ h => h) (Or.inl ⟨by rfl, ?hy13⟩) (by assumption) ?rest13
  case hy13 => (intro w hSw; (try dsimp only at hSw); go_simp; try with_reducible rfl)
  try simp only [Act.put]
  show wpAnyH _ _ _ _ _ (15 + 1) _ _ _
  refine wpAnyH_take (i := 14) (oi := _) (v := ?v14) rfl (by kernel_rfl) (by kernel_rfl) (by kernel_rfl) (fun _ _ _ h => h) (Or.inl ⟨by rfl, ?hy14⟩) (by assumption) ?rest14
  case hy14 => (intro w hSw; (try dsimp only at hSw); go_simp; try with_reducible rfl)
  try simp only [Act.put]
  show wpAnyH _ _ _ _ _ (14 + 1) _ _ _
  refine wpAnyH_take (i := 15) (oi := _) (v := ?v15) rfl (by kernel_rfl) (by kernel_rfl) (by kernel_rfl) (fun _ _ _ h => h) (Or.inl ⟨by rfl, ?hy15⟩) (by assumption) ?rest15
  case hy15 => (intro w hSw; (try dsimp only at hSw); go_simp; try with_reducible rfl)
  try simp only [Act.put]
  show wpAnyH _ _ _ _ _ (13 + 1) _ _ _
  refine wpAnyH_take (i := 17) (oi := _) (v := ?v17) rfl (by kernel_rfl) (by kernel_rfl) (by kernel_rfl) (fun _ _ _ h => h) (Or.inl ⟨by rfl, ?hy17⟩) (by assumption) ?rest17
  case hy17 => (intro w hSw; (try dsimp only at hSw); go_simp; try with_reducible rfl)
  try simp only [Act.put]
  show wpAnyH _ _ _ _ _ (12 + 1) _ _ _
  refine wpAnyH_take (i := 18) (oi := _) (v := ?v18) rfl (by kernel_rfl) (by kernel_rfl) (by kernel_rfl) (fun _ _ _ h => h) (Or.inl ⟨by rfl, ?hy18⟩) (by assumption) ?rest18
  case hy18 => (intro w hSw; (try dsimp only at hSw); go_simp; try with_reducible rfl)
  try simp only [Act.put]
  show wpAnyH _ _ _ _ _ (11 + 1) _ _ _
  refine wpAnyH_take (i := 19) (oi := _) (v := ?v19) rfl (by kernel_rfl) (by kernel_rfl) (by kernel_rfl) (fun _ _ _ h => h) (Or.inl ⟨by rfl, ?hy19⟩) (by assumption) ?rest19
  case hy19 => (intro w hSw; (try dsimp only at hSw); go_simp; try with_reducible rfl)
  try simp only [Act.put]
  show wpAnyH _ _ _ _ _ (10 + 1) _ _ _
  refine wpAnyH_take (i := 20) (oi := _) (v := ?v20) rfl (by kernel_rfl) (by kernel_rfl) (by kernel_rfl) (fun _ _ _ h => h) (Or.inl ⟨by rfl, ?hy20⟩) (by assumption) ?rest20
  case hy20 => (intro w hSw; (try dsimp only at hSw); go_simp; try with_reducible rfl)
  try simp only [Act.put]
  show wpAnyH _ _ _ _ _ (9 + 1) _ _ _
  refine wpAnyH_take (i := 21) (oi := _) (v := ?v21) rfl (by kernel_rfl) (by kernel_rfl) (by kernel_rfl) (fun _ _ _ h => h) (Or.inl ⟨by rfl, ?hy21⟩) (by assumption) ?rest21
  case hy21 => (intro w hSw; (try dsimp only at hSw); go_simp; try with_reducible rfl)
  try simp only [Act.put]
  show wpAnyH _ _ _ _ _ (8 + 1) _ _ _
  refine wpAnyH_take (i := 23) (oi := _) (v := ?v23) rfl (by kernel_rfl) (by kernel_rfl) (by kernel_rfl) (fun _ _ _ h => h) (Or.inl ⟨by rfl, ?hy23⟩) (by assumption) ?rest23
  case hy23 => (intro w hSw; (try dsimp only at hSw); go_simp; try with_reducible rfl)
  try simp only [Act.put]
  show wpAnyH _ _ _ _ _ (7 + 1) _ _ _
  refine wpAnyH_take (i := 25) (oi := _) (v := ?v25) rfl (by kernel_rfl) (by kernel_rfl) (by kernel_rfl) (fun _ _ _ h => h) (Or.inl ⟨by rfl, ?hy25⟩) (by assumption) ?rest25
  case hy25 => (intro w hSw; (try dsimp only at hSw); go_simp; try with_reducible rfl)
  try simp only [Act.put]
  have hm16 : w.drew.cell? ⟨b, 0 + 1, none⟩ = some (.slice A1 k1 c1) := h4
  show wpAnyH _ _ _ _ _ (6 + 1) _ _ _
  refine wpAnyH_ready (rs := [16]) (by kernel_rfl) (by simp) ?_
  refine AllReadyH.cons (o := _) rfl (fun K hK => ?_) AllReadyH.nil
  go_simp
  refine hK.out _ _ ⟨HC.out.1, HC.out.2.1, HC.out.2.2.2⟩ (fun hHeld => ?_)
  clear hK K
  try simp only [Act.put, List.setIfInBounds_toArray, List.set_cons_zero, List.set_cons_succ]
  show wpAnyH _ _ _ _ _ (5 + 1) _ _ _
  refine wpAnyH_ready (rs := [22]) (by kernel_rfl) (by simp) ?_
  refine AllReadyH.cons (o := _) rfl (fun K hK => ?_) AllReadyH.nil
  go_simp
  go_at_call_of 54 (Value.slice A1 k1 c1); refine (times_mag _ _ m n 4 2 _ (H5.out.below (Below.refl _ _).drew) (G5.out.below (Below.refl _ _).drew) (by omega) (by omega)).mono ?_; rintro e w2 ⟨v1, rfl, hm1, hb⟩; have HM1 := Lib.hid hm1; have HB1 : Hid (Below w.heap.size w w2) := Lib.hid ((Below.refl _ _).drew.trans hb); clear hm1 hb
  go_wp2_with fail
  refine hK.out _ _ (have h := keep_four HB1.out HC.out hb1 hb2 hb2 hb2; ⟨h.1, h.2.1, h.2.2.2⟩) (fun hHeld => ?_)
  clear hK K
  try simp only [Act.put, List.setIfInBounds_toArray, List.set_cons_zero, List.set_cons_succ]
  show wpAnyH _ _ _ _ _ (4 + 1) _ _ _
  refine wpAnyH_ready (rs := [24]) (by kernel_rfl) (by simp) ?_
  refine AllReadyH.cons (o := _) rfl (fun K hK => ?_) AllReadyH.nil
  go_simp
  go_at_call_of 48 (Value.pointer (some (⟨b, 0, none⟩ : Addr))); refine (bottom_any b 0 x1 y1 4 _ (HX.out.below HB1.out) hy1).mono ?_; rintro e w1 ⟨Ab, kb, cb, rfl, hmb, rfl⟩; have HMC := Lib.hid hmb; clear hmb
  go_wp2_with fail
  refine hK.out _ _ (have h := keep_four HB1.out HC.out hb1 hb2 hb2 hb2; ⟨h.1, h.2.1, h.2.2.2⟩) (fun hHeld => ?_)
  clear hK K
  try simp only [Act.put, List.setIfInBounds_toArray, List.set_cons_zero, List.set_cons_succ]
  show wpAnyH _ _ _ _ _ (3 + 1) _ _ _
  refine wpAnyH_ready (rs := [26]) (by kernel_rfl) (by simp) ?_
  refine AllReadyH.cons (o := _) rfl (fun K hK => ?_) AllReadyH.nil
  go_simp
  go_at_call_of 48 (Value.pointer (some (⟨b2, 0, none⟩ : Addr))); refine (bottom_any b2 0 (n : Int) y2 2 _ (HY.out.below HB1.out) hy2).mono ?_; rintro e w1 ⟨Ab, kb, cb, rfl, hmb, rfl⟩; have HMB := Lib.hid hmb; clear hmb
  go_wp2_with fail
  refine hK.out _ _ (have h := keep_four HB1.out HC.out hb1 hb2 hb2 hb2; ⟨h.1, h.2.1, h.2.2.2⟩) (fun hHeld => ?_)
  clear hK K
  try simp only [Act.put, List.setIfInBounds_toArray, List.set_cons_zero, List.set_cons_succ]
  show wpAnyH _ _ _ _ _ (2 + 1) _ _ _
  refine wpAnyH_ready (rs := [27]) (by kernel_rfl) (by simp) ?_
  refine AllReadyH.cons (o := _) rfl (fun K hK => ?_) AllReadyH.nil
  go_simp
  go_at_call 54; refine (times_mag _ _ y1 y2 2 2 _ HMC.out HMB.out (by omega) (by omega)).mono ?_; rintro e w3 ⟨v2, rfl, hm2, hb⟩; have HM2 := Lib.hid hm2; have HM1' := Lib.hid (HM1.out.below hb); have HB2 : Hid (Below w.heap.size w w3) := Lib.hid (HB1.out.trans (hb.mono HB1.out.size)); clear hm2 hb
  go_wp2_with fail
  refine hK.out _ _ (have h := keep_four HB2.out HC.out hb1 hb2 hb2 hb2; ⟨h.1, h.2.1, h.2.2.2⟩) (fun hHeld => ?_)
  clear hK K
  try simp only [Act.put, List.setIfInBounds_toArray, List.set_cons_zero, List.set_cons_succ]
  show wpAnyH _ _ _ _ _ (1 + 1) _ _ _
  refine wpAnyH_ready (rs := [28]) (by kernel_rfl) (by simp) ?_
  refine AllReadyH.cons (o := _) rfl (fun K hK => ?_) AllReadyH.nil
  go_simp
  go_at_call 53; refine (made_any b 0 _ v1 v2 (m * n) (y1 * y2) 6 _ (HX.out.sa.below HB2.out) (HX.out.sb.below HB2.out) HM1'.out (HM2.out.less (by rw [show (4294967296 : Nat) ^ 2 = 18446744073709551616 from rfl]; exact hl)) (Nat.mul_pos hy1 hy2) (by omega) (by omega) (HT.out.below HB2.out)).mono ?_; rintro e w4 hg; have HG := Lib.hid hg; obtain ⟨rfl, -⟩ := id hg
  go_wp2_with fail
  refine hK.out _ _ (self_kept HG.out HSG.out ⟨hx2, Nat.mul_pos hy1 hy2⟩ n2 (Nat.lt_of_lt_of_le hb2 HB2.out.size) (keep_four HB2.out HC.out hb1 hb2 hb2 hb2)) (fun hHeld => ?_)
  clear hK K
  try simp only [Act.put, List.setIfInBounds_toArray, List.set_cons_zero, List.set_cons_succ]
  show wpAnyH _ _ _ _ _ (0 + 1) _ _ _
  refine wpAnyH_take (i := 29) (oi := _) (v := ?v29) rfl (by kernel_rfl) (by kernel_rfl) (by kernel_rfl) (fun _ _ _ h => h) (Or.inl ⟨by rfl, ?hy29⟩) (by assumption) ?rest29
  case hy29 => (intro w hSw; (try dsimp only at hSw); go_simp; try with_reducible rfl)
  try simp only [Act.put, List.setIfInBounds_toArray]
  refine wpAnyH_done (by kernel_rfl) ?_ _
  simp only [List.getElem_toArray, List.getElem_cons_succ, List.getElem_cons_zero, List.set_cons_zero, List.set_cons_succ]
  refine NoPanic.normal ?_
  clear hg
  go_wp2_with fail
  go_ret
  have h9 := HG.out
  rw [sgn_mul HSG.out.1] at h9
  exact ⟨(by first | rfl | simp [go_sem]), h9.2.1, (KeepR.of_below HB2.out).trans h9.2.2⟩
end Go.Proofs.YtiohemofidphjaaDoor.Bg

namespace Go.Proofs.YtiohemofidphjaaDoor.Bg
open Go Go.RowKit

theorem IntAt.new {w2 : World} {s : Bool} {A : Option Addr} {k c n y L : Nat} {x : Int} (T : TypeId) (hm : MagN w2 (.slice A k c) (n * y) L) (hx : (x = if s = true then -(n : Int) else (n : Int)) ∧ (s = true → n ≠ 0)) (hy : 0 < y) :
    IntAt (w2.alloc (.cells #[.bool s, .slice A k c] T)) ⟨w2.heap.size, 0, none⟩ (x * (y : Int)) L :=
  ⟨w2.heap.size, 0, s, .slice A k c, n * y, rfl, by simp, by simp [go_sem], by simp [go_sem], hm.below ((Below.refl _ _).alloc (Nat.le_refl _) _), (sgn_mul hx.1 y).symm, fun h => Nat.ne_of_gt (Nat.mul_pos (Nat.pos_of_ne_zero (hx.2 h)) hy)⟩

set_option maxRecDepth 8000 in
set_option maxHeartbeats 4000000 in
theorem cross_any (b1 b2 : Nat) (x1 x2 : Int) (y1 y2 : Nat) (w : World) (hx : RatAt w b1 0 x1 y1 2) (hy : RatAt w b2 0 x2 y2 2) (hy1 : 0 < y1) (hy2 : 0 < y2) :
    Calls Tryd.prog 55 #[.pointer (some ⟨b1, 0, none⟩), .pointer (some ⟨b2, 0, none⟩)] w fun e w' =>
      ∃ p q : Nat, e = .returned (.tuple #[.pointer (some ⟨p, 0, none⟩), .pointer (some ⟨q, 0, none⟩)]) ∧ IntAt w' ⟨p, 0, none⟩ (x1 * (y2 : Int)) 4 ∧ IntAt w' ⟨q, 0, none⟩ (x2 * (y1 : Int)) 4 ∧ w.heap.size ≤ p ∧ w.heap.size ≤ q ∧ Below w.heap.size w w' := by
  obtain ⟨s1, A1, k1, c1, m, hb1, h3, h4, h5, h6, h7⟩ := hx.open
  obtain ⟨s2, A2, k2, c2, n, hb2, g3, g4, g5, g6, g7⟩ := hy.open
  have HX := Lib.hid hx
  have HX2 := Lib.hid hx
  have HY := Lib.hid hy
  have H5 := Lib.hid h5
  have G5 := Lib.hid g5
  have HSG := Lib.hid (And.intro h6 h7)
  have GSG := Lib.hid (And.intro g6 g7)
  clear hx hy h5 g5 h6 h7 g6 g7
  go_enter Tryd.func55, Tryd.ntmps55
  go_wp2_with fail
  have HC := Lib.hid (show w.drew.cell? ⟨b1, 0, none⟩ = some (.bool s1) ∧ w.drew.cell? ⟨b1, 0 + 1, none⟩ = some (.slice A1 k1 c1) ∧ w.drew.cell? ⟨b1, 0, none⟩ = some (.bool s1) ∧ w.drew.cell? ⟨b1, 0 + 1, none⟩ = some (.slice A1 k1 c1) from ⟨h3, h4, h3, h4⟩)
  go_region_held3 (fun w' => w'.cell? ⟨b1, 0, none⟩ = some (.bool s1) ∧ w'.cell? ⟨b1, 0 + 1, none⟩ = some (.slice A1 k1 c1) ∧ w'.cell? ⟨b1, 0, none⟩ = some (.bool s1) ∧ w'.cell? ⟨b1, 0 + 1, none⟩ = some (.slice A1 k1 c1))
    (first | exact keep_four (HB1.out.alloc HB1.out.size _) HC.out hb1 hb1 hb1 hb1 | exact keep_four HB1.out HC.out hb1 hb1 hb1 hb1 | exact HC.out)
    (first | (go_at_call 48; refine (bottom_any b2 0 x2 y2 2 _ (HY.out.below (Below.refl _ _).drew) hy2).mono ?_; rintro e w1 ⟨Ab, kb, cb, rfl, hmb, rfl⟩; have HMB := Lib.hid hmb; clear hmb) | (go_at_call 54; refine (times_mag _ _ m y2 2 2 _ (H5.out.below (Below.refl _ _).drew) HMB.out (by omega) (by omega)).mono ?_; rintro e w2 ⟨v1, rfl, hm1, hb⟩; obtain ⟨Av, kv, cv, rfl, -, -⟩ := id hm1.slice; have HM1 := Lib.hid hm1; have HB1 : Hid (Below w.heap.size w w2) := Lib.hid ((Below.refl _ _).drew.trans hb); clear hm1 hb))
  have hp1 := IntAt.new 68 HM1.out HSG.out hy2
  have HB3 := Lib.hid (show Below w.heap.size w (w2.alloc (.cells #[.bool s1, .slice Av kv cv] 68)) from HB1.out.alloc HB1.out.size _)
  have HP1 := Lib.hid hp1
  have hps := HB1.out.size
  clear hp1 h3 h4 HC HX HMB
  generalize w2.alloc (.cells #[.bool s1, .slice Av kv cv] 68) = W3 at *
  generalize w2.heap.size = p at *
  clear HM1 HB1 H5
  have HC := Lib.hid (show W3.drew.cell? ⟨b2, 0, none⟩ = some (.bool s2) ∧ W3.drew.cell? ⟨b2, 0 + 1, none⟩ = some (.slice A2 k2 c2) ∧ W3.drew.cell? ⟨b2, 0, none⟩ = some (.bool s2) ∧ W3.drew.cell? ⟨b2, 0 + 1, none⟩ = some (.slice A2 k2 c2) from
    ⟨(HB3.out.cell (by exact hb2)).trans g3, (HB3.out.cell (by exact hb2)).trans g4, (HB3.out.cell (by exact hb2)).trans g3, (HB3.out.cell (by exact hb2)).trans g4⟩)
  have hb2' := Nat.lt_of_lt_of_le hb2 HB3.out.size
  clear g3 g4
  go_wp2_with fail
  go_region_held3 (fun w' => w'.cell? ⟨b2, 0, none⟩ = some (.bool s2) ∧ w'.cell? ⟨b2, 0 + 1, none⟩ = some (.slice A2 k2 c2) ∧ w'.cell? ⟨b2, 0, none⟩ = some (.bool s2) ∧ w'.cell? ⟨b2, 0 + 1, none⟩ = some (.slice A2 k2 c2))
    (first | exact keep_four (HB4.out.alloc HB4.out.size _) HC.out hb2' hb2' hb2' hb2' | exact keep_four HB4.out HC.out hb2' hb2' hb2' hb2' | exact HC.out)
    (first | (go_at_call 48; refine (bottom_any b1 0 x1 y1 2 _ (HX2.out.below (HB3.out.trans (Below.refl _ _).drew)) hy1).mono ?_; rintro e w1 ⟨Ab, kb, cb, rfl, hmb, rfl⟩; have HMC := Lib.hid hmb; clear hmb) | (go_at_call 54; refine (times_mag _ _ n y1 2 2 _ (G5.out.below (HB3.out.trans (Below.refl _ _).drew)) HMC.out (by omega) (by omega)).mono ?_; rintro e w4 ⟨v1, rfl, hm1, hb⟩; obtain ⟨Av', kv', cv', rfl, -, -⟩ := id hm1.slice; have HM4 := Lib.hid hm1; have HB4 : Hid (Below W3.heap.size W3 w4) := Lib.hid ((Below.refl _ _).drew.trans hb); clear hm1 hb))
  have hp4 := IntAt.new 68 HM4.out GSG.out hy1
  have HB5 := Lib.hid (show Below W3.heap.size W3 (w4.alloc (.cells #[.bool s2, .slice Av' kv' cv'] 68)) from HB4.out.alloc HB4.out.size _)
  have HP4 := Lib.hid hp4
  have hqs := HB4.out.size
  have hw3 := HB3.out.size
  clear hp4 HC HX2
  generalize w4.alloc (.cells #[.bool s2, .slice Av' kv' cv'] 68) = W5 at *
  generalize w4.heap.size = q at *
  clear HM4 HB4 G5
  go_wp2_with fail
  go_ret2
  exact ⟨p, q, rfl, HP1.out.below HB5.out, HP4.out, hps, by omega, HB3.out.trans (HB5.out.mono HB3.out.size)⟩

set_option maxRecDepth 8000 in
set_option maxHeartbeats 4000000 in
/-- x - y, written into a fraction, which may be one of them -/
theorem subR_any (b b1 b2 : Nat) (x1 x2 : Int) (y1 y2 : Nat) (w : World) (sa : Slot w ⟨b, 0, none⟩) (sb : Slot w ⟨b, 0 + 2, none⟩) (hb : b < w.heap.size) (hx : RatAt w b1 0 x1 y1 2) (hy : RatAt w b2 0 x2 y2 2)
    (hy1 : 0 < y1) (hy2 : 0 < y2) (hl : y1 * y2 < 18446744073709551616) (hT : Tab w) :
    Calls Tryd.prog 36 #[.pointer (some ⟨b, 0, none⟩), .pointer (some ⟨b1, 0, none⟩), .pointer (some ⟨b2, 0, none⟩)] w (Made w b 0 (redX (x1 * (y2 : Int) - x2 * (y1 : Int)) (y1 * y2)) (redY (x1 * (y2 : Int) - x2 * (y1 : Int)) (y1 * y2)) 5) := by
  have HX := Lib.hid hx
  have HY := Lib.hid hy
  have HS := Lib.hid (And.intro sa sb)
  have HT := Lib.hid hT
  clear hx hy sa sb hT
  go_enter Tryd.func36, Tryd.ntmps36
  go_wp2_with fail
  refine (cross_any b1 b2 x1 x2 y1 y2 w HX.out HY.out hy1 hy2).mono ?_
  rintro e w1 ⟨p, q, rfl, hp, hq, hp0, hq0, hb1⟩
  have HP := Lib.hid hp
  have HQ := Lib.hid hq
  have HB1 := Lib.hid hb1
  clear hp hq hb1
  go_wp2_with fail
  refine (bottom_any b1 0 x1 y1 2 _ (HX.out.below HB1.out) hy1).mono ?_
  rintro e w2 ⟨Ab, kb, cb, rfl, hmb, rfl⟩
  have HM1 := Lib.hid hmb
  clear hmb
  go_wp2_with fail
  refine (bottom_any b2 0 x2 y2 2 _ (HY.out.below HB1.out) hy2).mono ?_
  rintro e w2 ⟨Ac, kc, cc, rfl, hmb, rfl⟩
  have HM2 := Lib.hid hmb
  clear hmb
  go_wp2_with fail
  refine (times_mag _ _ y1 y2 2 2 _ HM1.out HM2.out (by omega) (by omega)).mono ?_
  rintro e w3 ⟨v3, rfl, hm3, hb3⟩
  have HM3 := Lib.hid hm3
  have HB3 : Hid (Below w.heap.size w w3) := Lib.hid (HB1.out.trans (hb3.mono HB1.out.size))
  have HP3 := Lib.hid (HP.out.below hb3)
  have HQ3 := Lib.hid (HQ.out.below hb3)
  clear hm3 hb3 HM1 HM2
  go_wp2_with fail
  have HZ := Lib.hid (Slot.new w3 false none 0 0 68)
  have HA := Lib.hid (show Below w3.heap.size w3 (w3.alloc (.cells #[.bool false, .slice none 0 0] 68)) from (Below.refl _ _).alloc (Nat.le_refl _) _)
  refine (Sub_any ⟨w3.heap.size, 0, none⟩ ⟨p, 0, none⟩ ⟨q, 0, none⟩ _ _ 4 _ HZ.out (HP3.out.below HA.out) (HQ3.out.below HA.out) (by omega)).mono ?_
  rintro e w4 hg
  have HG := Lib.hid hg
  obtain ⟨rfl, -⟩ := id hg
  have HW4 : Hid (Below w3.heap.size w3 w4) := Lib.hid (HA.out.trans (hg.2.1.below (by exact Nat.le_refl _) HA.out.size))
  obtain ⟨zb, zo, s4, A4, k4, c4, d, ez, hzb, z3, z4, z5, z6, z7⟩ := hg.2.2.open
  injection ez with ez1 ez2
  subst ez1 ez2
  have HM4 := Lib.hid z5
  have HSG := Lib.hid z6
  have HM3' := Lib.hid (HM3.out.below HW4.out)
  have HB4 : Hid (Below w.heap.size w w4) := Lib.hid (HB3.out.trans (HW4.out.mono HB3.out.size))
  have hw3 := HB3.out.size
  have hne : w3.heap.size ≠ b := by omega
  clear hg z5 z6 z7 HG HZ HA HM3
  have HC := Lib.hid (show w4.drew.cell? ⟨w3.heap.size, 0, none⟩ = some (.bool s4) ∧ w4.drew.cell? ⟨w3.heap.size, 0 + 1, none⟩ = some (.slice A4 k4 c4) ∧ w4.drew.cell? ⟨w3.heap.size, 0, none⟩ = some (.bool s4) ∧ w4.drew.cell? ⟨w3.heap.size, 0 + 1, none⟩ = some (.slice A4 k4 c4) from ⟨z3, z4, z3, z4⟩)
  go_wp2_with fail
  go_region_held3 (fun w' => w'.cell? ⟨w3.heap.size, 0, none⟩ = some (.bool s4) ∧ w'.cell? ⟨w3.heap.size, 0 + 1, none⟩ = some (.slice A4 k4 c4) ∧ w'.cell? ⟨w3.heap.size, 0, none⟩ = some (.bool s4) ∧ w'.cell? ⟨w3.heap.size, 0 + 1, none⟩ = some (.slice A4 k4 c4))
    (first | exact keepR_four hg.2.2 HC.out hzb hzb hzb hzb hne hne hne hne | exact HC.out)
    ((go_at_call 53; refine (made_any b 0 _ _ v3 d (y1 * y2) 5 _ (HS.out.1.below (HB4.out.trans (Below.refl _ _).drew)) (HS.out.2.below (HB4.out.trans (Below.refl _ _).drew)) (HM4.out.below (Below.refl _ _).drew) ((HM3'.out.less (by rw [show (4294967296 : Nat) ^ 2 = 18446744073709551616 from rfl]; exact hl)).below (Below.refl _ _).drew) (Nat.mul_pos hy1 hy2) (by omega) (by omega) (HT.out.below (HB4.out.trans (Below.refl _ _).drew))).mono ?_; rintro e w5 hg; have HG := Lib.hid hg; obtain ⟨rfl, -⟩ := id hg))
  clear hg
  go_wp2_with fail
  go_ret
  have h9 := HG.out
  rw [show sgn s4 d = x1 * (y2 : Int) - x2 * (y1 : Int) from HSG.out.symm] at h9
  exact ⟨rfl, h9.2.1, (KeepR.of_below (HB4.out.trans (Below.refl _ _).drew)).trans h9.2.2⟩
end Go.Proofs.YtiohemofidphjaaDoor.Bg
