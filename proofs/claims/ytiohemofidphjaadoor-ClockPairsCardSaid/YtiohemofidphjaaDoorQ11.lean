/- Contracts of the reference's whole numbers: Mul, Add; over and Div by a divisor of one word. Conditions: lengths of at most 2 to the 29th words. -/
import Derived.Test.YtiohemofidphjaaDoorQ10
import Derived.Test.YtiohemofidphjaaDoorQ6
namespace Go.Proofs.YtiohemofidphjaaDoor.Bg
open Go Go.RowKit

/-- a number's two cells -/
theorem IntAt.open {w : World} {p : Addr} {x : Int} {L : Nat} (h : IntAt w p x L) : ∃ (b off : Nat) (neg : Bool) (A : Option Addr) (k c n : Nat), p = ⟨b, off, none⟩ ∧ b < w.heap.size ∧ w.cell? ⟨b, off, none⟩ = some (.bool neg) ∧
    w.cell? ⟨b, off + 1, none⟩ = some (.slice A k c) ∧ MagN w (.slice A k c) n L ∧ x = (if neg then -(n : Int) else (n : Int)) ∧ (neg = true → n ≠ 0) := by
  obtain ⟨b, off, neg, v, n, h1, h2, h3, h4, h5, h6, h7⟩ := h
  have h5' := h5
  obtain ⟨ws, ⟨A, c, rfl, -⟩, -⟩ := h5
  exact ⟨b, off, neg, A, ws.length, c, n, h1, h2, h3, h4, h5', h6, h7⟩

theorem mul_sign {x y : Int} {m n : Nat} {s t : Bool} (hx : x = if s = true then -(m : Int) else (m : Int)) (hy : y = if t = true then -(n : Int) else (n : Int)) : x * y = if (s != t) = true then -((m * n : Nat) : Int) else ((m * n : Nat) : Int) := by
  rw [hx, hy, Int.natCast_mul]
  cases s <;> cases t <;> simp [Int.neg_mul, Int.mul_neg]

theorem keep_four {w w' : World} {a b c d : Addr} {va vb vc vd : Value} (hb : Below w.heap.size w w') (h : w.cell? a = some va ∧ w.cell? b = some vb ∧ w.cell? c = some vc ∧ w.cell? d = some vd)
    (ha : a.block < w.heap.size) (hb' : b.block < w.heap.size) (hc : c.block < w.heap.size) (hd : d.block < w.heap.size) : w'.cell? a = some va ∧ w'.cell? b = some vb ∧ w'.cell? c = some vc ∧ w'.cell? d = some vd :=
  ⟨(hb.cell ha).trans h.1, (hb.cell hb').trans h.2.1, (hb.cell hc).trans h.2.2.1, (hb.cell hd).trans h.2.2.2⟩
/-- a number's two cells behind a write into another number -/
theorem Wrote.pair {w w' : World} {z : Addr} {b off : Nat} {neg : Bool} {A : Option Addr} {k c : Nat} (h : Wrote w w' z) (hz : Slot w z) (hne : (⟨b, off, none⟩ : Addr) ≠ z) (hb : b < w.heap.size)
    (h0 : w.cell? ⟨b, off, none⟩ = some (.bool neg)) (h1 : w.cell? ⟨b, off + 1, none⟩ = some (.slice A k c)) : w'.cell? ⟨b, off, none⟩ = some (.bool neg) ∧ w'.cell? ⟨b, off + 1, none⟩ = some (.slice A k c) := by
  obtain ⟨b', off', n', A', k', c', rfl, g2, g3, g4, -, -⟩ := hz
  refine ⟨?_, ?_⟩
  · rw [h.cell (by exact hb) hne (by intro e; rw [e, g4] at h0; cases h0)]; exact h0
  · rw [h.cell (by exact hb) (by intro e; rw [e, g3] at h1; cases h1) (by
      intro e
      injection e with e1 e2
      exact hne (by rw [e1, show off = off' by omega]))]
    exact h1
theorem Wrote.four {w w' : World} {z : Addr} {b off b' off' : Nat} {neg neg' : Bool} {A A' : Option Addr} {k c k' c' : Nat} (h : Wrote w w' z) (hz : Slot w z) (hne : (⟨b, off, none⟩ : Addr) ≠ z) (hne' : (⟨b', off', none⟩ : Addr) ≠ z) (hb : b < w.heap.size) (hb' : b' < w.heap.size)
    (hh : w.cell? ⟨b, off, none⟩ = some (.bool neg) ∧ w.cell? ⟨b', off', none⟩ = some (.bool neg') ∧ w.cell? ⟨b, off + 1, none⟩ = some (.slice A k c) ∧ w.cell? ⟨b', off' + 1, none⟩ = some (.slice A' k' c')) :
    w'.cell? ⟨b, off, none⟩ = some (.bool neg) ∧ w'.cell? ⟨b', off', none⟩ = some (.bool neg') ∧ w'.cell? ⟨b, off + 1, none⟩ = some (.slice A k c) ∧ w'.cell? ⟨b', off' + 1, none⟩ = some (.slice A' k' c') := by
  have h1 := h.pair hz hne hb hh.1 hh.2.2.1
  have h2 := h.pair hz hne' hb' hh.2.1 hh.2.2.2
  exact ⟨h1.1, h2.1, h1.2, h2.2⟩

set_option maxHeartbeats 4000000 in
/-- the product of two numbers, written into a third one -/
theorem Mul_any (z p q : Addr) (x y : Int) (L L' : Nat) (w : World) (hz : Slot w z) (hp : IntAt w p x L) (hq : IntAt w q y L') (hzp : p ≠ z) (hzq : q ≠ z) (hL : L ≤ 536870912) (hL' : L' ≤ 536870912) :
    Calls Tryd.prog 50 #[.pointer (some z), .pointer (some p), .pointer (some q)] w (Gives w z (x * y) (L + L')) := by
  obtain ⟨b1, o1, s1, A1, k1, c1, m, rfl, hb1, h3, h4, h5, h6, h7⟩ := hp.open
  obtain ⟨b2, o2, s2, A2, k2, c2, n, rfl, hb2, g3, g4, g5, g6, g7⟩ := hq.open
  have H5 := Lib.hid h5
  have G5 := Lib.hid g5
  have HZ := Lib.hid hz
  have HX := Lib.hid (And.intro (And.intro h6 h7) (And.intro g6 g7))
  have HC := Lib.hid (show w.drew.cell? ⟨b1, o1, none⟩ = some (.bool s1) ∧ w.drew.cell? ⟨b2, o2, none⟩ = some (.bool s2) ∧ w.drew.cell? ⟨b1, o1 + 1, none⟩ = some (.slice A1 k1 c1) ∧ w.drew.cell? ⟨b2, o2 + 1, none⟩ = some (.slice A2 k2 c2) from ⟨h3, g3, h4, g4⟩)
  clear h5 g5 hz hp hq h6 h7 g6 g7
  go_enter Tryd.func50, Tryd.ntmps50
  go_wp2_with fail
  go_region_held3 (fun w' => w'.cell? ⟨b1, o1, none⟩ = some (.bool s1) ∧ w'.cell? ⟨b2, o2, none⟩ = some (.bool s2) ∧ w'.cell? ⟨b1, o1 + 1, none⟩ = some (.slice A1 k1 c1) ∧ w'.cell? ⟨b2, o2 + 1, none⟩ = some (.slice A2 k2 c2))
    (first | exact hg.2.1.four (HZ.out.below hb') hzp hzq (Nat.lt_of_lt_of_le hb1 hb'.size) (Nat.lt_of_lt_of_le hb2 hb'.size) (keep_four hb HC.out hb1 hb2 hb1 hb2) | exact keep_four hb HC.out hb1 hb2 hb1 hb2 | exact HC.out)
    (first | (go_at_call 54; refine (times_mag _ _ m n L L' _ (H5.out.below (Below.refl _ _).drew) (G5.out.below (Below.refl _ _).drew) hL hL').mono ?_; rintro e w1 ⟨v, rfl, hm, hb⟩; have hb' : Below w.heap.size w w1 := (Below.refl _ _).drew.trans hb) | (go_at_call 47; refine (put_any z _ v (m * n) (L + L') _ (HZ.out.below hb') hm).mono ?_; rintro e w2 hg; have HG := Lib.hid (hg.of_below hb'); obtain ⟨rfl, -⟩ := id hg))
  clear hg hb hb' hm
  go_wp2_with fail
  go_ret
  have h9 := HG.out
  rw [mul_sign HX.out.1.1 HX.out.2.1]
  exact h9
end Go.Proofs.YtiohemofidphjaaDoor.Bg
