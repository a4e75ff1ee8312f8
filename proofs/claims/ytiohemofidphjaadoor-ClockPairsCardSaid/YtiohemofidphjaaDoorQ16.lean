/- Div (Euclid's) by a divisor of one word: the floor. Conditions: lengths of at most 2 to the 28th words. -/
import Derived.Test.YtiohemofidphjaaDoorQ15
import Derived.Test.YtiohemofidphjaaDoorQ8
namespace Go.Proofs.YtiohemofidphjaaDoor.Bg
open Go Go.RowKit

theorem MagN.slice {w : World} {v : Value} {n L : Nat} (h : MagN w v n L) : ∃ A k c, v = .slice A k c ∧ (k = 0 → n = 0) ∧ (k ≠ 0 → n ≠ 0) := by
  have h' := h
  obtain ⟨ws, ⟨A, c, rfl, -⟩, -⟩ := h
  exact ⟨A, _, c, rfl, h'.len.1, h'.len.2.1⟩

theorem MagN.unit (w : World) (t : TypeId) : MagN (w.alloc (.cells #[.int .u32 1] t)) (.slice (some ⟨w.heap.size, 0, none⟩) 1 1) 1 1 :=
  ⟨[1], Mag.single w 1 (by omega) t, Or.inr (by simp), by simp [val], by simp⟩

theorem div_neg_even {m d : Nat} (hd : 0 < d) (h : m % d = 0) : (-(m : Int)) / (d : Int) = -((m / d : Nat) : Int) := by
  obtain ⟨k, rfl⟩ := Nat.dvd_of_mod_eq_zero h
  rw [Nat.mul_div_cancel_left _ hd, Int.natCast_mul, ← Int.mul_neg, Int.mul_ediv_cancel_left _ (by omega)]
theorem div_neg_odd {m d : Nat} (hd : 0 < d) (h : m % d ≠ 0) : (-(m : Int)) / (d : Int) = -((m / d + 1 : Nat) : Int) := by
  have h1 := Nat.div_add_mod m d
  have h2 := Nat.mod_lt m hd
  have e : -(m : Int) = ((d : Int) - ((m % d : Nat) : Int)) + (d : Int) * (-((m / d + 1 : Nat) : Int)) := by
    have h3 : (m : Int) = (d : Int) * ((m / d : Nat) : Int) + ((m % d : Nat) : Int) := by rw [← Int.natCast_mul, ← Int.natCast_add, h1]
    rw [Int.natCast_add, Int.mul_neg, Int.mul_add]
    omega
  rw [e, Int.add_mul_ediv_left _ _ (by omega), Int.ediv_eq_zero_of_lt (by omega) (by omega), Int.zero_add]

/-- a quotient by one word, of which the rest is known to be nought or not -/
theorem over_even (u v : Value) (m d L : Nat) (w : World) (hu : MagN w u m L) (hv : MagN w v d 1) (hL : L ≤ 536870912) (hd : 0 < d) (hL1 : 1 ≤ L) (hm : m % d = 0) :
    Calls Tryd.prog 56 #[u, v] w fun e w' => ∃ q A c, e = .returned (.tuple #[q, .slice A 0 c]) ∧ MagN w' q (m / d) L ∧ Below w.heap.size w w' :=
  (over_one u v m d L w hu hv hL hd hL1).mono fun e w' ⟨q, r, h1, h2, h3, h4⟩ => by
    obtain ⟨A, k, c, rfl, -, h6⟩ := h3.slice
    have hk : k = 0 := Classical.byContradiction fun hk => h6 hk hm
    subst hk
    exact ⟨q, A, c, h1, h2, h4⟩
theorem over_odd (u v : Value) (m d L : Nat) (w : World) (hu : MagN w u m L) (hv : MagN w v d 1) (hL : L ≤ 536870912) (hd : 0 < d) (hL1 : 1 ≤ L) (hm : m % d ≠ 0) :
    Calls Tryd.prog 56 #[u, v] w fun e w' => ∃ q A c, e = .returned (.tuple #[q, .slice A 1 c]) ∧ MagN w' q (m / d) L ∧ Below w.heap.size w w' :=
  (over_one u v m d L w hu hv hL hd hL1).mono fun e w' ⟨q, r, h1, h2, h3, h4⟩ => by
    obtain ⟨ws, ⟨A, c, rfl, -⟩, -⟩ := id h3
    have hk := h3.len
    have h1' : ws.length = 1 := by
      have := hk.1
      omega
    rw [h1'] at h1
    exact ⟨q, A, c, h1, h2, h4⟩

set_option maxRecDepth 8000 in
set_option maxHeartbeats 4000000 in
theorem div_pos (z p q : Addr) (x : Int) (d L : Nat) (w : World) (hz : Slot w z) (hp : IntAt w p x L) (hq : IntAt w q d 1) (hL : L ≤ 268435456) (hd : 0 < d) (hx : 0 ≤ x) (hL1 : 1 ≤ L) :
    Calls Tryd.prog 38 #[.pointer (some z), .pointer (some p), .pointer (some q)] w (Gives w z (x / (d : Int)) (L + 1)) := by
  obtain ⟨b1, o1, s1, A1, k1, c1, m, rfl, hb1, h3, h4, h5, h6, h7⟩ := hp.open
  obtain ⟨b2, o2, s2, A2, k2, c2, n, rfl, hb2, g3, g4, g5, g6, g7⟩ := hq.open
  have e2 : s2 = false := by cases s2 with | false => rfl | true => simp at g6 g7; omega
  subst e2
  have en : n = d := by simp at g6; omega
  subst en
  have e1 : s1 = false := by cases s1 with | false => rfl | true => simp at h6 h7; omega
  subst e1
  have hr : x / (n : Int) = ((m / n : Nat) : Int) := by simp at h6; rw [h6, Int.natCast_ediv]
  rw [hr]
  have hO := over_one _ _ m n L w.drew (h5.below (Below.refl _ _).drew) (g5.below (Below.refl _ _).drew) (by omega) hd hL1
  have HO := Lib.hid hO
  have HZ := Lib.hid hz
  clear h5 g5 hz hp hq h6 h7 g6 g7 hr hO
  go_enter Tryd.func38, Tryd.ntmps38
  go_wp2_with fail
  go_region_with (first | (go_at_call 56; refine HO.out.mono ?_; rintro e w1 ⟨qv, rv, rfl, hq, hr, hb⟩; have HB := Lib.hid (And.intro hq ((Below.refl w.heap.size w).drew.trans hb)); have f3 := (HB.out.2.cell (p := ⟨b1, o1, none⟩) hb1).trans h3; have f4 := (HB.out.2.cell (p := ⟨b2, o2, none⟩) hb2).trans g3))
  all_goals (clear hq hr hb; go_wp2_with fail)
  all_goals (go_region_with (first | (go_at_call 47; refine (put_any z _ qv (m / n) L _ (HZ.out.below HB.out.2.drew) (HB.out.1.below (Below.refl _ _).drew)).mono ?_; rintro e w2 hg; have HG := Lib.hid (hg.of_below HB.out.2.drew); obtain ⟨rfl, -⟩ := id hg)))
  all_goals (clear hg; go_wp2_with fail; go_ret; have h9 := HG.out; simp at h9; exact ⟨h9.1, h9.2.1, h9.2.2.more (by omega)⟩)
end Go.Proofs.YtiohemofidphjaaDoor.Bg
