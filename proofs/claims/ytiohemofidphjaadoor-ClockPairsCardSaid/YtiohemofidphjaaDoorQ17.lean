/- Div (Euclid's) of a number below 0 by a divisor of one word. Conditions: lengths of at most 2 to the 28th words. -/
import Derived.Test.YtiohemofidphjaaDoorQ16
namespace Go.Proofs.YtiohemofidphjaaDoor.Bg
open Go Go.RowKit

set_option maxRecDepth 8000 in
set_option maxHeartbeats 4000000 in
theorem div_even (z p q : Addr) (x : Int) (d L : Nat) (w : World) (hz : Slot w z) (hp : IntAt w p x L) (hq : IntAt w q d 1) (hL : L ≤ 268435456) (hd : 0 < d) (hx : x < 0) (hdv : x.natAbs % d = 0) (hL1 : 1 ≤ L) :
    Calls Tryd.prog 38 #[.pointer (some z), .pointer (some p), .pointer (some q)] w (Gives w z (x / (d : Int)) (L + 1)) := by
  obtain ⟨b1, o1, s1, A1, k1, c1, m, rfl, hb1, h3, h4, h5, h6, h7⟩ := hp.open
  obtain ⟨b2, o2, s2, A2, k2, c2, n, rfl, hb2, g3, g4, g5, g6, g7⟩ := hq.open
  have e2 : s2 = false := by cases s2 with | false => rfl | true => simp at g6 g7; omega
  subst e2
  have en : n = d := by simp at g6; omega
  subst en
  have e1 : s1 = true := by cases s1 with | true => rfl | false => simp at h6; omega
  subst e1
  have hm : x = -(m : Int) := by simpa using h6
  have hdv' : m % n = 0 := by rw [hm] at hdv; simpa using hdv
  have hr : x / (n : Int) = -((m / n : Nat) : Int) := by rw [hm]; exact div_neg_even hd hdv'
  rw [hr]
  have hO := over_even _ _ m n L w.drew (h5.below (Below.refl _ _).drew) (g5.below (Below.refl _ _).drew) (by omega) hd hL1 hdv'
  have HO := Lib.hid hO
  have HZ := Lib.hid hz
  clear h5 g5 hz hp hq h6 h7 g6 g7 hr hO hm hdv hdv' hx
  go_enter Tryd.func38, Tryd.ntmps38
  go_wp2_with fail
  go_region_with (first | (go_at_call 56; refine HO.out.mono ?_; rintro e w1 ⟨qv, Ar, cr, rfl, hq, hb⟩; have HB := Lib.hid (And.intro hq ((Below.refl w.heap.size w).drew.trans hb)); have f3 := (HB.out.2.cell (p := ⟨b1, o1, none⟩) hb1).trans h3; have f4 := (HB.out.2.cell (p := ⟨b2, o2, none⟩) hb2).trans g3))
  all_goals (clear hq hb; go_wp2_with fail)
  all_goals (go_region_with (first | (go_at_call 47; refine (put_any z true qv (m / n) L _ (HZ.out.below HB.out.2.drew) (HB.out.1.below (Below.refl _ _).drew)).mono ?_; rintro e w2 hg; have HG := Lib.hid (hg.of_below HB.out.2.drew); obtain ⟨rfl, -⟩ := id hg)))
  all_goals (clear hg; go_wp2_with fail; go_ret; have h9 := HG.out; simp at h9; exact ⟨h9.1, h9.2.1, h9.2.2.more (by omega)⟩)
set_option maxRecDepth 8000 in
set_option maxHeartbeats 4000000 in
theorem div_odd (z p q : Addr) (x : Int) (d L : Nat) (w : World) (hz : Slot w z) (hp : IntAt w p x L) (hq : IntAt w q d 1) (hL : L ≤ 268435456) (hd : 0 < d) (hx : x < 0) (hdv : x.natAbs % d ≠ 0) (hL1 : 1 ≤ L) :
    Calls Tryd.prog 38 #[.pointer (some z), .pointer (some p), .pointer (some q)] w (Gives w z (x / (d : Int)) (L + 1)) := by
  obtain ⟨b1, o1, s1, A1, k1, c1, m, rfl, hb1, h3, h4, h5, h6, h7⟩ := hp.open
  obtain ⟨b2, o2, s2, A2, k2, c2, n, rfl, hb2', g3, g4, g5, g6, g7⟩ := hq.open
  have e2 : s2 = false := by cases s2 with | false => rfl | true => simp at g6 g7; omega
  subst e2
  have en : n = d := by simp at g6; omega
  subst en
  have e1 : s1 = true := by cases s1 with | true => rfl | false => simp at h6; omega
  subst e1
  have hm : x = -(m : Int) := by simpa using h6
  have hdv' : m % n ≠ 0 := by rw [hm] at hdv; simpa using hdv
  have hr : x / (n : Int) = -((m / n + 1 : Nat) : Int) := by rw [hm]; exact div_neg_odd hd hdv'
  rw [hr]
  have hO := over_odd _ _ m n L w.drew (h5.below (Below.refl _ _).drew) (g5.below (Below.refl _ _).drew) (by omega) hd hL1 hdv'
  have HO := Lib.hid hO
  have HZ := Lib.hid hz
  clear h5 g5 hz hp hq h6 h7 g6 g7 hr hO hm hdv hdv' hx
  go_enter Tryd.func38, Tryd.ntmps38
  go_wp2_with fail
  go_region_with (first | (go_at_call 56; refine HO.out.mono ?_; rintro e w1 ⟨qv, Ar, cr, rfl, hq, hb⟩; have HB := Lib.hid (And.intro hq ((Below.refl w.heap.size w).drew.trans hb)); have f3 := (HB.out.2.cell (p := ⟨b1, o1, none⟩) hb1).trans h3; have f4 := (HB.out.2.cell (p := ⟨b2, o2, none⟩) hb2').trans g3))
  all_goals (clear hq hb; go_wp2_with fail)
  all_goals (
    refine (plus_any _ _ (m / n) 1 L _ (HB.out.1.below ((Below.refl _ _).alloc (Nat.le_refl _) _)) ((MagN.unit w1 73).more hL1) (by omega)).mono ?_
    rintro e w2 ⟨v, rfl, hm2, hb2⟩
    have hba := HB.out.2.alloc HB.out.2.size (.cells #[.int .u32 1] 73)
    have HB2 := Lib.hid (And.intro hm2 (hba.trans (hb2.mono hba.size)))
    have f5 := (HB2.out.2.cell (p := ⟨b1, o1, none⟩) hb1).trans h3
    have f6 := (HB2.out.2.cell (p := ⟨b2, o2, none⟩) hb2').trans g3
    clear hm2 hb2 hba f3 f4
    go_wp2_with fail)
  all_goals (go_region_with (first | (go_at_call 47; refine (put_any z true v (m / n + 1) (L + 1) _ (HZ.out.below HB2.out.2.drew) (HB2.out.1.below (Below.refl _ _).drew)).mono ?_; rintro e w3 hg; have HG := Lib.hid (hg.of_below HB2.out.2.drew); obtain ⟨rfl, -⟩ := id hg)))
  all_goals (clear hg; go_wp2_with fail; go_ret; have h9 := HG.out; simp at h9; exact h9)
end Go.Proofs.YtiohemofidphjaaDoor.Bg
