/- Q14 Q18 in one text. -/
import Derived.Test.YtbidlkmagbjllaaGreatDoorP40
import Derived.Test.YtbidlkmagbjllaaGreatDoorP07
import Derived.Test.YtbidlkmagbjllaaGreatDoorP22

namespace Go.Proofs.YtbidlkmagbjllaaGreatDoor.Bg
open Go Go.RowKit


set_option maxHeartbeats 4000000 in
theorem sum_lt (z p q : Addr) (x y : Int) (L : Nat) (t : Bool) (w : World) (hz : Slot w z) (hp : IntAt w p x L) (hq : IntAt w q y L) (hL : L ≤ 536870912)
    (b1 o1 : Nat) (s1 : Bool) (A1 : Option Addr) (k1 c1 m b2 o2 : Nat) (s2 : Bool) (A2 : Option Addr) (k2 c2 n : Nat)
    (e1 : p = ⟨b1, o1, none⟩) (_ : b1 < w.heap.size) (h3 : w.cell? ⟨b1, o1, none⟩ = some (.bool s1)) (h4 : w.cell? ⟨b1, o1 + 1, none⟩ = some (.slice A1 k1 c1)) (h5 : MagN w (.slice A1 k1 c1) m L)
    (e2 : q = ⟨b2, o2, none⟩) (_ : b2 < w.heap.size) (g3 : w.cell? ⟨b2, o2, none⟩ = some (.bool s2)) (g4 : w.cell? ⟨b2, o2 + 1, none⟩ = some (.slice A2 k2 c2)) (g5 : MagN w (.slice A2 k2 c2) n L)
    (hs : s1 = !(s2 != t)) (hlt : m < n) :
    Calls Tryz.prog 116 #[.pointer (some z), .pointer (some p), .pointer (some q), .bool t] w (Gives w z (if (s2 != t) then -((n - m : Nat) : Int) else ((n - m : Nat) : Int)) L) := by
  subst e1 e2
  have hc := fun (W : World) (hu : MagN W (.slice A1 k1 c1) m L) (hv : MagN W (.slice A2 k2 c2) n L) => compare_any _ _ m n L W hu hv (by omega)
  have hcv : cmpN m n = -1 := by unfold cmpN; split <;> (try split) <;> omega
  simp only [hcv] at hc
  have HC := Lib.hid hc
  have H5 := Lib.hid h5
  have G5 := Lib.hid g5
  have HZ := Lib.hid hz
  clear h5 g5 hz hp hq hc
  cases s2 <;> cases t <;> simp at hs <;> subst hs
  · go_enter Tryz.func116, Tryz.ntmps116
    go_wp2_with fail
    go_quiet ((go_at_call 67; refine Calls.quiet_of (HC.out _ ?_ ?_); exact H5.out; exact G5.out))
    go_wp2_with fail
    go_region_with (first | (go_at_call 165; refine (minus_dN _ _ n m L _ w G5.out H5.out (by omega) (by omega)).mono ?_; rintro e w1 ⟨v, rfl, hm, hb'⟩) | (go_at_call 39; refine (put_any z _ v (n - m) L _ (HZ.out.below hb') hm).mono ?_; rintro e w2 hg; have HG := Lib.hid (hg.of_below hb'); obtain ⟨rfl, -⟩ := id hg))
    all_goals (clear hg hb' hm; go_wp2_with fail; go_ret; have h9 := HG.out; simp at h9; exact h9)
  · go_enter Tryz.func116, Tryz.ntmps116
    go_wp2_with fail
    go_quiet ((go_at_call 67; refine Calls.quiet_of (HC.out _ ?_ ?_); exact H5.out; exact G5.out))
    go_wp2_with fail
    go_region_with (first | (go_at_call 165; refine (minus_dN _ _ n m L _ w G5.out H5.out (by omega) (by omega)).mono ?_; rintro e w1 ⟨v, rfl, hm, hb'⟩) | (go_at_call 39; refine (put_any z _ v (n - m) L _ (HZ.out.below hb') hm).mono ?_; rintro e w2 hg; have HG := Lib.hid (hg.of_below hb'); obtain ⟨rfl, -⟩ := id hg))
    all_goals (clear hg hb' hm; go_wp2_with fail; go_ret; have h9 := HG.out; simp at h9; exact h9)
  · go_enter Tryz.func116, Tryz.ntmps116
    go_wp2_with fail
    go_quiet ((go_at_call 67; refine Calls.quiet_of (HC.out _ ?_ ?_); exact H5.out; exact G5.out))
    go_wp2_with fail
    go_region_with (first | (go_at_call 165; refine (minus_dN _ _ n m L _ w G5.out H5.out (by omega) (by omega)).mono ?_; rintro e w1 ⟨v, rfl, hm, hb'⟩) | (go_at_call 39; refine (put_any z _ v (n - m) L _ (HZ.out.below hb') hm).mono ?_; rintro e w2 hg; have HG := Lib.hid (hg.of_below hb'); obtain ⟨rfl, -⟩ := id hg))
    all_goals (clear hg hb' hm; go_wp2_with fail; go_ret; have h9 := HG.out; simp at h9; exact h9)
  · go_enter Tryz.func116, Tryz.ntmps116
    go_wp2_with fail
    go_quiet ((go_at_call 67; refine Calls.quiet_of (HC.out _ ?_ ?_); exact H5.out; exact G5.out))
    go_wp2_with fail
    go_region_with (first | (go_at_call 165; refine (minus_dN _ _ n m L _ w G5.out H5.out (by omega) (by omega)).mono ?_; rintro e w1 ⟨v, rfl, hm, hb'⟩) | (go_at_call 39; refine (put_any z _ v (n - m) L _ (HZ.out.below hb') hm).mono ?_; rintro e w2 hg; have HG := Lib.hid (hg.of_below hb'); obtain ⟨rfl, -⟩ := id hg))
    all_goals (clear hg hb' hm; go_wp2_with fail; go_ret; have h9 := HG.out; simp at h9; exact h9)
end Go.Proofs.YtbidlkmagbjllaaGreatDoor.Bg

namespace Go.Proofs.YtbidlkmagbjllaaGreatDoor.Bg
open Go Go.RowKit

theorem add_same {x y : Int} {m n : Nat} {s s' : Bool} (hx : x = if s = true then -(m : Int) else (m : Int)) (hy : y = if s' = true then -(n : Int) else (n : Int)) (h : s = (s' != false)) : (if s = true then -((m + n : Nat) : Int) else ((m + n : Nat) : Int)) = x + y := by
  subst h hx hy
  cases s' <;> simp <;> omega
theorem add_ge {x y : Int} {m n : Nat} {s s' : Bool} (hx : x = if s = true then -(m : Int) else (m : Int)) (hy : y = if s' = true then -(n : Int) else (n : Int)) (h : s = !(s' != false)) (hle : n ≤ m) : (if s = true then -((m - n : Nat) : Int) else ((m - n : Nat) : Int)) = x + y := by
  subst h hx hy
  cases s' <;> simp <;> omega
theorem add_lt {x y : Int} {m n : Nat} {s s' : Bool} (hx : x = if s = true then -(m : Int) else (m : Int)) (hy : y = if s' = true then -(n : Int) else (n : Int)) (h : s = !(s' != false)) (hlt : m < n) : (if (s' != false) = true then -((n - m : Nat) : Int) else ((n - m : Nat) : Int)) = x + y := by
  subst h hx hy
  cases s' <;> simp <;> omega

theorem sum_add (z p q : Addr) (x y : Int) (L : Nat) (w : World) (hz : Slot w z) (hp : IntAt w p x L) (hq : IntAt w q y L) (hL : L ≤ 536870912) :
    Calls Tryz.prog 116 #[.pointer (some z), .pointer (some p), .pointer (some q), .bool false] w (Gives w z (x + y) (L + 1)) := by
  obtain ⟨b1, o1, s1, A1, k1, c1, m, e1, hb1, h3, h4, h5, h6, h7⟩ := hp.open
  obtain ⟨b2, o2, s2, A2, k2, c2, n, e2, hb2, g3, g4, g5, g6, g7⟩ := hq.open
  by_cases c : s1 = (s2 != false)
  · have h := sum_same z p q x y L false w hz hp hq hL b1 o1 s1 A1 k1 c1 m b2 o2 s2 A2 k2 c2 n e1 hb1 h3 h4 h5 e2 hb2 g3 g4 g5 c
    rwa [add_same h6 g6 c] at h
  · have c' : s1 = !(s2 != false) := by cases s1 <;> cases s2 <;> simp at c ⊢
    rcases Nat.lt_or_ge m n with hlt | hle
    · have h := sum_lt z p q x y L false w hz hp hq hL b1 o1 s1 A1 k1 c1 m b2 o2 s2 A2 k2 c2 n e1 hb1 h3 h4 h5 e2 hb2 g3 g4 g5 c' hlt
      rw [add_lt h6 g6 c' hlt] at h
      exact h.mono fun e w' ⟨a, b, c⟩ => ⟨a, b, c.more (by omega)⟩
    · have h := sum_ge z p q x y L false w hz hp hq hL b1 o1 s1 A1 k1 c1 m b2 o2 s2 A2 k2 c2 n e1 hb1 h3 h4 h5 e2 hb2 g3 g4 g5 c' hle
      rw [add_ge h6 g6 c' hle] at h
      exact h.mono fun e w' ⟨a, b, c⟩ => ⟨a, b, c.more (by omega)⟩

theorem Add_any (z p q : Addr) (x y : Int) (L : Nat) (w : World) (hz : Slot w z) (hp : IntAt w p x L) (hq : IntAt w q y L) (hL : L ≤ 536870912) :
    Calls Tryz.prog 63 #[.pointer (some z), .pointer (some p), .pointer (some q)] w (Gives w z (x + y) (L + 1)) := by
  have HS := Lib.hid (sum_add z p q x y L w hz hp hq hL)
  clear hz hp hq
  go_enter Tryz.func63, Tryz.ntmps63
  go_wp2_with fail
  refine HS.out.mono ?_
  rintro e w1 hg
  have HG := Lib.hid hg
  obtain ⟨rfl, -⟩ := id hg
  clear hg
  go_wp2_with fail
  go_ret
  exact HG.out

theorem IntAt.one {w : World} {p : Addr} {d : Nat} {L : Nat} (h : IntAt w p (d : Int) L) (hd : d < 4294967296) : IntAt w p (d : Int) 1 := by
  obtain ⟨b, off, neg, v, n, h1, h2, h3, h4, h5, h6, h7⟩ := h
  refine ⟨b, off, neg, v, n, h1, h2, h3, h4, h5.less (L' := 1) ?_, h6, h7⟩
  have : n = d := by cases neg <;> simp at h6 h7 <;> omega
  omega

end Go.Proofs.YtbidlkmagbjllaaGreatDoor.Bg
