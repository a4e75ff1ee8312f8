/- Q18 in one text. -/
import Derived.Test.YtebacmmfjadalaaGreatP36
import Derived.Test.YtebacmmfjadalaaGreatP38

namespace Go.Proofs.YtebacmmfjadalaaGreat.Bg
open Go Go.RowKit

theorem add_same {x y : Int} {m n : Nat} {s s' : Bool} (hx : x = if s = true then -(m : Int) else (m : Int)) (hy : y = if s' = true then -(n : Int) else (n : Int)) (h : s = (s' != false)) : (if s = true then -((m + n : Nat) : Int) else ((m + n : Nat) : Int)) = x + y := by
  subst h hx hy
  cases s' <;> simp <;> omega
theorem add_ge {x y : Int} {m n : Nat} {s s' : Bool} (hx : x = if s = true then -(m : Int) else (m : Int)) (hy : y = if s' = true then -(n : Int) else (n : Int)) (h : s = !(s' != false)) (hle : n ≤ m) : (if s = true then -((m - n : Nat) : Int) else ((m - n : Nat) : Int)) = x + y := by
  subst h hx hy
  cases s' <;> simp <;> omega
theorem add_lt {x y : Int} {m n : Nat} {s s' : Bool} (hx : x = if s = true then -(m : Int) else (m : Int)) (hy : y = if s' = true then -(n : Int) else (n : Int)) (h : s = !(s' != false)) (hlt : m < n) : (if (s' != false) = true then -((n - m : Nat) : Int) else ((n - m : Nat) : Int)) = x + y := by
  subst h hx hy
  cases s' <;> simp <;> omega

theorem sum_add (z p q : Addr) (x y : Int) (L : Nat) (w : World) (hz : Slot w z) (hp : IntAt w p x L) (hq : IntAt w q y L) (hL : L ≤ 536870912) :
    Calls Tryz.prog 71 #[.pointer (some z), .pointer (some p), .pointer (some q), .bool false] w (Gives w z (x + y) (L + 1)) := by
  obtain ⟨b1, o1, s1, A1, k1, c1, m, e1, hb1, h3, h4, h5, h6, h7⟩ := hp.open
  obtain ⟨b2, o2, s2, A2, k2, c2, n, e2, hb2, g3, g4, g5, g6, g7⟩ := hq.open
  by_cases c : s1 = (s2 != false)
  · have h := sum_same z p q x y L false w hz hp hq hL b1 o1 s1 A1 k1 c1 m b2 o2 s2 A2 k2 c2 n e1 hb1 h3 h4 h5 e2 hb2 g3 g4 g5 c
    rwa [add_same h6 g6 c] at h
  · have c' : s1 = !(s2 != false) := by cases s1 <;> cases s2 <;> simp at c ⊢
    rcases Nat.lt_or_ge m n with hlt | hle
    · have h := sum_lt z p q x y L false w hz hp hq hL b1 o1 s1 A1 k1 c1 m b2 o2 s2 A2 k2 c2 n e1 hb1 h3 h4 h5 e2 hb2 g3 g4 g5 c' hlt
      rw [add_lt h6 g6 c' hlt] at h
      exact h.mono fun e w' ⟨a, b, c⟩ => ⟨a, b, c.more (by omega)⟩
    · have h := sum_ge z p q x y L false w hz hp hq hL b1 o1 s1 A1 k1 c1 m b2 o2 s2 A2 k2 c2 n e1 hb1 h3 h4 h5 e2 hb2 g3 g4 g5 c' hle
      rw [add_ge h6 g6 c' hle] at h
      exact h.mono fun e w' ⟨a, b, c⟩ => ⟨a, b, c.more (by omega)⟩

theorem Add_any (z p q : Addr) (x y : Int) (L : Nat) (w : World) (hz : Slot w z) (hp : IntAt w p x L) (hq : IntAt w q y L) (hL : L ≤ 536870912) :
    Calls Tryz.prog 55 #[.pointer (some z), .pointer (some p), .pointer (some q)] w (Gives w z (x + y) (L + 1)) := by
  have HS := Lib.hid (sum_add z p q x y L w hz hp hq hL)
  clear hz hp hq
  go_enter Tryz.func55, Tryz.ntmps55
  go_wp2_with fail
  refine HS.out.mono ?_
  rintro e w1 hg
  have HG := Lib.hid hg
  obtain ⟨rfl, -⟩ := id hg
  clear hg
  go_wp2_with fail
  go_ret
  exact HG.out

theorem IntAt.one {w : World} {p : Addr} {d : Nat} {L : Nat} (h : IntAt w p (d : Int) L) (hd : d < 4294967296) : IntAt w p (d : Int) 1 := by
  obtain ⟨b, off, neg, v, n, h1, h2, h3, h4, h5, h6, h7⟩ := h
  refine ⟨b, off, neg, v, n, h1, h2, h3, h4, h5.less (L' := 1) ?_, h6, h7⟩
  have : n = d := by cases neg <;> simp at h6 h7 <;> omega
  omega

theorem Div_any (z p q : Addr) (x : Int) (d L L' : Nat) (w : World) (hz : Slot w z) (hp : IntAt w p x L) (hq : IntAt w q (d : Int) L') (hL : L ≤ 268435456) (hd : 0 < d) (hd' : d < 4294967296) (hL1 : 1 ≤ L) :
    Calls Tryz.prog 70 #[.pointer (some z), .pointer (some p), .pointer (some q)] w (Gives w z (x / (d : Int)) (L + 1)) := by
  by_cases c : 0 ≤ x
  · exact div_pos z p q x d L w hz hp (hq.one hd') hL hd c hL1
  · by_cases c' : x.natAbs % d = 0
    · exact div_even z p q x d L w hz hp (hq.one hd') hL hd (by omega) c' hL1
    · exact div_odd z p q x d L w hz hp (hq.one hd') hL hd (by omega) c' hL1

end Go.Proofs.YtebacmmfjadalaaGreat.Bg
