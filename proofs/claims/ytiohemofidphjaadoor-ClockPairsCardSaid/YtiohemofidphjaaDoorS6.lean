/- Sub: the difference of two numbers, written into a third one (which may be one of them). -/
import Derived.Test.YtiohemofidphjaaDoorQ18
namespace Go.Proofs.YtiohemofidphjaaDoor.Bg
open Go Go.RowKit

theorem sub_same {x y : Int} {m n : Nat} {s s' : Bool} (hx : x = if s = true then -(m : Int) else (m : Int)) (hy : y = if s' = true then -(n : Int) else (n : Int)) (h : s = (s' != true)) : (if s = true then -((m + n : Nat) : Int) else ((m + n : Nat) : Int)) = x - y := by
  subst h hx hy
  cases s' <;> simp <;> omega
theorem sub_ge {x y : Int} {m n : Nat} {s s' : Bool} (hx : x = if s = true then -(m : Int) else (m : Int)) (hy : y = if s' = true then -(n : Int) else (n : Int)) (h : s = !(s' != true)) (hle : n ≤ m) : (if s = true then -((m - n : Nat) : Int) else ((m - n : Nat) : Int)) = x - y := by
  subst h hx hy
  cases s' <;> simp <;> omega
theorem sub_lt {x y : Int} {m n : Nat} {s s' : Bool} (hx : x = if s = true then -(m : Int) else (m : Int)) (hy : y = if s' = true then -(n : Int) else (n : Int)) (h : s = !(s' != true)) (hlt : m < n) : (if (s' != true) = true then -((n - m : Nat) : Int) else ((n - m : Nat) : Int)) = x - y := by
  subst h hx hy
  cases s' <;> simp <;> omega

theorem sum_sub (z p q : Addr) (x y : Int) (L : Nat) (w : World) (hz : Slot w z) (hp : IntAt w p x L) (hq : IntAt w q y L) (hL : L ≤ 536870912) :
    Calls Tryd.prog 51 #[.pointer (some z), .pointer (some p), .pointer (some q), .bool true] w (Gives w z (x - y) (L + 1)) := by
  obtain ⟨b1, o1, s1, A1, k1, c1, m, e1, hb1, h3, h4, h5, h6, h7⟩ := hp.open
  obtain ⟨b2, o2, s2, A2, k2, c2, n, e2, hb2, g3, g4, g5, g6, g7⟩ := hq.open
  by_cases c : s1 = (s2 != true)
  · have h := sum_same z p q x y L true w hz hp hq hL b1 o1 s1 A1 k1 c1 m b2 o2 s2 A2 k2 c2 n e1 hb1 h3 h4 h5 e2 hb2 g3 g4 g5 c
    rwa [sub_same h6 g6 c] at h
  · have c' : s1 = !(s2 != true) := by cases s1 <;> cases s2 <;> simp at c ⊢
    rcases Nat.lt_or_ge m n with hlt | hle
    · have h := sum_lt z p q x y L true w hz hp hq hL b1 o1 s1 A1 k1 c1 m b2 o2 s2 A2 k2 c2 n e1 hb1 h3 h4 h5 e2 hb2 g3 g4 g5 c' hlt
      rw [sub_lt h6 g6 c' hlt] at h
      exact h.mono fun e w' ⟨a, b, c⟩ => ⟨a, b, c.more (by omega)⟩
    · have h := sum_ge z p q x y L true w hz hp hq hL b1 o1 s1 A1 k1 c1 m b2 o2 s2 A2 k2 c2 n e1 hb1 h3 h4 h5 e2 hb2 g3 g4 g5 c' hle
      rw [sub_ge h6 g6 c' hle] at h
      exact h.mono fun e w' ⟨a, b, c⟩ => ⟨a, b, c.more (by omega)⟩

theorem Sub_any (z p q : Addr) (x y : Int) (L : Nat) (w : World) (hz : Slot w z) (hp : IntAt w p x L) (hq : IntAt w q y L) (hL : L ≤ 536870912) :
    Calls Tryd.prog 27 #[.pointer (some z), .pointer (some p), .pointer (some q)] w (Gives w z (x - y) (L + 1)) := by
  have HS := Lib.hid (sum_sub z p q x y L w hz hp hq hL)
  clear hz hp hq
  go_enter Tryd.func27, Tryd.ntmps27
  go_wp2_with fail
  refine HS.out.mono ?_
  rintro e w1 hg
  have HG := Lib.hid hg
  obtain ⟨rfl, -⟩ := id hg
  clear hg
  go_wp2_with fail
  go_ret
  exact HG.out
end Go.Proofs.YtiohemofidphjaaDoor.Bg
