/- Q19 in one text. -/
import Derived.Test.YtebacmmfjadalaaGreatP39
import Derived.Test.YtebacmmfjadalaaGreatP06

namespace Go.Proofs.YtebacmmfjadalaaGreat.Bg
open Go Go.RowKit

/-- behind a call that makes a new number: what was known of two others -/
theorem Fresh.keep {w w1 w2 : World} {z r : Addr} (hb : Below w.heap.size w w1) (hs : Slot w1 z) (hr : w1.heap.size ≤ r.block) (h : Below w1.heap.size w1 w2) : Slot w2 z ∧ r ≠ z ∧ Below w.heap.size w w2 := by
  refine ⟨hs.below h, ?_, hb.trans (h.mono hb.size)⟩
  rintro rfl
  obtain ⟨b, off, -, -, -, -, rfl, h2, -⟩ := hs
  have : w1.heap.size ≤ b := hr
  omega
theorem Gives.keep {w w1 w2 : World} {z : Addr} {x : Int} {L : Nat} {e : Ending} (hb : Below w.heap.size w w1) (hs : Slot w1 z) (hz : w.heap.size ≤ z.block) (h : Gives w1 z x L e w2) : Slot w2 z ∧ Below w.heap.size w w2 :=
  ⟨h.2.1.slot hs hs, hb.trans (h.2.1.below hz hb.size)⟩

set_option maxHeartbeats 2000000 in
theorem floor_any (a b : Int) (d : Nat) (w : World) (a0 : -9223372036854775808 ≤ a) (a1 : a ≤ 9223372036854775807) (b0 : -9223372036854775808 ≤ b) (b1 : b ≤ 9223372036854775807) (d0 : 0 < d) (d1 : d < 4294967296) :
    Calls Tryz.prog 54 #[.int .i64 a, .int .i64 b, .int .i64 d] w (Fresh w (a * b / (d : Int)) 5) := by
  have HA := Lib.hid (And.intro (And.intro a0 a1) (And.intro b0 b1))
  have HD := Lib.hid (And.intro d0 d1)
  clear a0 a1 b0 b1 d0 d1
  go_enter Tryz.func54, Tryz.ntmps54
  go_wp2_with fail
  have H0 := Lib.hid (And.intro (Slot.new w false none 0 0 117) ((Below.refl w.heap.size w).alloc (Nat.le_refl _) (.cells #[.bool false, .slice none 0 0] 117)))
  refine (newInt_any a _ HA.out.1.1 HA.out.1.2).mono ?_
  rintro e w1 ⟨p, rfl, hp, -, hpi, hb⟩
  have H1 := Lib.hid (And.intro hpi (Fresh.keep H0.out.2 H0.out.1 hp hb))
  clear hp hpi hb H0
  go_wp2_with fail
  refine (newInt_any b _ HA.out.2.1 HA.out.2.2).mono ?_
  rintro e w2 ⟨q, rfl, hq, -, hqi, hb⟩
  have H2 := Lib.hid (And.intro hqi (And.intro (H1.out.1.below hb) (And.intro H1.out.2.2.1 (Fresh.keep H1.out.2.2.2 H1.out.2.1 hq hb))))
  clear hq hqi hb H1
  go_wp2_with fail
  refine (Mul_any _ p q a b 2 2 w2 H2.out.2.2.2.1 H2.out.2.1 H2.out.1 H2.out.2.2.1 H2.out.2.2.2.2.1 (by omega) (by omega)).mono ?_
  rintro e w3 hg
  have H3 := Lib.hid (And.intro hg.2.2 (Gives.keep H2.out.2.2.2.2.2 H2.out.2.2.2.1 (Nat.le_refl w.heap.size) hg))
  obtain ⟨rfl, -⟩ := hg
  clear H2
  go_wp2_with fail
  refine (newInt_any (d : Int) _ (by omega) (by have := HD.out.2; omega)).mono ?_
  rintro e w4 ⟨r, rfl, hr, -, hri, hb⟩
  have H4 := Lib.hid (And.intro hri (And.intro (H3.out.1.below hb) (Fresh.keep H3.out.2.2 H3.out.2.1 hr hb)))
  clear hr hri hb H3
  go_wp2_with fail
  refine (Div_any _ _ r (a * b) d 4 2 w4 H4.out.2.2.1 H4.out.2.1 H4.out.1 (by omega) HD.out.1 HD.out.2 (by omega)).mono ?_
  rintro e w5 hg
  have H5 := Lib.hid (And.intro hg.2.2 (Gives.keep H4.out.2.2.2.2 H4.out.2.2.1 (Nat.le_refl w.heap.size) hg))
  obtain ⟨rfl, -⟩ := hg
  clear H4
  go_wp2_with fail
  go_ret
  exact ⟨_, rfl, Nat.le_refl _, H5.out.2.1, H5.out.1, H5.out.2.2⟩
end Go.Proofs.YtebacmmfjadalaaGreat.Bg
