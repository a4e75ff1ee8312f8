/- E16 in one text. -/
import Derived.Test.YthnmfcjodobkbaaGreatDoorP23
import Derived.Test.YthnmfcjodobkbaaGreatDoorP24

namespace Go.Proofs.YthnmfcjodobkbaaGreatDoor.Nb
open Go Go.RowKit

theorem body_ex : bodyL 12000345 = [49, 50, 46, 48, 48, 48, 51, 52, 53] := by
  unfold bodyL
  rw [Lib.decDigits_eq, show 12000345 / 1000000 = 12 by decide, Lib.nDigits_big (by omega), show 12 / 10 = 1 by decide, Lib.nDigits_small (by omega)]
  rfl
set_option maxRecDepth 8000 in
set_option maxHeartbeats 1000000 in
theorem awake_any (w : World) (hT : Tab64 w) (hP : TabP w) : Calls Tryz.prog 7 #[] w fun e w' => e = .returned (.bool true) ∧ Below w.heap.size w w' := by
  have HT := Lib.hid (And.intro hT hP)
  have HX := Lib.hid (parse_ex w)
  have hS : exS = ⟨#[48, 48, 55, 46, 53, 48, 101, 48, 48]⟩ := rfl
  rw [hS] at HX
  clear hT hP hS
  go_enter Tryz.func7, Tryz.ntmps7
  go_wp2_with fail
  refine HX.out.mono ?_
  rintro e w1 ⟨rfl, b1⟩
  have H1 := Lib.hid (And.intro b1 (And.intro (HT.out.1.below b1) (HT.out.2.below b1 HT.out.2.2)))
  clear b1 HX
  go_wp2_with fail
  have HTi := Lib.hid (time_pos 12000345 w1 (by omega) H1.out.2.2)
  rw [body_ex] at HTi
  refine HTi.out.mono ?_
  rintro e w2 ⟨rfl, b2⟩
  have H2 := Lib.hid (And.intro (back_of' H1.out.1 b2) (And.intro (H1.out.2.1.below b2) (H1.out.2.2.below b2 H1.out.2.2.2)))
  clear b2 H1 HTi
  go_wp2_with fail
  refine (hex_ten w2 H2.out.2.1).mono ?_
  rintro e w3 ⟨rfl, b3⟩
  have H3 := Lib.hid (And.intro (back_of' H2.out.1 b3) (And.intro (H2.out.2.1.below b3) (H2.out.2.2.below b3 H2.out.2.2.2)))
  clear b3 H2
  go_wp2_with fail
  refine (Short_ex w3 H3.out.2.1 H3.out.2.2).mono ?_
  rintro e w4 ⟨rfl, b4⟩
  have H4 := Lib.hid (back_of' H3.out.1 b4)
  clear b4 H3
  go_wp2_with fail
  go_ret
  exact ⟨rfl, H4.out⟩
end Go.Proofs.YthnmfcjodobkbaaGreatDoor.Nb
