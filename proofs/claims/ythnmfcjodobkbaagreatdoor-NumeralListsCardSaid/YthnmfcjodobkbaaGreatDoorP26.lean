/- E20 in one text. -/
import Derived.Test.YthnmfcjodobkbaaGreatDoorP25
import Derived.Test.YthnmfcjodobkbaaGreatDoorP24

namespace Go.Proofs.YthnmfcjodobkbaaGreatDoor.Nb
open Go Go.RowKit

set_option maxRecDepth 8000 in
set_option maxHeartbeats 1000000 in
theorem times_far (t : Int) (w : World) (hT : Tab64 w) (hP : TabP w) (h : t < -1125899906842624 ∨ 1125899906842624 < t) :
    Calls Tryz.prog 3 #[.int .i64 t] w fun e w' => e = .returned (.bool true) ∧ Below w.heap.size w w' := by
  have HA := Lib.hid (awake_any w hT hP)
  have HF := Lib.hid h
  clear hT hP h
  go_enter Tryz.func3, Tryz.ntmps3
  go_wp2_with fail
  refine (time_far t w HF.out).mono ?_
  rintro e w1 ⟨rfl, hw⟩
  obtain rfl := hw.symm
  go_wp2_with fail
  refine (reftime_far t w HF.out).mono ?_
  rintro e w1 ⟨rfl, hw⟩
  obtain rfl := hw.symm
  go_wp2_with fail
  refine HA.out.mono ?_
  rintro e w1 ⟨rfl, b1⟩
  have HB := Lib.hid b1
  clear b1
  go_wp2_with fail
  go_ret
  exact ⟨rfl, HB.out⟩

set_option maxRecDepth 8000 in
set_option maxHeartbeats 1000000 in
theorem times_pos (T : Nat) (w : World) (hT : T ≤ 1125899906842624) (hT6 : Tab64 w) (hP : TabP w) :
    Calls Tryz.prog 3 #[.int .i64 (T : Int)] w fun e w' => e = .returned (.bool true) ∧ Below w.heap.size w w' := by
  have HN := Lib.hid (hT)
  have HT := Lib.hid (And.intro hT6 hP)
  obtain ⟨S, hS⟩ : ∃ S : ByteArray, S = ⟨(bodyL T).toArray⟩ := ⟨_, rfl⟩
  have HS := Lib.hid hS
  clear hT6 hP hT hS
  go_enter Tryz.func3, Tryz.ntmps3
  go_wp2_with fail
  refine (time_pos T w HN.out HT.out.2).mono ?_
  rw [← HS.out]
  rintro e w1 ⟨rfl, b1⟩
  have H1 := Lib.hid b1
  clear b1
  go_wp2_with fail
  refine (reftime_pos T _ HN.out (HT.out.2.below H1.out HT.out.2.2)).mono ?_
  rw [← HS.out]
  rintro e w2 ⟨rfl, b2⟩
  have H2 := Lib.hid (back_of' H1.out b2)
  clear b2
  go_wp2_with fail
  have HPT := Lib.hid (parsetime_pos T w2 HN.out (HT.out.2.below H2.out HT.out.2.2))
  rw [← HS.out] at HPT
  refine HPT.out.mono ?_
  rintro e w3 ⟨rfl, b3⟩
  have H3 := Lib.hid (back_of' H2.out b3)
  clear b3
  go_wp2_with fail
  refine (awake_any w3 (HT.out.1.below H3.out) (HT.out.2.below H3.out HT.out.2.2)).mono ?_
  rintro e w4 ⟨rfl, b4⟩
  have H4 := Lib.hid (back_of' H3.out b4)
  clear b4
  go_wp2_with fail
  go_ret
  exact ⟨rfl, H4.out⟩

set_option maxRecDepth 8000 in
set_option maxHeartbeats 1000000 in
theorem times_neg (T : Nat) (E : Int) (w : World) (hE : E = -(T : Int)) (hT0 : 0 < T) (hT : T ≤ 1125899906842624) (hT6 : Tab64 w) (hP : TabP w) :
    Calls Tryz.prog 3 #[.int .i64 E] w fun e w' => e = .returned (.bool true) ∧ Below w.heap.size w w' := by
  have HN := Lib.hid (And.intro hE (And.intro hT0 hT))
  have HT := Lib.hid (And.intro hT6 hP)
  obtain ⟨S, hS⟩ : ∃ S : ByteArray, S = ⟨(45 :: bodyL T).toArray⟩ := ⟨_, rfl⟩
  have HS := Lib.hid hS
  clear hT6 hP hT hS hE hT0
  go_enter Tryz.func3, Tryz.ntmps3
  go_wp2_with fail
  refine (time_neg T E w HN.out.1 HN.out.2.1 HN.out.2.2 HT.out.2).mono ?_
  rw [← HS.out]
  rintro e w1 ⟨rfl, b1⟩
  have H1 := Lib.hid b1
  clear b1
  go_wp2_with fail
  refine (reftime_neg T E _ HN.out.1 HN.out.2.1 HN.out.2.2 (HT.out.2.below H1.out HT.out.2.2)).mono ?_
  rw [← HS.out]
  rintro e w2 ⟨rfl, b2⟩
  have H2 := Lib.hid (back_of' H1.out b2)
  clear b2
  go_wp2_with fail
  have HPT := Lib.hid (parsetime_neg T E w2 HN.out.1 HN.out.2.1 HN.out.2.2 (HT.out.2.below H2.out HT.out.2.2))
  rw [← HS.out] at HPT
  refine HPT.out.mono ?_
  rintro e w3 ⟨rfl, b3⟩
  have H3 := Lib.hid (back_of' H2.out b3)
  clear b3
  go_wp2_with fail
  refine (awake_any w3 (HT.out.1.below H3.out) (HT.out.2.below H3.out HT.out.2.2)).mono ?_
  rintro e w4 ⟨rfl, b4⟩
  have H4 := Lib.hid (back_of' H3.out b4)
  clear b4
  go_wp2_with fail
  go_ret
  exact ⟨rfl, H4.out⟩

theorem times_walk (t : Int) (w : World) (hT : Tab64 w) (hP : TabP w) :
    Calls Tryz.prog 3 #[.int .i64 t] w fun e w' => e = .returned (.bool true) ∧ Below w.heap.size w w' := by
  by_cases h : t < -1125899906842624 ∨ 1125899906842624 < t
  · exact times_far t w hT hP h
  · by_cases h0 : 0 ≤ t
    · obtain ⟨T, rfl⟩ := Int.eq_ofNat_of_zero_le h0
      exact times_pos T w (by omega) hT hP
    · exact times_neg (-t).toNat t w (by omega) (by omega) (by omega) hT hP
end Go.Proofs.YthnmfcjodobkbaaGreatDoor.Nb
