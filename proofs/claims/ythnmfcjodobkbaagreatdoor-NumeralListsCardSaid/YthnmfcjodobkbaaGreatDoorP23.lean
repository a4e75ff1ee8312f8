/- E14 in one text. -/
import Derived.Test.YthnmfcjodobkbaaGreatDoorP19
import Derived.Test.YthnmfcjodobkbaaGreatDoorP22

namespace Go.Proofs.YthnmfcjodobkbaaGreatDoor.Nb
open Go Go.RowKit

theorem sh_idx : ∀ W, (Instr.index 9 (.string ⟨#[49]⟩) (.int .i64 0)).run Tryz.prog W = .ok (.int .u8 49) W := by
  intro W
  rw [run_index_string W 9 _ .i64 0 (by kernel_rfl), dif_pos (by decide)]
  rfl
theorem itoa_m1 : Lib.itoa (-1) = [45, 49] := by
  simp [Lib.itoa, Lib.decDigits_eq, Lib.nDigits_small]
  rfl
theorem sh_trim : (⟨(Lib.trimRightB ByteArray.empty.data.toList 48).toArray⟩ : ByteArray) = ⟨#[]⟩ := by decide

set_option maxRecDepth 8000 in
set_option maxHeartbeats 1000000 in
theorem short_ex (B b : Nat) (w : World) (hb : Bld w B b []) (hB : B ≤ w.heap.size) (hP : TabP w) (hg : 1 < B) :
    Calls Tryz.prog 45 #[.pointer (some ⟨b, 0, none⟩), .string ⟨#[49]⟩, .int .i64 (-1)] w fun e w' => e = .returned (.string ⟨#[49, 101, 45, 49]⟩) ∧ Below B w w' := by
  have hidx := sh_idx
  have HI := Lib.hid (And.intro hb (And.intro hB hP))
  clear hb hB hP
  go_enter Tryz.func45, Tryz.ntmps45
  go_wp2_with fail
  refine (wbyte B b [] 49 w HI.out.1 (by simp) HI.out.2.1 49 rfl).mono ?_
  rintro e w1 ⟨rfl, d1, b1⟩
  have H1 := Lib.hid (And.intro d1 b1)
  clear d1 b1
  go_wp2_with fail
  refine (Tryz.strings_TrimRight_one ByteArray.empty 48 (by decide) w1 (by decide)).mono ?_
  rw [sh_trim]
  rintro e w2 ⟨rfl, hw⟩
  obtain rfl := hw.symm
  go_wp2_with fail
  have hz1 : B ≤ w1.heap.size := Nat.le_trans HI.out.2.1 H1.out.2.size
  refine (wbyte B b _ 101 w1 H1.out.1 (by decide) hz1 101 rfl).mono ?_
  rintro e w3 ⟨rfl, d3, b3⟩
  have H3 := Lib.hid (And.intro d3 (H1.out.2.trans b3))
  clear d3 b3
  go_wp2_with fail
  refine (itoa_any (-1) w3 (by omega) (by omega) (HI.out.2.2.below H3.out.2 hg)).mono ?_
  rw [itoa_m1]
  rintro e w4 ⟨rfl, b4⟩
  have hz3 : B ≤ w3.heap.size := Nat.le_trans HI.out.2.1 H3.out.2.size
  have H4 := Lib.hid (And.intro (H3.out.1.below b4) (H3.out.2.trans (b4.mono hz3)))
  clear b4
  go_wp2_with fail
  refine (wstring B b _ ⟨#[45, 49]⟩ w4 H4.out.1 (by decide) (by decide) (Nat.le_trans HI.out.2.1 H4.out.2.size)).mono ?_
  rintro e w5 ⟨rfl, d5, b5⟩
  have H5 := Lib.hid (And.intro d5 (H4.out.2.trans b5))
  clear d5 b5
  go_wp2_with fail
  refine (bstring B b _ w5 H5.out.1 (Nat.le_trans HI.out.2.1 H5.out.2.size)).mono ?_
  rintro e w6 ⟨rfl, b6⟩
  have HF := Lib.hid (H5.out.2.trans b6)
  clear b6
  go_wp2_with fail
  go_ret
  exact ⟨rfl, HF.out⟩

set_option maxRecDepth 8000 in
set_option maxHeartbeats 1000000 in
theorem Short_ex (w : World) (hT : Tab64 w) (hP : TabP w) : Calls Tryz.prog 21 #[.float .f64 4591870180066957722] w fun e w' => e = .returned (.string ⟨#[49, 101, 45, 49]⟩) ∧ Below w.heap.size w w' := by
  have hmf : ∀ (fn : Fn) (first cap : Array Value) (w : World), (Instr.makeFunc fn first cap).run Tryz.prog w = .ok (.func fn first cap) w := fun _ _ _ _ => rfl
  have hA := (Below.refl w.heap.size w).alloc (Nat.le_refl _) (.cells #[.float .f64 4591870180066957722] 53)
  have hc : (w.alloc (.cells #[.float .f64 4591870180066957722] 53)).cell? ⟨w.heap.size, 0, none⟩ = some (.float .f64 4591870180066957722) := by simp [go_sem]
  obtain ⟨W, hW⟩ : ∃ W, w.alloc (.cells #[.float .f64 4591870180066957722] 53) = W := ⟨_, rfl⟩
  have hws : w.heap.size < W.heap.size := by rw [← hW]; simp
  rw [hW] at hA hc
  have HA := Lib.hid hA
  have HT := Lib.hid (And.intro hT hP)
  clear hA hT hP
  go_enter Tryz.func21, Tryz.ntmps21
  go_wp2_with fail
  refine (special_tenth W).mono ?_
  rintro e w1 ⟨rfl, hw⟩
  obtain rfl := hw.symm
  go_wp2_with fail
  refine (begun_tenth W).mono ?_
  rintro e w1 ⟨rfl, d1, b1⟩
  have c1 := (b1.cell (p := ⟨w.heap.size, 0, none⟩) (by exact hws)).trans hc
  have H1 := Lib.hid (And.intro d1 b1)
  clear d1 b1 hc
  go_wp2_with fail
  refine (Parts_tenth w1 (HT.out.1.below (back_of' HA.out H1.out.2))).mono ?_
  rintro e w2 ⟨rfl, b2⟩
  have hk := b2.trans (((Below.refl w2.heap.size w2).alloc (Nat.le_refl _) (.cells #[.bool false, .int .u64 3602879701896397, .int .i64 (-55)] 83)).mono b2.size)
  have c2 := (hk.cell (p := ⟨w.heap.size, 0, none⟩) (by exact Nat.lt_of_lt_of_le hws H1.out.2.size)).trans c1
  have H2 := Lib.hid (And.intro (H1.out.1.below hk) (back_of' H1.out.2 hk))
  clear b2 hk c1 H1
  go_wp2_with fail
  refine (amount_ex _).mono ?_
  rintro e w3 ⟨z, rfl, hz, r3, s3, b3⟩
  have c3 := (b3.cell (p := ⟨w.heap.size, 0, none⟩) (by exact Nat.lt_of_lt_of_le hws H2.out.2.size)).trans c2
  have H3 := Lib.hid (And.intro (H2.out.1.below b3) (And.intro (back_of' H2.out.2 b3) r3))
  clear r3 s3 b3 c2 H2
  have HFe := Lib.hid (fewest_ex z w.heap.size w3 H3.out.2.2 c3 (Nat.lt_of_lt_of_le hws H3.out.2.1.size))
  clear c3
  go_wp2_with fail
  refine HFe.out.mono ?_
  rintro e w4 ⟨rfl, b4⟩
  have H4 := Lib.hid (And.intro (H3.out.1.below b4) (back_of' H3.out.2.1 b4))
  clear b4 H3 HFe
  go_wp2_with fail
  refine (short_ex W.heap.size W.heap.size w4 H4.out.1 H4.out.2.size (HT.out.2.below (back_of' HA.out H4.out.2) HT.out.2.2) (Nat.lt_trans HT.out.2.2 hws)).mono ?_
  rintro e w5 ⟨rfl, b5⟩
  have HF := Lib.hid (back_of' HA.out (H4.out.2.trans b5))
  clear b5
  go_wp2_with fail
  go_ret
  exact ⟨rfl, HF.out⟩
end Go.Proofs.YthnmfcjodobkbaaGreatDoor.Nb
