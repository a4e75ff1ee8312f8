/- E5 in one text. -/
import Derived.Test.YthnmfcjodobkbaaGreatDoorP14
import Derived.Test.YthnmfcjodobkbaaGreatDoorP17

namespace Go.Proofs.YthnmfcjodobkbaaGreatDoor.Nb
open Go Go.RowKit

theorem run_bits (n : Nat) (w : World) : Sem.run Tryz.prog (callFunc 71 #[.float .f64 n]) w = .ok (.value (.int .u64 (n : Int))) w :=
  (run_callFunc_extern (e := Extern.MathFloatBits.float64bits) Tryz.func71 (by kernel_rfl) (by kernel_rfl) (by kernel_rfl) (by kernel_rfl) _ _).trans rfl
set_option maxRecDepth 8000 in
theorem abs_pos (n : Nat) (w : World) (h : bits .andNot .u64 (n : Int) 9223372036854775808 = (n : Int)) : Calls Tryz.prog 44 #[.float .f64 n] w fun e w' => e = .returned (.float .f64 n) ∧ w' = w := by
  have hb := run_bits n w
  have hf := run_frombits (n : Int) w
  go_enter Tryz.func44, Tryz.ntmps44
  go_wp2_with fail
  go_ret
  exact ⟨rfl, rfl⟩
set_option maxRecDepth 8000 in
theorem isinf_75 (w : World) : Calls Tryz.prog 36 #[.float .f64 4620130267728707584, .int .i64 0] w fun e w' => e = .returned (.bool false) ∧ w' = w := by
  go_enter Tryz.func36, Tryz.ntmps36
  go_wp2_with fail
  refine (abs_pos 4620130267728707584 w (by decide)).mono ?_
  rintro e w1 ⟨rfl, hw⟩
  obtain rfl := hw.symm
  go_wp2_with fail
  go_ret
  exact ⟨rfl, rfl⟩
theorem ex_u1 : (exS.toList == [110, 97, 110]) = false := by rw [Lib.toList_data]; decide
theorem ex_u2 : (exS.toList == [43, 105, 110, 102]) = false := by rw [Lib.toList_data]; decide
theorem ex_u3 : (exS.toList == [45, 105, 110, 102]) = false := by rw [Lib.toList_data]; decide
set_option maxRecDepth 8000 in
theorem unspecial_ex (w : World) : Calls Tryz.prog 32 #[.string exS] w fun e w' => e = .returned (.tuple #[.float .f64 0, .bool false]) ∧ w' = w := by
  have u1 := ex_u1
  have u2 := ex_u2
  have u3 := ex_u3
  go_enter Tryz.func32, Tryz.ntmps32
  go_wp2_with fail
  go_ret2
  exact ⟨rfl, rfl⟩
set_option maxRecDepth 8000 in
set_option maxHeartbeats 1000000 in
theorem parse_ex (w : World) : Calls Tryz.prog 19 #[.string exS] w fun e w' => e = .returned (.tuple #[.float .f64 4620130267728707584, .int .i64 0]) ∧ Below w.heap.size w w' := by
  have hs : exS.size = 9 := by decide
  go_enter Tryz.func19, Tryz.ntmps19
  go_wp2_with fail
  refine (unspecial_ex w).mono ?_
  rintro e w1 ⟨rfl, hw⟩
  obtain rfl := hw.symm
  go_wp2_with fail
  refine (undecimal_ex w).mono ?_
  rintro e w1 ⟨rfl, b1⟩
  have hb1 := b1.alloc b1.size (.cells #[.bool false, .string ⟨#[55, 53, 48]⟩, .int .i64 (-2)] 71)
  have c1 : (w1.alloc (.cells #[.bool false, .string ⟨#[55, 53, 48]⟩, .int .i64 (-2)] 71)).cell? ⟨w1.heap.size, 0, none⟩ = some (.bool false) := by simp [go_sem]
  have hl : w1.heap.size < (w1.alloc (.cells #[.bool false, .string ⟨#[55, 53, 48]⟩, .int .i64 (-2)] 71)).heap.size := by simp
  have HB1 := Lib.hid (And.intro hb1 (And.intro c1 hl))
  clear b1 hb1 c1 hl
  go_wp2_with fail
  refine (value_ex _).mono ?_
  rintro e w2 ⟨z, rfl, r2, z2, b2⟩
  have HR := Lib.hid (And.intro r2 (back_of' HB1.out.1 b2))
  have c2 := (b2.cell (p := ⟨w1.heap.size, 0, none⟩) HB1.out.2.2).trans HB1.out.2.1
  have hl2 := Nat.lt_of_lt_of_le HB1.out.2.2 b2.size
  clear r2 b2 z2
  go_wp2_with fail
  refine (float_75 z w2 HR.out.1).mono ?_
  rintro e w3 ⟨rfl, b3⟩
  have HB3 := Lib.hid (back_of' HR.out.2 b3)
  have c3 := (b3.cell (p := ⟨w1.heap.size, 0, none⟩) hl2).trans c2
  clear b3 c2
  go_wp2_with fail
  refine (isinf_75 w3).mono ?_
  rintro e w4 ⟨rfl, hw⟩
  obtain rfl := hw.symm
  go_wp2_with fail
  go_ret2
  exact ⟨rfl, HB3.out⟩
end Go.Proofs.YthnmfcjodobkbaaGreatDoor.Nb
