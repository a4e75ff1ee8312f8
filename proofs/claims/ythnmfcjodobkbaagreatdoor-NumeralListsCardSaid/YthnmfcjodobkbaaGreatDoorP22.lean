/- E12 in one text. -/
import Derived.Test.YthnmfcjodobkbaaGreatDoorP21
import Derived.Test.YthnmfcjodobkbaaGreatDoorP20

namespace Go.Proofs.YthnmfcjodobkbaaGreatDoor.Nb
open Go Go.RowKit

set_option maxRecDepth 8000 in
theorem inf_up_ten (w : World) : Calls Tryz.prog 36 #[.float .f64 4621819117588971520, .int .i64 1] w fun e w' => e = .returned (.bool false) ∧ w' = w := by
  have hneg : ∀ W, (Op.unary .neg (.float .f64 4621819117588971520)).run Tryz.prog W = .ok (.float .f64 13845191154443747328) W := fun _ => rfl
  go_enter Tryz.func36, Tryz.ntmps36
  go_wp2_with fail
  go_ret
  exact ⟨rfl, rfl⟩

set_option maxRecDepth 8000 in
theorem inf_down_ten (w : World) : Calls Tryz.prog 36 #[.float .f64 4621819117588971520, .int .i64 (-1)] w fun e w' => e = .returned (.bool false) ∧ w' = w := by
  have hneg : ∀ W, (Op.unary .neg (.float .f64 4621819117588971520)).run Tryz.prog W = .ok (.float .f64 13845191154443747328) W := fun _ => rfl
  go_enter Tryz.func36, Tryz.ntmps36
  go_wp2_with fail
  go_ret
  exact ⟨rfl, rfl⟩

set_option maxRecDepth 8000 in
theorem special_ten (w : World) : Calls Tryz.prog 37 #[.float .f64 4621819117588971520] w fun e w' => e = .returned (.tuple #[.string ⟨#[]⟩, .bool false]) ∧ w' = w := by
  go_enter Tryz.func37, Tryz.ntmps37
  go_wp2_with fail
  refine (inf_up_ten w).mono ?_
  rintro e w1 ⟨rfl, hw⟩
  obtain rfl := hw.symm
  go_wp2_with fail
  refine (inf_down_ten w).mono ?_
  rintro e w1 ⟨rfl, hw⟩
  obtain rfl := hw.symm
  go_wp2_with fail
  go_ret2
  exact ⟨rfl, rfl⟩
set_option maxRecDepth 8000 in
theorem signbit_ten (w : World) : Calls Tryz.prog 69 #[.float .f64 4621819117588971520] w fun e w' => e = .returned (.bool false) ∧ w' = w := by
  have hb := run_bits 4621819117588971520
  go_enter Tryz.func69, Tryz.ntmps69
  go_wp2_with fail
  go_ret
  exact ⟨rfl, rfl⟩
set_option maxRecDepth 8000 in
theorem begun_ten (w : World) : Calls Tryz.prog 38 #[.float .f64 4621819117588971520] w fun e w' => e = .returned (.pointer (some ⟨w.heap.size, 0, none⟩)) ∧ Bld w' w.heap.size w.heap.size [] ∧ Below w.heap.size w w' := by
  have HB := Lib.hid (And.intro (Bld.new w) ((Below.refl w.heap.size w).alloc (Nat.le_refl _) (.cells #[.pointer none, .slice none 0 0] 44)))
  go_enter Tryz.func38, Tryz.ntmps38
  go_wp2_with fail
  refine (signbit_ten _).mono ?_
  rintro e w1 ⟨rfl, rfl⟩
  go_wp2_with fail
  go_ret
  exact ⟨rfl, HB.out.1, HB.out.2⟩

set_option maxRecDepth 8000 in
theorem inf_up_tenth (w : World) : Calls Tryz.prog 36 #[.float .f64 4591870180066957722, .int .i64 1] w fun e w' => e = .returned (.bool false) ∧ w' = w := by
  have hneg : ∀ W, (Op.unary .neg (.float .f64 4591870180066957722)).run Tryz.prog W = .ok (.float .f64 13815242216921733530) W := fun _ => rfl
  go_enter Tryz.func36, Tryz.ntmps36
  go_wp2_with fail
  go_ret
  exact ⟨rfl, rfl⟩

set_option maxRecDepth 8000 in
theorem inf_down_tenth (w : World) : Calls Tryz.prog 36 #[.float .f64 4591870180066957722, .int .i64 (-1)] w fun e w' => e = .returned (.bool false) ∧ w' = w := by
  have hneg : ∀ W, (Op.unary .neg (.float .f64 4591870180066957722)).run Tryz.prog W = .ok (.float .f64 13815242216921733530) W := fun _ => rfl
  go_enter Tryz.func36, Tryz.ntmps36
  go_wp2_with fail
  go_ret
  exact ⟨rfl, rfl⟩

set_option maxRecDepth 8000 in
theorem special_tenth (w : World) : Calls Tryz.prog 37 #[.float .f64 4591870180066957722] w fun e w' => e = .returned (.tuple #[.string ⟨#[]⟩, .bool false]) ∧ w' = w := by
  go_enter Tryz.func37, Tryz.ntmps37
  go_wp2_with fail
  refine (inf_up_tenth w).mono ?_
  rintro e w1 ⟨rfl, hw⟩
  obtain rfl := hw.symm
  go_wp2_with fail
  refine (inf_down_tenth w).mono ?_
  rintro e w1 ⟨rfl, hw⟩
  obtain rfl := hw.symm
  go_wp2_with fail
  go_ret2
  exact ⟨rfl, rfl⟩
set_option maxRecDepth 8000 in
theorem signbit_tenth (w : World) : Calls Tryz.prog 69 #[.float .f64 4591870180066957722] w fun e w' => e = .returned (.bool false) ∧ w' = w := by
  have hb := run_bits 4591870180066957722
  go_enter Tryz.func69, Tryz.ntmps69
  go_wp2_with fail
  go_ret
  exact ⟨rfl, rfl⟩
set_option maxRecDepth 8000 in
theorem begun_tenth (w : World) : Calls Tryz.prog 38 #[.float .f64 4591870180066957722] w fun e w' => e = .returned (.pointer (some ⟨w.heap.size, 0, none⟩)) ∧ Bld w' w.heap.size w.heap.size [] ∧ Below w.heap.size w w' := by
  have HB := Lib.hid (And.intro (Bld.new w) ((Below.refl w.heap.size w).alloc (Nat.le_refl _) (.cells #[.pointer none, .slice none 0 0] 44)))
  go_enter Tryz.func38, Tryz.ntmps38
  go_wp2_with fail
  refine (signbit_tenth _).mono ?_
  rintro e w1 ⟨rfl, rfl⟩
  go_wp2_with fail
  go_ret
  exact ⟨rfl, HB.out.1, HB.out.2⟩

/-- the builder and the parts beside it -/
structure HexL (w W : World) (d : Nat) (l : List UInt8) : Prop where
  bd : Bld W w.heap.size w.heap.size l
  b : Below w.heap.size w W
  h : W.heap[d]? = some (.cells #[.bool false, .int .u64 5, .int .i64 1] 83 (0, 0))
  ne : d ≠ w.heap.size
theorem HexL.next {w W W' : World} {d : Nat} {l m : List UInt8} (h : HexL w W d l) (q : Bld W' w.heap.size w.heap.size m) (b : Below w.heap.size W W') (k : Lib.OthersKept 5 (some w.heap.size) W W') : HexL w W' d m :=
  ⟨q, h.b.trans b, others_dec k h.ne _ (by decide) h.h, h.ne⟩
theorem hex_idx : ∀ W, (Instr.index 9 (.string ⟨#[48, 49, 50, 51, 52, 53, 54, 55, 56, 57, 97, 98, 99, 100, 101, 102]⟩) (.int .u64 4)).run Tryz.prog W = .ok (.int .u8 52) W := by
  intro W
  rw [run_index_string W 9 _ .u64 4 (by kernel_rfl), dif_pos (by decide)]
  rfl
theorem dig3 : (⟨(Lib.decDigits 3).toArray⟩ : ByteArray) = ⟨#[51]⟩ := by
  rw [Lib.decDigits_eq, Lib.nDigits_small (by omega)]; rfl
set_option maxRecDepth 8000 in
set_option maxHeartbeats 2000000 in
theorem hex_ten (w : World) (hT : Tab64 w) : Calls Tryz.prog 20 #[.float .f64 4621819117588971520] w fun e w' => e = .returned (.string ⟨#[48, 120, 49, 46, 52, 112, 51]⟩) ∧ Below w.heap.size w w' := by
  have HT := Lib.hid hT
  clear hT
  go_enter Tryz.func20, Tryz.ntmps20
  go_wp2_with fail
  refine (special_ten w).mono ?_
  rintro e w1 ⟨rfl, hw⟩
  obtain rfl := hw.symm
  go_wp2_with fail
  refine (begun_ten w).mono ?_
  rintro e w1 ⟨rfl, d1, b1⟩
  have H1 := Lib.hid (And.intro d1 b1)
  clear d1 b1
  go_wp2_with fail
  refine (Parts_ten w1 (HT.out.below H1.out.2)).mono ?_
  rintro e w2 ⟨rfl, b2⟩
  have hA := (Below.refl w2.heap.size w2).alloc (Nat.le_refl _) (.cells #[.bool false, .int .u64 5, .int .i64 1] 83)
  have HL : Hid (HexL w (w2.alloc (.cells #[.bool false, .int .u64 5, .int .i64 1] 83)) w2.heap.size []) := Lib.hid ⟨H1.out.1.below (back_of' b2 hA), back_of' H1.out.2 (back_of' b2 hA), by show (w2.heap.push _)[w2.heap.size]? = _; simp, Nat.ne_of_gt (Nat.lt_of_lt_of_le H1.out.1.lt b2.size)⟩
  clear b2 hA H1
  have hc1 := Lib.cell_of_heap HL.out.h 1
  go_wp2_with fail
  refine (len_bits 5 3 _ (by omega) (by decide)).mono ?_
  rintro e w3 ⟨rfl, rfl⟩
  clear hc1
  go_wp2_with fail
  obtain ⟨W3, hW3⟩ : ∃ W3, w2.alloc (.cells #[.bool false, .int .u64 5, .int .i64 1] 83) = W3 := ⟨_, rfl⟩
  rw [hW3] at HL
  rw [hW3]
  clear hW3
  refine (wstring_k w.heap.size w.heap.size [] ⟨#[48, 120, 49]⟩ W3 HL.out.bd (by simp) (by decide) HL.out.b.size).mono ?_
  rintro e w4 ⟨rfl, d4, b4, k4⟩
  have HL := Lib.hid (HL.out.next d4 b4 k4)
  clear d4 b4 k4
  go_wp2_with fail
  refine (wbyte_k w.heap.size w.heap.size _ 46 w4 HL.out.bd (by decide) HL.out.b.size 46 rfl).mono ?_
  rintro e w5 ⟨rfl, d5, b5, k5⟩
  have HL := Lib.hid (HL.out.next d5 b5 k5)
  clear d5 b5 k5
  have hc1 := Lib.cell_of_heap HL.out.h 1
  have hidx := hex_idx
  go_wp2_with fail
  clear hc1
  go_loopw [9] (fun v wr => ∃ l, Hid (HexL w wr w2.heap.size l) ∧ ((v = .int .u64 4611686018427387904 ∧ Hid (l = [48, 120, 49, 46])) ∨ (v = .int .u64 0 ∧ Hid (l = [48, 120, 49, 46, 52])))) (fun v _ => (intOf v).toNat)
  case atStart => exact ⟨_, HL, .inl ⟨rfl, Lib.hid rfl⟩⟩
  case round =>
    obtain ⟨l, hl, ⟨rfl, hll⟩ | ⟨rfl, hll⟩⟩ := hrel
    · go_wp2_with fail
      refine (wbyte_k w.heap.size w.heap.size l 52 wr hl.out.bd (by rw [hll.out]; decide) hl.out.b.size 52 rfl).mono ?_
      rintro e w6 ⟨rfl, d6, b6, k6⟩
      have HL6 := Lib.hid (hl.out.next d6 b6 k6)
      clear d6 b6 k6
      go_wp2_with fail
      go_roundw
      case rel => exact ⟨_, HL6, .inr ⟨rfl, Lib.hid (by rw [hll.out]; rfl)⟩⟩
      case measure => simp [intOf, IntKind.wrap_u64]
    · go_wp2_with fail
      refine (wbyte_k w.heap.size w.heap.size l 112 wr hl.out.bd (by rw [hll.out]; decide) hl.out.b.size 112 rfl).mono ?_
      rintro e w7 ⟨rfl, d7, b7, k7⟩
      have HL7 := Lib.hid (hl.out.next d7 b7 k7)
      clear d7 b7 k7
      have hc2 := Lib.cell_of_heap HL7.out.h 2
      go_wp2_with fail
      refine (Tryz.strconv_Itoa_small 3 (by omega) w7).mono ?_
      rw [dig3]
      rintro e w8 ⟨rfl, hw⟩
      obtain rfl := hw.symm
      go_wp2_with fail
      refine (wstring_k w.heap.size w.heap.size _ ⟨#[51]⟩ w7 HL7.out.bd (by rw [hll.out]; decide) (by decide) HL7.out.b.size).mono ?_
      rintro e w9 ⟨rfl, d9, b9, k9⟩
      have HL9 := Lib.hid (HL7.out.next d9 b9 k9)
      clear d9 b9 k9
      go_wp2_with fail
      refine (bstring w.heap.size w.heap.size _ w9 HL9.out.bd HL9.out.b.size).mono ?_
      rintro e w10 ⟨rfl, b10⟩
      have HF := Lib.hid (HL9.out.b.trans b10)
      clear b10
      go_wp2_with fail
      go_ret
      obtain rfl := hll.out
      exact ⟨rfl, HF.out⟩
end Go.Proofs.YthnmfcjodobkbaaGreatDoor.Nb
