/- E10 E12 E14 E16 in one text. -/
import Derived.Test.YtbidlkmagbjllaaGreatDoorP16
import Derived.Lib.TrailingZeros
import Derived.Test.YtbidlkmagbjllaaGreatDoorP15

namespace Go.Proofs.YtbidlkmagbjllaaGreatDoor.Nb
open Go Go.RowKit

/-- the table lies in its variable -/
def Tab64 (w : World) : Prop := 2 < w.heap.size ∧ ∀ j, j < 64 → w.cell? ⟨2, j, none⟩ = some (.int .u8 (Lib.deBruijn64tab.getD j 0 : Nat))
theorem Tab64.below {w w' : World} (h : Tab64 w) (hb : Below w.heap.size w w') : Tab64 w' :=
  ⟨Nat.lt_of_lt_of_le h.1 hb.size, fun j hj => (hb.cell (by exact h.1)).trans (h.2 j hj)⟩
set_option maxRecDepth 8000 in
theorem tz64_core (x y p z k idx : Nat) (w : World) (hx0 : ((x : Int) == 0) = false) (hw1 : IntKind.u64.wrap (-(x : Int)) = (y : Int)) (hw2 : bits BinOp.and IntKind.u64 (x : Int) (y : Int) = (p : Int))
    (hw3 : IntKind.u64.wrap ((p : Int) * 285870213051353865) = (z : Int)) (hw4 : (z : Int) / 288230376151711744 = (idx : Int))
    (hi : idx < 64) (hk : k < 64) (hcell : w.cell? ⟨2, idx, none⟩ = some (.int .u8 (k : Nat))) :
    Calls Tryz.prog 126 #[.int .u64 (x : Int)] w fun e w' => e = .returned (.int .i64 (k : Int)) ∧ w = w' := by
  go_enter Tryz.func126, Tryz.ntmps126
  go_wp2_with fail
  go_ret
  exact ⟨rfl, rfl⟩
theorem tz64_any (x k : Nat) (w : World) (h0 : x ≠ 0) (h1 : x < 18446744073709551616) (hT : Tab64 w) (hk : Lib.ctz 64 x = k) :
    Calls Tryz.prog 126 #[.int .u64 (x : Int)] w fun e w' => e = .returned (.int .i64 (k : Int)) ∧ w = w' := by
  subst hk
  obtain ⟨hlow, hk⟩ := Lib.lowest_bit 64 x h0 h1
  obtain ⟨hi, htab⟩ := Lib.deBruijn64_at _ hk
  have hcell := hT.2 _ hi
  rw [htab] at hcell
  refine tz64_core x (18446744073709551616 - x) (2 ^ Lib.ctz 64 x) (2 ^ Lib.ctz 64 x * 285870213051353865 % 18446744073709551616) _ _ w (by simp; omega) (by rw [IntKind.wrap_u64]; omega) ?_ ?_ ?_ hi hk hcell
  · rw [u64_and_nat _ _ (by omega) (by omega), show x &&& (18446744073709551616 - x) = 2 ^ Lib.ctz 64 x from hlow]
  · generalize 2 ^ Lib.ctz 64 x = P
    rw [IntKind.wrap_u64]
    omega
  · generalize 2 ^ Lib.ctz 64 x * 285870213051353865 % 18446744073709551616 = P
    omega
theorem of_idx : ∀ W, (Instr.index 178 (.agg #[.int .u64 52, .int .i64 2047, .int .i64 1075, .int .u64 23, .int .i64 255, .int .i64 150]) (.int .i64 0)).run Tryz.prog W = .ok (.agg #[.int .u64 52, .int .i64 2047, .int .i64 1075]) W := by
  intro W
  kernel_rfl
set_option maxRecDepth 8000 in
theorem of_zero (w : World) : Calls Tryz.prog 73 #[.int .i64 0] w fun e w' => e = .returned (.agg #[.int .u64 52, .int .i64 2047, .int .i64 1075]) ∧ Below w.heap.size w w' := by
  have hidx := of_idx
  go_enter Tryz.func73, Tryz.ntmps73
  go_wp2_with fail
  exact bodyPost_ret (by simp [results, Tryz.results73, go_sem]) rfl ⟨rfl, (Below.refl _ _).alloc (Nat.le_refl _) _⟩

/-- the parts of a number, under way -/
structure Par (w W : World) (dB : Nat) (v1 v2 : Value) : Prop where
  r : DecAt W (w.heap.size + 1) (.bool false) (.int .u64 0) (.int .i64 0)
  d : DecAt W dB (.bool false) v1 v2
  f : Fmt W w.heap.size
  b : Below w.heap.size w W
  h : w.heap.size + 1 < dB
theorem Par.below {w W W' : World} {dB : Nat} {v1 v2 : Value} (h : Par w W dB v1 v2) (k : Below W.heap.size W W') : Par w W' dB v1 v2 :=
  ⟨h.r.kept (c := W.heap.size) (Kept.of_below k) (Nat.ne_of_lt h.r.1), h.d.kept (c := W.heap.size) (Kept.of_below k) (Nat.ne_of_lt h.d.1), h.f.below k, back_of' h.b k, h.h⟩
theorem Fmt.kept {w w' : World} {b c : Nat} (h : Fmt w b) (k : Kept w w' c) (hne : b ≠ c) : Fmt w' b :=
  ⟨(k.cell (p := ⟨b, 0, none⟩) h.2.2.2 hne).trans h.1, (k.cell (p := ⟨b, 1, none⟩) h.2.2.2 hne).trans h.2.1, (k.cell (p := ⟨b, 2, none⟩) h.2.2.2 hne).trans h.2.2.1, Nat.lt_of_lt_of_le h.2.2.2 k.size⟩
theorem Par.set1 {w W : World} {dB : Nat} {v1 v2 : Value} (h : Par w W dB v1 v2) (v : Value) : Par w (W.setCell ⟨dB, 1, none⟩ v) dB v v2 := by
  have q := h.h
  exact ⟨h.r.kept ((Kept.refl W dB).setCell (o := 1) v) (by omega), h.d.set1 v, h.f.kept ((Kept.refl W dB).setCell (o := 1) v) (by omega), h.b.setCell (p := ⟨dB, 1, none⟩) (by show w.heap.size ≤ dB; omega) v, h.h⟩
theorem Par.set2 {w W : World} {dB : Nat} {v1 v2 : Value} (h : Par w W dB v1 v2) (v : Value) : Par w (W.setCell ⟨dB, 2, none⟩ v) dB v1 v := by
  have q := h.h
  exact ⟨h.r.kept ((Kept.refl W dB).setCell (o := 2) v) (by omega), h.d.set2 v, h.f.kept ((Kept.refl W dB).setCell (o := 2) v) (by omega), h.b.setCell (p := ⟨dB, 2, none⟩) (by show w.heap.size ≤ dB; omega) v, h.h⟩

set_option maxRecDepth 8000 in
set_option maxHeartbeats 2000000 in
theorem parts_ten (w : World) (hT : Tab64 w) : Calls Tryz.prog 71 #[.int .u64 4621819117588971520, (.agg #[.int .u64 52, .int .i64 2047, .int .i64 1075])] w fun e w' => e = .returned (.tuple #[.agg #[.bool false, .int .u64 5, .int .i64 (1)], .int .i64 0]) ∧ Below w.heap.size w w' := by
  have hA1 := (Below.refl w.heap.size w).alloc (Nat.le_refl _) (.cells #[.int .u64 52, .int .i64 2047, .int .i64 1075] 129)
  have hA2 := hA1.alloc hA1.size (.cells #[.bool false, .int .u64 0, .int .i64 0] 76)
  have hF := (Fmt.new w 129).below ((Below.refl _ _).alloc (Nat.le_refl _) (.cells #[.bool false, .int .u64 0, .int .i64 0] 76))
  have hR : DecAt ((w.alloc (.cells #[.int .u64 52, .int .i64 2047, .int .i64 1075] 129)).alloc (.cells #[.bool false, .int .u64 0, .int .i64 0] 76)) (w.heap.size + 1) (.bool false) (.int .u64 0) (.int .i64 0) := by
    have := DecAt.new (w.alloc (.cells #[.int .u64 52, .int .i64 2047, .int .i64 1075] 129)) (.bool false) (.int .u64 0) (.int .i64 0) 76
    simpa using this
  have HSp := Lib.hid (split_ten ((w.alloc (.cells #[.int .u64 52, .int .i64 2047, .int .i64 1075] 129)).alloc (.cells #[.bool false, .int .u64 0, .int .i64 0] 76)))
  have HA := Lib.hid (And.intro hA2 (And.intro hF hR))
  have HT := Lib.hid hT
  have hor : bits .or .u64 1125899906842624 4503599627370496 = 5629499534213120 := by decide
  clear hA1 hA2 hF hR hT
  go_enter Tryz.func71, Tryz.ntmps71
  go_wp2_with fail
  refine HSp.out.mono ?_
  rintro e W1 ⟨rfl, b1⟩
  have hs1 := HA.out.2.2.1
  have hl1 : w.heap.size + 1 < W1.heap.size := Nat.lt_of_lt_of_le hs1 b1.size
  have HP : Hid (Par w (W1.alloc (.cells #[.bool false, .int .u64 1125899906842624, .int .i64 (-49)] 76)) W1.heap.size (.int .u64 1125899906842624) (.int .i64 (-49))) := Lib.hid (by
    have k1 := b1
    have hk : Below W1.heap.size W1 (W1.alloc (.cells #[.bool false, .int .u64 1125899906842624, .int .i64 (-49)] 76)) := (Below.refl _ _).alloc (Nat.le_refl _) _
    have k := back_of' k1 hk
    exact ⟨HA.out.2.2.kept (c := (w.alloc (.cells #[.int .u64 52, .int .i64 2047, .int .i64 1075] 129)).heap.size + 1) (Kept.of_below k) (by simp), DecAt.new W1 _ _ _ _, HA.out.2.1.below k, back_of' HA.out.1 k, hl1⟩)
  obtain ⟨f0, f1, f2, fl⟩ := HA.out.2.1.below b1
  clear b1 HA HSp hs1
  go_wp2_with fail
  refine (class_ten _).mono ?_
  rintro e W3 ⟨rfl, b3⟩
  have HP := Lib.hid (HP.out.below b3)
  clear b3 f0 f1 f2 fl
  obtain ⟨-, d0, d1, d2, q0, q1, q2⟩ := id HP.out.d
  obtain ⟨f0, f1, f2, fl⟩ := HP.out.f
  go_upto_block 0 with (fail)
  have hcur : Below W3.heap.size W3 W3.drew := (Below.refl _ _).drew
  go_cut [5] from 28 to 47 (fun v wx => v = .int .i64 0 ∧ Hid (Par w wx W1.heap.size (.int .u64 5629499534213120) (.int .i64 (-49))))
  case first =>
    go_wp2_with fail
    go_region_with (first | (go_at_call 125; refine (hidden_f _).mono ?_; rintro e W4 ⟨rfl, b4⟩; have HP4 := Lib.hid (HP.out.below (back_of' hcur b4)); obtain ⟨-, y0, y1, y2, p0, p1, p2⟩ := id HP4.out.d; clear b4) | fail)
    all_goals go_wp2_with fail
    all_goals go_meet
    all_goals exact ⟨rfl, Lib.hid (HP4.out.set1 _)⟩
  case rest =>
    obtain ⟨rfl, HP5⟩ := hcut
    clear d0 d1 d2 q0 q1 q2 f0 f1 f2 fl HP hcur
    obtain ⟨-, d0, d1, d2, q0, q1, q2⟩ := id HP5.out.d
    go_wp2_with fail
    refine (tz64_any 5629499534213120 50 _ (by omega) (by omega) (HT.out.below ⟨HP5.out.b.os, HP5.out.b.tape, HP5.out.b.output, HP5.out.b.size, HP5.out.b.block⟩) (by decide)).mono ?_
    rintro e W6 ⟨rfl, hw⟩
    obtain rfl := hw
    go_upto_region 15 with (fail)
    have HP8 := Lib.hid ((HP5.out.set1 (.int .u64 5)).set2 (.int .i64 (1)))
    clear d0 d1 d2 q0 q1 q2 HP5
    generalize (wc.setCell ⟨W1.heap.size, 1, none⟩ (.int .u64 5)).setCell ⟨W1.heap.size, 2, none⟩ (.int .i64 (1)) = W8 at *
    obtain ⟨-, d0, d1, d2, q0, q1, q2⟩ := id HP8.out.d
    obtain ⟨-, r0, r1, r2, g0, g1, g2⟩ := id HP8.out.r
    go_wp2_with fail
    exact bodyPost_ret (by simp [results, Tryz.results71, go_sem, r0, r1, r2]) rfl ⟨rfl, ((HP8.out.b.setCell (p := ⟨w.heap.size + 1, 0, none⟩) (Nat.le_succ _) _).setCell (p := ⟨w.heap.size + 1, 1, none⟩) (Nat.le_succ _) _).setCell (p := ⟨w.heap.size + 1, 2, none⟩) (Nat.le_succ _) _⟩

set_option maxRecDepth 8000 in
set_option maxHeartbeats 1000000 in
theorem Parts_ten (w : World) (hT : Tab64 w) : Calls Tryz.prog 28 #[.float .f64 4621819117588971520] w fun e w' => e = .returned (.tuple #[.agg #[.bool false, .int .u64 5, .int .i64 (1)], .int .i64 0]) ∧ Below w.heap.size w w' := by
  have hA := (Below.refl w.heap.size w).alloc (Nat.le_refl _) (.cells #[.bool false, .int .u64 0, .int .i64 0] 76)
  have HA := Lib.hid (And.intro hA (DecAt.new w (.bool false) (.int .u64 0) (.int .i64 0) 76))
  have HT := Lib.hid hT
  have hbits := run_bits 4621819117588971520
  clear hA hT
  go_enter Tryz.func28, Tryz.ntmps28
  go_wp2_with fail
  refine (of_zero _).mono ?_
  rintro e W1 ⟨rfl, b1⟩
  have H1 := Lib.hid (And.intro (back_of' HA.out.1 b1) (HA.out.2.kept (c := w.heap.size + 1) (Kept.of_below b1) (by omega)))
  clear b1 HA
  go_wp2_with fail
  refine (parts_ten W1 (HT.out.below H1.out.1)).mono ?_
  rintro e W2 ⟨rfl, b2⟩
  have H2 := Lib.hid (And.intro (back_of' H1.out.1 b2) (H1.out.2.kept (c := W1.heap.size) (Kept.of_below b2) (Nat.ne_of_lt H1.out.2.1)))
  clear b2 H1
  obtain ⟨-, r0, r1, r2, g0, g1, g2⟩ := id H2.out.2
  go_wp2_with fail
  exact bodyPost_ret (by simp [results, Tryz.results28, go_sem, r0, r1, r2]) rfl ⟨rfl, by
    repeat' (first | exact H2.out.1 | apply Below.setCell)
    all_goals (show w.heap.size ≤ w.heap.size; omega)⟩

set_option maxRecDepth 8000 in
set_option maxHeartbeats 2000000 in
theorem parts_tenth (w : World) (hT : Tab64 w) : Calls Tryz.prog 71 #[.int .u64 4591870180066957722, (.agg #[.int .u64 52, .int .i64 2047, .int .i64 1075])] w fun e w' => e = .returned (.tuple #[.agg #[.bool false, .int .u64 3602879701896397, .int .i64 (-55)], .int .i64 0]) ∧ Below w.heap.size w w' := by
  have hA1 := (Below.refl w.heap.size w).alloc (Nat.le_refl _) (.cells #[.int .u64 52, .int .i64 2047, .int .i64 1075] 129)
  have hA2 := hA1.alloc hA1.size (.cells #[.bool false, .int .u64 0, .int .i64 0] 76)
  have hF := (Fmt.new w 129).below ((Below.refl _ _).alloc (Nat.le_refl _) (.cells #[.bool false, .int .u64 0, .int .i64 0] 76))
  have hR : DecAt ((w.alloc (.cells #[.int .u64 52, .int .i64 2047, .int .i64 1075] 129)).alloc (.cells #[.bool false, .int .u64 0, .int .i64 0] 76)) (w.heap.size + 1) (.bool false) (.int .u64 0) (.int .i64 0) := by
    have := DecAt.new (w.alloc (.cells #[.int .u64 52, .int .i64 2047, .int .i64 1075] 129)) (.bool false) (.int .u64 0) (.int .i64 0) 76
    simpa using this
  have HSp := Lib.hid (split_tenth ((w.alloc (.cells #[.int .u64 52, .int .i64 2047, .int .i64 1075] 129)).alloc (.cells #[.bool false, .int .u64 0, .int .i64 0] 76)))
  have HA := Lib.hid (And.intro hA2 (And.intro hF hR))
  have HT := Lib.hid hT
  have hor : bits .or .u64 2702159776422298 4503599627370496 = 7205759403792794 := by decide
  clear hA1 hA2 hF hR hT
  go_enter Tryz.func71, Tryz.ntmps71
  go_wp2_with fail
  refine HSp.out.mono ?_
  rintro e W1 ⟨rfl, b1⟩
  have hs1 := HA.out.2.2.1
  have hl1 : w.heap.size + 1 < W1.heap.size := Nat.lt_of_lt_of_le hs1 b1.size
  have HP : Hid (Par w (W1.alloc (.cells #[.bool false, .int .u64 2702159776422298, .int .i64 (-56)] 76)) W1.heap.size (.int .u64 2702159776422298) (.int .i64 (-56))) := Lib.hid (by
    have k1 := b1
    have hk : Below W1.heap.size W1 (W1.alloc (.cells #[.bool false, .int .u64 2702159776422298, .int .i64 (-56)] 76)) := (Below.refl _ _).alloc (Nat.le_refl _) _
    have k := back_of' k1 hk
    exact ⟨HA.out.2.2.kept (c := (w.alloc (.cells #[.int .u64 52, .int .i64 2047, .int .i64 1075] 129)).heap.size + 1) (Kept.of_below k) (by simp), DecAt.new W1 _ _ _ _, HA.out.2.1.below k, back_of' HA.out.1 k, hl1⟩)
  obtain ⟨f0, f1, f2, fl⟩ := HA.out.2.1.below b1
  clear b1 HA HSp hs1
  go_wp2_with fail
  refine (class_tenth _).mono ?_
  rintro e W3 ⟨rfl, b3⟩
  have HP := Lib.hid (HP.out.below b3)
  clear b3 f0 f1 f2 fl
  obtain ⟨-, d0, d1, d2, q0, q1, q2⟩ := id HP.out.d
  obtain ⟨f0, f1, f2, fl⟩ := HP.out.f
  go_upto_block 0 with (fail)
  have hcur : Below W3.heap.size W3 W3.drew := (Below.refl _ _).drew
  go_cut [5] from 28 to 47 (fun v wx => v = .int .i64 0 ∧ Hid (Par w wx W1.heap.size (.int .u64 7205759403792794) (.int .i64 (-56))))
  case first =>
    go_wp2_with fail
    go_region_with (first | (go_at_call 125; refine (hidden_f _).mono ?_; rintro e W4 ⟨rfl, b4⟩; have HP4 := Lib.hid (HP.out.below (back_of' hcur b4)); obtain ⟨-, y0, y1, y2, p0, p1, p2⟩ := id HP4.out.d; clear b4) | fail)
    all_goals go_wp2_with fail
    all_goals go_meet
    all_goals exact ⟨rfl, Lib.hid (HP4.out.set1 _)⟩
  case rest =>
    obtain ⟨rfl, HP5⟩ := hcut
    clear d0 d1 d2 q0 q1 q2 f0 f1 f2 fl HP hcur
    obtain ⟨-, d0, d1, d2, q0, q1, q2⟩ := id HP5.out.d
    go_wp2_with fail
    refine (tz64_any 7205759403792794 1 _ (by omega) (by omega) (HT.out.below ⟨HP5.out.b.os, HP5.out.b.tape, HP5.out.b.output, HP5.out.b.size, HP5.out.b.block⟩) (by decide)).mono ?_
    rintro e W6 ⟨rfl, hw⟩
    obtain rfl := hw
    go_upto_region 15 with (fail)
    have HP8 := Lib.hid ((HP5.out.set1 (.int .u64 3602879701896397)).set2 (.int .i64 (-55)))
    clear d0 d1 d2 q0 q1 q2 HP5
    generalize (wc.setCell ⟨W1.heap.size, 1, none⟩ (.int .u64 3602879701896397)).setCell ⟨W1.heap.size, 2, none⟩ (.int .i64 (-55)) = W8 at *
    obtain ⟨-, d0, d1, d2, q0, q1, q2⟩ := id HP8.out.d
    obtain ⟨-, r0, r1, r2, g0, g1, g2⟩ := id HP8.out.r
    go_wp2_with fail
    exact bodyPost_ret (by simp [results, Tryz.results71, go_sem, r0, r1, r2]) rfl ⟨rfl, ((HP8.out.b.setCell (p := ⟨w.heap.size + 1, 0, none⟩) (Nat.le_succ _) _).setCell (p := ⟨w.heap.size + 1, 1, none⟩) (Nat.le_succ _) _).setCell (p := ⟨w.heap.size + 1, 2, none⟩) (Nat.le_succ _) _⟩

set_option maxRecDepth 8000 in
set_option maxHeartbeats 1000000 in
theorem Parts_tenth (w : World) (hT : Tab64 w) : Calls Tryz.prog 28 #[.float .f64 4591870180066957722] w fun e w' => e = .returned (.tuple #[.agg #[.bool false, .int .u64 3602879701896397, .int .i64 (-55)], .int .i64 0]) ∧ Below w.heap.size w w' := by
  have hA := (Below.refl w.heap.size w).alloc (Nat.le_refl _) (.cells #[.bool false, .int .u64 0, .int .i64 0] 76)
  have HA := Lib.hid (And.intro hA (DecAt.new w (.bool false) (.int .u64 0) (.int .i64 0) 76))
  have HT := Lib.hid hT
  have hbits := run_bits 4591870180066957722
  clear hA hT
  go_enter Tryz.func28, Tryz.ntmps28
  go_wp2_with fail
  refine (of_zero _).mono ?_
  rintro e W1 ⟨rfl, b1⟩
  have H1 := Lib.hid (And.intro (back_of' HA.out.1 b1) (HA.out.2.kept (c := w.heap.size + 1) (Kept.of_below b1) (by omega)))
  clear b1 HA
  go_wp2_with fail
  refine (parts_tenth W1 (HT.out.below H1.out.1)).mono ?_
  rintro e W2 ⟨rfl, b2⟩
  have H2 := Lib.hid (And.intro (back_of' H1.out.1 b2) (H1.out.2.kept (c := W1.heap.size) (Kept.of_below b2) (Nat.ne_of_lt H1.out.2.1)))
  clear b2 H1
  obtain ⟨-, r0, r1, r2, g0, g1, g2⟩ := id H2.out.2
  go_wp2_with fail
  exact bodyPost_ret (by simp [results, Tryz.results28, go_sem, r0, r1, r2]) rfl ⟨rfl, by
    repeat' (first | exact H2.out.1 | apply Below.setCell)
    all_goals (show w.heap.size ≤ w.heap.size; omega)⟩
end Go.Proofs.YtbidlkmagbjllaaGreatDoor.Nb

namespace Go.Proofs.YtbidlkmagbjllaaGreatDoor.Nb
open Go Go.RowKit

set_option maxRecDepth 8000 in
theorem inf_up_ten (w : World) : Calls Tryz.prog 17 #[.float .f64 4621819117588971520, .int .i64 1] w fun e w' => e = .returned (.bool false) ∧ w' = w := by
  have hneg : ∀ W, (Op.unary .neg (.float .f64 4621819117588971520)).run Tryz.prog W = .ok (.float .f64 13845191154443747328) W := fun _ => rfl
  go_enter Tryz.func17, Tryz.ntmps17
  go_wp2_with fail
  go_ret
  exact ⟨rfl, rfl⟩

set_option maxRecDepth 8000 in
theorem inf_down_ten (w : World) : Calls Tryz.prog 17 #[.float .f64 4621819117588971520, .int .i64 (-1)] w fun e w' => e = .returned (.bool false) ∧ w' = w := by
  have hneg : ∀ W, (Op.unary .neg (.float .f64 4621819117588971520)).run Tryz.prog W = .ok (.float .f64 13845191154443747328) W := fun _ => rfl
  go_enter Tryz.func17, Tryz.ntmps17
  go_wp2_with fail
  go_ret
  exact ⟨rfl, rfl⟩

set_option maxRecDepth 8000 in
theorem special_ten (w : World) : Calls Tryz.prog 26 #[.float .f64 4621819117588971520] w fun e w' => e = .returned (.tuple #[.string ⟨#[]⟩, .bool false]) ∧ w' = w := by
  go_enter Tryz.func26, Tryz.ntmps26
  go_wp2_with fail
  refine (inf_up_ten w).mono ?_
  rintro e w1 ⟨rfl, hw⟩
  obtain rfl := hw.symm
  go_wp2_with fail
  refine (inf_down_ten w).mono ?_
  rintro e w1 ⟨rfl, hw⟩
  obtain rfl := hw.symm
  go_wp2_with fail
  go_ret2
  exact ⟨rfl, rfl⟩
set_option maxRecDepth 8000 in
theorem signbit_ten (w : World) : Calls Tryz.prog 70 #[.float .f64 4621819117588971520] w fun e w' => e = .returned (.bool false) ∧ w' = w := by
  have hb := run_bits 4621819117588971520
  go_enter Tryz.func70, Tryz.ntmps70
  go_wp2_with fail
  go_ret
  exact ⟨rfl, rfl⟩
set_option maxRecDepth 8000 in
theorem begun_ten (w : World) : Calls Tryz.prog 27 #[.float .f64 4621819117588971520] w fun e w' => e = .returned (.pointer (some ⟨w.heap.size, 0, none⟩)) ∧ Bld w' w.heap.size w.heap.size [] ∧ Below w.heap.size w w' := by
  have HB := Lib.hid (And.intro (Bld.new w) ((Below.refl w.heap.size w).alloc (Nat.le_refl _) (.cells #[.pointer none, .slice none 0 0] 63)))
  go_enter Tryz.func27, Tryz.ntmps27
  go_wp2_with fail
  refine (signbit_ten _).mono ?_
  rintro e w1 ⟨rfl, rfl⟩
  go_wp2_with fail
  go_ret
  exact ⟨rfl, HB.out.1, HB.out.2⟩

set_option maxRecDepth 8000 in
theorem inf_up_tenth (w : World) : Calls Tryz.prog 17 #[.float .f64 4591870180066957722, .int .i64 1] w fun e w' => e = .returned (.bool false) ∧ w' = w := by
  have hneg : ∀ W, (Op.unary .neg (.float .f64 4591870180066957722)).run Tryz.prog W = .ok (.float .f64 13815242216921733530) W := fun _ => rfl
  go_enter Tryz.func17, Tryz.ntmps17
  go_wp2_with fail
  go_ret
  exact ⟨rfl, rfl⟩

set_option maxRecDepth 8000 in
theorem inf_down_tenth (w : World) : Calls Tryz.prog 17 #[.float .f64 4591870180066957722, .int .i64 (-1)] w fun e w' => e = .returned (.bool false) ∧ w' = w := by
  have hneg : ∀ W, (Op.unary .neg (.float .f64 4591870180066957722)).run Tryz.prog W = .ok (.float .f64 13815242216921733530) W := fun _ => rfl
  go_enter Tryz.func17, Tryz.ntmps17
  go_wp2_with fail
  go_ret
  exact ⟨rfl, rfl⟩

set_option maxRecDepth 8000 in
theorem special_tenth (w : World) : Calls Tryz.prog 26 #[.float .f64 4591870180066957722] w fun e w' => e = .returned (.tuple #[.string ⟨#[]⟩, .bool false]) ∧ w' = w := by
  go_enter Tryz.func26, Tryz.ntmps26
  go_wp2_with fail
  refine (inf_up_tenth w).mono ?_
  rintro e w1 ⟨rfl, hw⟩
  obtain rfl := hw.symm
  go_wp2_with fail
  refine (inf_down_tenth w).mono ?_
  rintro e w1 ⟨rfl, hw⟩
  obtain rfl := hw.symm
  go_wp2_with fail
  go_ret2
  exact ⟨rfl, rfl⟩
set_option maxRecDepth 8000 in
theorem signbit_tenth (w : World) : Calls Tryz.prog 70 #[.float .f64 4591870180066957722] w fun e w' => e = .returned (.bool false) ∧ w' = w := by
  have hb := run_bits 4591870180066957722
  go_enter Tryz.func70, Tryz.ntmps70
  go_wp2_with fail
  go_ret
  exact ⟨rfl, rfl⟩
set_option maxRecDepth 8000 in
theorem begun_tenth (w : World) : Calls Tryz.prog 27 #[.float .f64 4591870180066957722] w fun e w' => e = .returned (.pointer (some ⟨w.heap.size, 0, none⟩)) ∧ Bld w' w.heap.size w.heap.size [] ∧ Below w.heap.size w w' := by
  have HB := Lib.hid (And.intro (Bld.new w) ((Below.refl w.heap.size w).alloc (Nat.le_refl _) (.cells #[.pointer none, .slice none 0 0] 63)))
  go_enter Tryz.func27, Tryz.ntmps27
  go_wp2_with fail
  refine (signbit_tenth _).mono ?_
  rintro e w1 ⟨rfl, rfl⟩
  go_wp2_with fail
  go_ret
  exact ⟨rfl, HB.out.1, HB.out.2⟩

/-- the builder and the parts beside it -/
structure HexL (w W : World) (d : Nat) (l : List UInt8) : Prop where
  bd : Bld W w.heap.size w.heap.size l
  b : Below w.heap.size w W
  h : W.heap[d]? = some (.cells #[.bool false, .int .u64 5, .int .i64 1] 76 (0, 0))
  ne : d ≠ w.heap.size
theorem HexL.next {w W W' : World} {d : Nat} {l m : List UInt8} (h : HexL w W d l) (q : Bld W' w.heap.size w.heap.size m) (b : Below w.heap.size W W') (k : Lib.OthersKept 5 (some w.heap.size) W W') : HexL w W' d m :=
  ⟨q, h.b.trans b, others_dec k h.ne _ (by decide) h.h, h.ne⟩
theorem hex_idx : ∀ W, (Instr.index 9 (.string ⟨#[48, 49, 50, 51, 52, 53, 54, 55, 56, 57, 97, 98, 99, 100, 101, 102]⟩) (.int .u64 4)).run Tryz.prog W = .ok (.int .u8 52) W := by
  intro W
  rw [run_index_string W 9 _ .u64 4 (by kernel_rfl), dif_pos (by decide)]
  rfl
theorem dig3 : (⟨(Lib.decDigits 3).toArray⟩ : ByteArray) = ⟨#[51]⟩ := by
  rw [Lib.decDigits_eq, Lib.nDigits_small (by omega)]; rfl
set_option maxRecDepth 8000 in
set_option maxHeartbeats 2000000 in
theorem hex_ten (w : World) (hT : Tab64 w) : Calls Tryz.prog 9 #[.float .f64 4621819117588971520] w fun e w' => e = .returned (.string ⟨#[48, 120, 49, 46, 52, 112, 51]⟩) ∧ Below w.heap.size w w' := by
  have HT := Lib.hid hT
  clear hT
  go_enter Tryz.func9, Tryz.ntmps9
  go_wp2_with fail
  refine (special_ten w).mono ?_
  rintro e w1 ⟨rfl, hw⟩
  obtain rfl := hw.symm
  go_wp2_with fail
  refine (begun_ten w).mono ?_
  rintro e w1 ⟨rfl, d1, b1⟩
  have H1 := Lib.hid (And.intro d1 b1)
  clear d1 b1
  go_wp2_with fail
  refine (Parts_ten w1 (HT.out.below H1.out.2)).mono ?_
  rintro e w2 ⟨rfl, b2⟩
  have hA := (Below.refl w2.heap.size w2).alloc (Nat.le_refl _) (.cells #[.bool false, .int .u64 5, .int .i64 1] 76)
  have HL : Hid (HexL w (w2.alloc (.cells #[.bool false, .int .u64 5, .int .i64 1] 76)) w2.heap.size []) := Lib.hid ⟨H1.out.1.below (back_of' b2 hA), back_of' H1.out.2 (back_of' b2 hA), by show (w2.heap.push _)[w2.heap.size]? = _; simp, Nat.ne_of_gt (Nat.lt_of_lt_of_le H1.out.1.lt b2.size)⟩
  clear b2 hA H1
  have hc1 := Lib.cell_of_heap HL.out.h 1
  go_wp2_with fail
  refine (len_bits 5 3 _ (by omega) (by decide)).mono ?_
  rintro e w3 ⟨rfl, rfl⟩
  clear hc1
  go_wp2_with fail
  obtain ⟨W3, hW3⟩ : ∃ W3, w2.alloc (.cells #[.bool false, .int .u64 5, .int .i64 1] 76) = W3 := ⟨_, rfl⟩
  rw [hW3] at HL
  rw [hW3]
  clear hW3
  refine (wstring_k w.heap.size w.heap.size [] ⟨#[48, 120, 49]⟩ W3 HL.out.bd (by simp) (by decide) HL.out.b.size).mono ?_
  rintro e w4 ⟨rfl, d4, b4, k4⟩
  have HL := Lib.hid (HL.out.next d4 b4 k4)
  clear d4 b4 k4
  go_wp2_with fail
  refine (wbyte_k w.heap.size w.heap.size _ 46 w4 HL.out.bd (by decide) HL.out.b.size 46 rfl).mono ?_
  rintro e w5 ⟨rfl, d5, b5, k5⟩
  have HL := Lib.hid (HL.out.next d5 b5 k5)
  clear d5 b5 k5
  have hc1 := Lib.cell_of_heap HL.out.h 1
  have hidx := hex_idx
  go_wp2_with fail
  clear hc1
  go_loopw [9] (fun v wr => ∃ l, Hid (HexL w wr w2.heap.size l) ∧ ((v = .int .u64 4611686018427387904 ∧ Hid (l = [48, 120, 49, 46])) ∨ (v = .int .u64 0 ∧ Hid (l = [48, 120, 49, 46, 52])))) (fun v _ => (intOf v).toNat)
  case atStart => exact ⟨_, HL, .inl ⟨rfl, Lib.hid rfl⟩⟩
  case round =>
    obtain ⟨l, hl, ⟨rfl, hll⟩ | ⟨rfl, hll⟩⟩ := hrel
    · go_wp2_with fail
      refine (wbyte_k w.heap.size w.heap.size l 52 wr hl.out.bd (by rw [hll.out]; decide) hl.out.b.size 52 rfl).mono ?_
      rintro e w6 ⟨rfl, d6, b6, k6⟩
      have HL6 := Lib.hid (hl.out.next d6 b6 k6)
      clear d6 b6 k6
      go_wp2_with fail
      go_roundw
      case rel => exact ⟨_, HL6, .inr ⟨rfl, Lib.hid (by rw [hll.out]; rfl)⟩⟩
      case measure => simp [intOf, IntKind.wrap_u64]
    · go_wp2_with fail
      refine (wbyte_k w.heap.size w.heap.size l 112 wr hl.out.bd (by rw [hll.out]; decide) hl.out.b.size 112 rfl).mono ?_
      rintro e w7 ⟨rfl, d7, b7, k7⟩
      have HL7 := Lib.hid (hl.out.next d7 b7 k7)
      clear d7 b7 k7
      have hc2 := Lib.cell_of_heap HL7.out.h 2
      go_wp2_with fail
      refine (Tryz.strconv_Itoa_small 3 (by omega) w7).mono ?_
      rw [dig3]
      rintro e w8 ⟨rfl, hw⟩
      obtain rfl := hw.symm
      go_wp2_with fail
      refine (wstring_k w.heap.size w.heap.size _ ⟨#[51]⟩ w7 HL7.out.bd (by rw [hll.out]; decide) (by decide) HL7.out.b.size).mono ?_
      rintro e w9 ⟨rfl, d9, b9, k9⟩
      have HL9 := Lib.hid (HL7.out.next d9 b9 k9)
      clear d9 b9 k9
      go_wp2_with fail
      refine (bstring w.heap.size w.heap.size _ w9 HL9.out.bd HL9.out.b.size).mono ?_
      rintro e w10 ⟨rfl, b10⟩
      have HF := Lib.hid (HL9.out.b.trans b10)
      clear b10
      go_wp2_with fail
      go_ret
      obtain rfl := hll.out
      exact ⟨rfl, HF.out⟩
end Go.Proofs.YtbidlkmagbjllaaGreatDoor.Nb

namespace Go.Proofs.YtbidlkmagbjllaaGreatDoor.Nb
open Go Go.RowKit

theorem sh_idx : ∀ W, (Instr.index 9 (.string ⟨#[49]⟩) (.int .i64 0)).run Tryz.prog W = .ok (.int .u8 49) W := by
  intro W
  rw [run_index_string W 9 _ .i64 0 (by kernel_rfl), dif_pos (by decide)]
  rfl
theorem itoa_m1 : Lib.itoa (-1) = [45, 49] := by
  simp [Lib.itoa, Lib.decDigits_eq, Lib.nDigits_small]
  rfl
theorem sh_trim : (⟨(Lib.trimRightB ByteArray.empty.data.toList 48).toArray⟩ : ByteArray) = ⟨#[]⟩ := by decide

set_option maxRecDepth 8000 in
set_option maxHeartbeats 1000000 in
theorem short_ex (B b : Nat) (w : World) (hb : Bld w B b []) (hB : B ≤ w.heap.size) (hP : TabP w) (hg : 1 < B) :
    Calls Tryz.prog 35 #[.pointer (some ⟨b, 0, none⟩), .string ⟨#[49]⟩, .int .i64 (-1)] w fun e w' => e = .returned (.string ⟨#[49, 101, 45, 49]⟩) ∧ Below B w w' := by
  have hidx := sh_idx
  have HI := Lib.hid (And.intro hb (And.intro hB hP))
  clear hb hB hP
  go_enter Tryz.func35, Tryz.ntmps35
  go_wp2_with fail
  refine (wbyte B b [] 49 w HI.out.1 (by simp) HI.out.2.1 49 rfl).mono ?_
  rintro e w1 ⟨rfl, d1, b1⟩
  have H1 := Lib.hid (And.intro d1 b1)
  clear d1 b1
  go_wp2_with fail
  refine (Tryz.strings_TrimRight_one ByteArray.empty 48 (by decide) w1 (by decide)).mono ?_
  rw [sh_trim]
  rintro e w2 ⟨rfl, hw⟩
  obtain rfl := hw.symm
  go_wp2_with fail
  have hz1 : B ≤ w1.heap.size := Nat.le_trans HI.out.2.1 H1.out.2.size
  refine (wbyte B b _ 101 w1 H1.out.1 (by decide) hz1 101 rfl).mono ?_
  rintro e w3 ⟨rfl, d3, b3⟩
  have H3 := Lib.hid (And.intro d3 (H1.out.2.trans b3))
  clear d3 b3
  go_wp2_with fail
  refine (itoa_any (-1) w3 (by omega) (by omega) (HI.out.2.2.below H3.out.2 hg)).mono ?_
  rw [itoa_m1]
  rintro e w4 ⟨rfl, b4⟩
  have hz3 : B ≤ w3.heap.size := Nat.le_trans HI.out.2.1 H3.out.2.size
  have H4 := Lib.hid (And.intro (H3.out.1.below b4) (H3.out.2.trans (b4.mono hz3)))
  clear b4
  go_wp2_with fail
  refine (wstring B b _ ⟨#[45, 49]⟩ w4 H4.out.1 (by decide) (by decide) (Nat.le_trans HI.out.2.1 H4.out.2.size)).mono ?_
  rintro e w5 ⟨rfl, d5, b5⟩
  have H5 := Lib.hid (And.intro d5 (H4.out.2.trans b5))
  clear d5 b5
  go_wp2_with fail
  refine (bstring B b _ w5 H5.out.1 (Nat.le_trans HI.out.2.1 H5.out.2.size)).mono ?_
  rintro e w6 ⟨rfl, b6⟩
  have HF := Lib.hid (H5.out.2.trans b6)
  clear b6
  go_wp2_with fail
  go_ret
  exact ⟨rfl, HF.out⟩

set_option maxRecDepth 8000 in
set_option maxHeartbeats 1000000 in
theorem Short_ex (w : World) (hT : Tab64 w) (hP : TabP w) : Calls Tryz.prog 10 #[.float .f64 4591870180066957722] w fun e w' => e = .returned (.string ⟨#[49, 101, 45, 49]⟩) ∧ Below w.heap.size w w' := by
  have hmf : ∀ (fn : Fn) (first cap : Array Value) (w : World), (Instr.makeFunc fn first cap).run Tryz.prog w = .ok (.func fn first cap) w := fun _ _ _ _ => rfl
  have hA := (Below.refl w.heap.size w).alloc (Nat.le_refl _) (.cells #[.float .f64 4591870180066957722] 28)
  have hc : (w.alloc (.cells #[.float .f64 4591870180066957722] 28)).cell? ⟨w.heap.size, 0, none⟩ = some (.float .f64 4591870180066957722) := by simp [go_sem]
  obtain ⟨W, hW⟩ : ∃ W, w.alloc (.cells #[.float .f64 4591870180066957722] 28) = W := ⟨_, rfl⟩
  have hws : w.heap.size < W.heap.size := by rw [← hW]; simp
  rw [hW] at hA hc
  have HA := Lib.hid hA
  have HT := Lib.hid (And.intro hT hP)
  clear hA hT hP
  go_enter Tryz.func10, Tryz.ntmps10
  go_wp2_with fail
  refine (special_tenth W).mono ?_
  rintro e w1 ⟨rfl, hw⟩
  obtain rfl := hw.symm
  go_wp2_with fail
  refine (begun_tenth W).mono ?_
  rintro e w1 ⟨rfl, d1, b1⟩
  have c1 := (b1.cell (p := ⟨w.heap.size, 0, none⟩) (by exact hws)).trans hc
  have H1 := Lib.hid (And.intro d1 b1)
  clear d1 b1 hc
  go_wp2_with fail
  refine (Parts_tenth w1 (HT.out.1.below (back_of' HA.out H1.out.2))).mono ?_
  rintro e w2 ⟨rfl, b2⟩
  have hk := b2.trans (((Below.refl w2.heap.size w2).alloc (Nat.le_refl _) (.cells #[.bool false, .int .u64 3602879701896397, .int .i64 (-55)] 76)).mono b2.size)
  have c2 := (hk.cell (p := ⟨w.heap.size, 0, none⟩) (by exact Nat.lt_of_lt_of_le hws H1.out.2.size)).trans c1
  have H2 := Lib.hid (And.intro (H1.out.1.below hk) (back_of' H1.out.2 hk))
  clear b2 hk c1 H1
  go_wp2_with fail
  refine (amount_ex _).mono ?_
  rintro e w3 ⟨z, rfl, hz, r3, s3, b3⟩
  have c3 := (b3.cell (p := ⟨w.heap.size, 0, none⟩) (by exact Nat.lt_of_lt_of_le hws H2.out.2.size)).trans c2
  have H3 := Lib.hid (And.intro (H2.out.1.below b3) (And.intro (back_of' H2.out.2 b3) r3))
  clear r3 s3 b3 c2 H2
  have HFe := Lib.hid (fewest_ex z w.heap.size w3 H3.out.2.2 c3 (Nat.lt_of_lt_of_le hws H3.out.2.1.size))
  clear c3
  go_wp2_with fail
  refine HFe.out.mono ?_
  rintro e w4 ⟨rfl, b4⟩
  have H4 := Lib.hid (And.intro (H3.out.1.below b4) (back_of' H3.out.2.1 b4))
  clear b4 H3 HFe
  go_wp2_with fail
  refine (short_ex W.heap.size W.heap.size w4 H4.out.1 H4.out.2.size (HT.out.2.below (back_of' HA.out H4.out.2) HT.out.2.2) (Nat.lt_trans HT.out.2.2 hws)).mono ?_
  rintro e w5 ⟨rfl, b5⟩
  have HF := Lib.hid (back_of' HA.out (H4.out.2.trans b5))
  clear b5
  go_wp2_with fail
  go_ret
  exact ⟨rfl, HF.out⟩
end Go.Proofs.YtbidlkmagbjllaaGreatDoor.Nb

namespace Go.Proofs.YtbidlkmagbjllaaGreatDoor.Nb
open Go Go.RowKit

theorem body_ex : bodyL 12000345 = [49, 50, 46, 48, 48, 48, 51, 52, 53] := by
  unfold bodyL
  rw [Lib.decDigits_eq, show 12000345 / 1000000 = 12 by decide, Lib.nDigits_big (by omega), show 12 / 10 = 1 by decide, Lib.nDigits_small (by omega)]
  rfl
set_option maxRecDepth 8000 in
set_option maxHeartbeats 1000000 in
theorem awake_any (w : World) (hT : Tab64 w) (hP : TabP w) : Calls Tryz.prog 4 #[] w fun e w' => e = .returned (.bool true) ∧ Below w.heap.size w w' := by
  have HT := Lib.hid (And.intro hT hP)
  have HX := Lib.hid (parse_ex w)
  have hS : exS = ⟨#[48, 48, 55, 46, 53, 48, 101, 48, 48]⟩ := rfl
  rw [hS] at HX
  clear hT hP hS
  go_enter Tryz.func4, Tryz.ntmps4
  go_wp2_with fail
  refine HX.out.mono ?_
  rintro e w1 ⟨rfl, b1⟩
  have H1 := Lib.hid (And.intro b1 (And.intro (HT.out.1.below b1) (HT.out.2.below b1 HT.out.2.2)))
  clear b1 HX
  go_wp2_with fail
  have HTi := Lib.hid (time_pos 12000345 w1 (by omega) H1.out.2.2)
  rw [body_ex] at HTi
  refine HTi.out.mono ?_
  rintro e w2 ⟨rfl, b2⟩
  have H2 := Lib.hid (And.intro (back_of' H1.out.1 b2) (And.intro (H1.out.2.1.below b2) (H1.out.2.2.below b2 H1.out.2.2.2)))
  clear b2 H1 HTi
  go_wp2_with fail
  refine (hex_ten w2 H2.out.2.1).mono ?_
  rintro e w3 ⟨rfl, b3⟩
  have H3 := Lib.hid (And.intro (back_of' H2.out.1 b3) (And.intro (H2.out.2.1.below b3) (H2.out.2.2.below b3 H2.out.2.2.2)))
  clear b3 H2
  go_wp2_with fail
  refine (Short_ex w3 H3.out.2.1 H3.out.2.2).mono ?_
  rintro e w4 ⟨rfl, b4⟩
  have H4 := Lib.hid (back_of' H3.out.1 b4)
  clear b4 H3
  go_wp2_with fail
  go_ret
  exact ⟨rfl, H4.out⟩
end Go.Proofs.YtbidlkmagbjllaaGreatDoor.Nb
