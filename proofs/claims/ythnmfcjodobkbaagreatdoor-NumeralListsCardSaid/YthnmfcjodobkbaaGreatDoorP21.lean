/- E10 in one text. -/
import Derived.Test.YthnmfcjodobkbaaGreatDoorP20
import Derived.Lib.TrailingZeros

namespace Go.Proofs.YthnmfcjodobkbaaGreatDoor.Nb
open Go Go.RowKit

/-- the table lies in its variable -/
def Tab64 (w : World) : Prop := 4 < w.heap.size ∧ ∀ j, j < 64 → w.cell? ⟨4, j, none⟩ = some (.int .u8 (Lib.deBruijn64tab.getD j 0 : Nat))
theorem Tab64.below {w w' : World} (h : Tab64 w) (hb : Below w.heap.size w w') : Tab64 w' :=
  ⟨Nat.lt_of_lt_of_le h.1 hb.size, fun j hj => (hb.cell (by exact h.1)).trans (h.2 j hj)⟩
set_option maxRecDepth 8000 in
theorem tz64_core (x y p z k idx : Nat) (w : World) (hx0 : ((x : Int) == 0) = false) (hw1 : IntKind.u64.wrap (-(x : Int)) = (y : Int)) (hw2 : bits BinOp.and IntKind.u64 (x : Int) (y : Int) = (p : Int))
    (hw3 : IntKind.u64.wrap ((p : Int) * 285870213051353865) = (z : Int)) (hw4 : (z : Int) / 288230376151711744 = (idx : Int))
    (hi : idx < 64) (hk : k < 64) (hcell : w.cell? ⟨4, idx, none⟩ = some (.int .u8 (k : Nat))) :
    Calls Tryz.prog 122 #[.int .u64 (x : Int)] w fun e w' => e = .returned (.int .i64 (k : Int)) ∧ w = w' := by
  go_enter Tryz.func122, Tryz.ntmps122
  go_wp2_with fail
  go_ret
  exact ⟨rfl, rfl⟩
theorem tz64_any (x k : Nat) (w : World) (h0 : x ≠ 0) (h1 : x < 18446744073709551616) (hT : Tab64 w) (hk : Lib.ctz 64 x = k) :
    Calls Tryz.prog 122 #[.int .u64 (x : Int)] w fun e w' => e = .returned (.int .i64 (k : Int)) ∧ w = w' := by
  subst hk
  obtain ⟨hlow, hk⟩ := Lib.lowest_bit 64 x h0 h1
  obtain ⟨hi, htab⟩ := Lib.deBruijn64_at _ hk
  have hcell := hT.2 _ hi
  rw [htab] at hcell
  refine tz64_core x (18446744073709551616 - x) (2 ^ Lib.ctz 64 x) (2 ^ Lib.ctz 64 x * 285870213051353865 % 18446744073709551616) _ _ w (by simp; omega) (by rw [IntKind.wrap_u64]; omega) ?_ ?_ ?_ hi hk hcell
  · rw [u64_and_nat _ _ (by omega) (by omega), show x &&& (18446744073709551616 - x) = 2 ^ Lib.ctz 64 x from hlow]
  · generalize 2 ^ Lib.ctz 64 x = P
    rw [IntKind.wrap_u64]
    omega
  · generalize 2 ^ Lib.ctz 64 x * 285870213051353865 % 18446744073709551616 = P
    omega
theorem of_idx : ∀ W, (Instr.index 176 (.agg #[.int .u64 52, .int .i64 2047, .int .i64 1075, .int .u64 23, .int .i64 255, .int .i64 150]) (.int .i64 0)).run Tryz.prog W = .ok (.agg #[.int .u64 52, .int .i64 2047, .int .i64 1075]) W := by
  intro W
  kernel_rfl
set_option maxRecDepth 8000 in
theorem of_zero (w : World) : Calls Tryz.prog 72 #[.int .i64 0] w fun e w' => e = .returned (.agg #[.int .u64 52, .int .i64 2047, .int .i64 1075]) ∧ Below w.heap.size w w' := by
  have hidx := of_idx
  go_enter Tryz.func72, Tryz.ntmps72
  go_wp2_with fail
  exact bodyPost_ret (by simp [results, Tryz.results72, go_sem]) rfl ⟨rfl, (Below.refl _ _).alloc (Nat.le_refl _) _⟩

/-- the parts of a number, under way -/
structure Par (w W : World) (dB : Nat) (v1 v2 : Value) : Prop where
  r : DecAt W (w.heap.size + 1) (.bool false) (.int .u64 0) (.int .i64 0)
  d : DecAt W dB (.bool false) v1 v2
  f : Fmt W w.heap.size
  b : Below w.heap.size w W
  h : w.heap.size + 1 < dB
theorem Par.below {w W W' : World} {dB : Nat} {v1 v2 : Value} (h : Par w W dB v1 v2) (k : Below W.heap.size W W') : Par w W' dB v1 v2 :=
  ⟨h.r.kept (c := W.heap.size) (Kept.of_below k) (Nat.ne_of_lt h.r.1), h.d.kept (c := W.heap.size) (Kept.of_below k) (Nat.ne_of_lt h.d.1), h.f.below k, back_of' h.b k, h.h⟩
theorem Fmt.kept {w w' : World} {b c : Nat} (h : Fmt w b) (k : Kept w w' c) (hne : b ≠ c) : Fmt w' b :=
  ⟨(k.cell (p := ⟨b, 0, none⟩) h.2.2.2 hne).trans h.1, (k.cell (p := ⟨b, 1, none⟩) h.2.2.2 hne).trans h.2.1, (k.cell (p := ⟨b, 2, none⟩) h.2.2.2 hne).trans h.2.2.1, Nat.lt_of_lt_of_le h.2.2.2 k.size⟩
theorem Par.set1 {w W : World} {dB : Nat} {v1 v2 : Value} (h : Par w W dB v1 v2) (v : Value) : Par w (W.setCell ⟨dB, 1, none⟩ v) dB v v2 := by
  have q := h.h
  exact ⟨h.r.kept ((Kept.refl W dB).setCell (o := 1) v) (by omega), h.d.set1 v, h.f.kept ((Kept.refl W dB).setCell (o := 1) v) (by omega), h.b.setCell (p := ⟨dB, 1, none⟩) (by show w.heap.size ≤ dB; omega) v, h.h⟩
theorem Par.set2 {w W : World} {dB : Nat} {v1 v2 : Value} (h : Par w W dB v1 v2) (v : Value) : Par w (W.setCell ⟨dB, 2, none⟩ v) dB v1 v := by
  have q := h.h
  exact ⟨h.r.kept ((Kept.refl W dB).setCell (o := 2) v) (by omega), h.d.set2 v, h.f.kept ((Kept.refl W dB).setCell (o := 2) v) (by omega), h.b.setCell (p := ⟨dB, 2, none⟩) (by show w.heap.size ≤ dB; omega) v, h.h⟩

set_option maxRecDepth 8000 in
set_option maxHeartbeats 2000000 in
theorem parts_ten (w : World) (hT : Tab64 w) : Calls Tryz.prog 70 #[.int .u64 4621819117588971520, (.agg #[.int .u64 52, .int .i64 2047, .int .i64 1075])] w fun e w' => e = .returned (.tuple #[.agg #[.bool false, .int .u64 5, .int .i64 (1)], .int .i64 0]) ∧ Below w.heap.size w w' := by
  have hA1 := (Below.refl w.heap.size w).alloc (Nat.le_refl _) (.cells #[.int .u64 52, .int .i64 2047, .int .i64 1075] 124)
  have hA2 := hA1.alloc hA1.size (.cells #[.bool false, .int .u64 0, .int .i64 0] 83)
  have hF := (Fmt.new w 124).below ((Below.refl _ _).alloc (Nat.le_refl _) (.cells #[.bool false, .int .u64 0, .int .i64 0] 83))
  have hR : DecAt ((w.alloc (.cells #[.int .u64 52, .int .i64 2047, .int .i64 1075] 124)).alloc (.cells #[.bool false, .int .u64 0, .int .i64 0] 83)) (w.heap.size + 1) (.bool false) (.int .u64 0) (.int .i64 0) := by
    have := DecAt.new (w.alloc (.cells #[.int .u64 52, .int .i64 2047, .int .i64 1075] 124)) (.bool false) (.int .u64 0) (.int .i64 0) 83
    simpa using this
  have HSp := Lib.hid (split_ten ((w.alloc (.cells #[.int .u64 52, .int .i64 2047, .int .i64 1075] 124)).alloc (.cells #[.bool false, .int .u64 0, .int .i64 0] 83)))
  have HA := Lib.hid (And.intro hA2 (And.intro hF hR))
  have HT := Lib.hid hT
  have hor : bits .or .u64 1125899906842624 4503599627370496 = 5629499534213120 := by decide
  clear hA1 hA2 hF hR hT
  go_enter Tryz.func70, Tryz.ntmps70
  go_wp2_with fail
  refine HSp.out.mono ?_
  rintro e W1 ⟨rfl, b1⟩
  have hs1 := HA.out.2.2.1
  have hl1 : w.heap.size + 1 < W1.heap.size := Nat.lt_of_lt_of_le hs1 b1.size
  have HP : Hid (Par w (W1.alloc (.cells #[.bool false, .int .u64 1125899906842624, .int .i64 (-49)] 83)) W1.heap.size (.int .u64 1125899906842624) (.int .i64 (-49))) := Lib.hid (by
    have k1 := b1
    have hk : Below W1.heap.size W1 (W1.alloc (.cells #[.bool false, .int .u64 1125899906842624, .int .i64 (-49)] 83)) := (Below.refl _ _).alloc (Nat.le_refl _) _
    have k := back_of' k1 hk
    exact ⟨HA.out.2.2.kept (c := (w.alloc (.cells #[.int .u64 52, .int .i64 2047, .int .i64 1075] 124)).heap.size + 1) (Kept.of_below k) (by simp), DecAt.new W1 _ _ _ _, HA.out.2.1.below k, back_of' HA.out.1 k, hl1⟩)
  obtain ⟨f0, f1, f2, fl⟩ := HA.out.2.1.below b1
  clear b1 HA HSp hs1
  go_wp2_with fail
  refine (class_ten _).mono ?_
  rintro e W3 ⟨rfl, b3⟩
  have HP := Lib.hid (HP.out.below b3)
  clear b3 f0 f1 f2 fl
  obtain ⟨-, d0, d1, d2, q0, q1, q2⟩ := id HP.out.d
  obtain ⟨f0, f1, f2, fl⟩ := HP.out.f
  go_upto_block 0 with (fail)
  have hcur : Below W3.heap.size W3 W3.drew := (Below.refl _ _).drew
  go_cut [5] from 28 to 47 (fun v wx => v = .int .i64 0 ∧ Hid (Par w wx W1.heap.size (.int .u64 5629499534213120) (.int .i64 (-49))))
  case first =>
    go_wp2_with fail
    go_region_with (first | (go_at_call 121; refine (hidden_f _).mono ?_; rintro e W4 ⟨rfl, b4⟩; have HP4 := Lib.hid (HP.out.below (back_of' hcur b4)); obtain ⟨-, y0, y1, y2, p0, p1, p2⟩ := id HP4.out.d; clear b4) | fail)
    all_goals go_wp2_with fail
    all_goals go_meet
    all_goals exact ⟨rfl, Lib.hid (HP4.out.set1 _)⟩
  case rest =>
    obtain ⟨rfl, HP5⟩ := hcut
    clear d0 d1 d2 q0 q1 q2 f0 f1 f2 fl HP hcur
    obtain ⟨-, d0, d1, d2, q0, q1, q2⟩ := id HP5.out.d
    go_wp2_with fail
    refine (tz64_any 5629499534213120 50 _ (by omega) (by omega) (HT.out.below ⟨HP5.out.b.os, HP5.out.b.tape, HP5.out.b.output, HP5.out.b.size, HP5.out.b.block⟩) (by decide)).mono ?_
    rintro e W6 ⟨rfl, hw⟩
    obtain rfl := hw
    go_upto_region 15 with (fail)
    have HP8 := Lib.hid ((HP5.out.set1 (.int .u64 5)).set2 (.int .i64 (1)))
    clear d0 d1 d2 q0 q1 q2 HP5
    generalize (wc.setCell ⟨W1.heap.size, 1, none⟩ (.int .u64 5)).setCell ⟨W1.heap.size, 2, none⟩ (.int .i64 (1)) = W8 at *
    obtain ⟨-, d0, d1, d2, q0, q1, q2⟩ := id HP8.out.d
    obtain ⟨-, r0, r1, r2, g0, g1, g2⟩ := id HP8.out.r
    go_wp2_with fail
    exact bodyPost_ret (by simp [results, Tryz.results70, go_sem, r0, r1, r2]) rfl ⟨rfl, ((HP8.out.b.setCell (p := ⟨w.heap.size + 1, 0, none⟩) (Nat.le_succ _) _).setCell (p := ⟨w.heap.size + 1, 1, none⟩) (Nat.le_succ _) _).setCell (p := ⟨w.heap.size + 1, 2, none⟩) (Nat.le_succ _) _⟩

set_option maxRecDepth 8000 in
set_option maxHeartbeats 1000000 in
theorem Parts_ten (w : World) (hT : Tab64 w) : Calls Tryz.prog 39 #[.float .f64 4621819117588971520] w fun e w' => e = .returned (.tuple #[.agg #[.bool false, .int .u64 5, .int .i64 (1)], .int .i64 0]) ∧ Below w.heap.size w w' := by
  have hA := (Below.refl w.heap.size w).alloc (Nat.le_refl _) (.cells #[.bool false, .int .u64 0, .int .i64 0] 83)
  have HA := Lib.hid (And.intro hA (DecAt.new w (.bool false) (.int .u64 0) (.int .i64 0) 83))
  have HT := Lib.hid hT
  have hbits := run_bits 4621819117588971520
  clear hA hT
  go_enter Tryz.func39, Tryz.ntmps39
  go_wp2_with fail
  refine (of_zero _).mono ?_
  rintro e W1 ⟨rfl, b1⟩
  have H1 := Lib.hid (And.intro (back_of' HA.out.1 b1) (HA.out.2.kept (c := w.heap.size + 1) (Kept.of_below b1) (by omega)))
  clear b1 HA
  go_wp2_with fail
  refine (parts_ten W1 (HT.out.below H1.out.1)).mono ?_
  rintro e W2 ⟨rfl, b2⟩
  have H2 := Lib.hid (And.intro (back_of' H1.out.1 b2) (H1.out.2.kept (c := W1.heap.size) (Kept.of_below b2) (Nat.ne_of_lt H1.out.2.1)))
  clear b2 H1
  obtain ⟨-, r0, r1, r2, g0, g1, g2⟩ := id H2.out.2
  go_wp2_with fail
  exact bodyPost_ret (by simp [results, Tryz.results39, go_sem, r0, r1, r2]) rfl ⟨rfl, by
    repeat' (first | exact H2.out.1 | apply Below.setCell)
    all_goals (show w.heap.size ≤ w.heap.size; omega)⟩

set_option maxRecDepth 8000 in
set_option maxHeartbeats 2000000 in
theorem parts_tenth (w : World) (hT : Tab64 w) : Calls Tryz.prog 70 #[.int .u64 4591870180066957722, (.agg #[.int .u64 52, .int .i64 2047, .int .i64 1075])] w fun e w' => e = .returned (.tuple #[.agg #[.bool false, .int .u64 3602879701896397, .int .i64 (-55)], .int .i64 0]) ∧ Below w.heap.size w w' := by
  have hA1 := (Below.refl w.heap.size w).alloc (Nat.le_refl _) (.cells #[.int .u64 52, .int .i64 2047, .int .i64 1075] 124)
  have hA2 := hA1.alloc hA1.size (.cells #[.bool false, .int .u64 0, .int .i64 0] 83)
  have hF := (Fmt.new w 124).below ((Below.refl _ _).alloc (Nat.le_refl _) (.cells #[.bool false, .int .u64 0, .int .i64 0] 83))
  have hR : DecAt ((w.alloc (.cells #[.int .u64 52, .int .i64 2047, .int .i64 1075] 124)).alloc (.cells #[.bool false, .int .u64 0, .int .i64 0] 83)) (w.heap.size + 1) (.bool false) (.int .u64 0) (.int .i64 0) := by
    have := DecAt.new (w.alloc (.cells #[.int .u64 52, .int .i64 2047, .int .i64 1075] 124)) (.bool false) (.int .u64 0) (.int .i64 0) 83
    simpa using this
  have HSp := Lib.hid (split_tenth ((w.alloc (.cells #[.int .u64 52, .int .i64 2047, .int .i64 1075] 124)).alloc (.cells #[.bool false, .int .u64 0, .int .i64 0] 83)))
  have HA := Lib.hid (And.intro hA2 (And.intro hF hR))
  have HT := Lib.hid hT
  have hor : bits .or .u64 2702159776422298 4503599627370496 = 7205759403792794 := by decide
  clear hA1 hA2 hF hR hT
  go_enter Tryz.func70, Tryz.ntmps70
  go_wp2_with fail
  refine HSp.out.mono ?_
  rintro e W1 ⟨rfl, b1⟩
  have hs1 := HA.out.2.2.1
  have hl1 : w.heap.size + 1 < W1.heap.size := Nat.lt_of_lt_of_le hs1 b1.size
  have HP : Hid (Par w (W1.alloc (.cells #[.bool false, .int .u64 2702159776422298, .int .i64 (-56)] 83)) W1.heap.size (.int .u64 2702159776422298) (.int .i64 (-56))) := Lib.hid (by
    have k1 := b1
    have hk : Below W1.heap.size W1 (W1.alloc (.cells #[.bool false, .int .u64 2702159776422298, .int .i64 (-56)] 83)) := (Below.refl _ _).alloc (Nat.le_refl _) _
    have k := back_of' k1 hk
    exact ⟨HA.out.2.2.kept (c := (w.alloc (.cells #[.int .u64 52, .int .i64 2047, .int .i64 1075] 124)).heap.size + 1) (Kept.of_below k) (by simp), DecAt.new W1 _ _ _ _, HA.out.2.1.below k, back_of' HA.out.1 k, hl1⟩)
  obtain ⟨f0, f1, f2, fl⟩ := HA.out.2.1.below b1
  clear b1 HA HSp hs1
  go_wp2_with fail
  refine (class_tenth _).mono ?_
  rintro e W3 ⟨rfl, b3⟩
  have HP := Lib.hid (HP.out.below b3)
  clear b3 f0 f1 f2 fl
  obtain ⟨-, d0, d1, d2, q0, q1, q2⟩ := id HP.out.d
  obtain ⟨f0, f1, f2, fl⟩ := HP.out.f
  go_upto_block 0 with (fail)
  have hcur : Below W3.heap.size W3 W3.drew := (Below.refl _ _).drew
  go_cut [5] from 28 to 47 (fun v wx => v = .int .i64 0 ∧ Hid (Par w wx W1.heap.size (.int .u64 7205759403792794) (.int .i64 (-56))))
  case first =>
    go_wp2_with fail
    go_region_with (first | (go_at_call 121; refine (hidden_f _).mono ?_; rintro e W4 ⟨rfl, b4⟩; have HP4 := Lib.hid (HP.out.below (back_of' hcur b4)); obtain ⟨-, y0, y1, y2, p0, p1, p2⟩ := id HP4.out.d; clear b4) | fail)
    all_goals go_wp2_with fail
    all_goals go_meet
    all_goals exact ⟨rfl, Lib.hid (HP4.out.set1 _)⟩
  case rest =>
    obtain ⟨rfl, HP5⟩ := hcut
    clear d0 d1 d2 q0 q1 q2 f0 f1 f2 fl HP hcur
    obtain ⟨-, d0, d1, d2, q0, q1, q2⟩ := id HP5.out.d
    go_wp2_with fail
    refine (tz64_any 7205759403792794 1 _ (by omega) (by omega) (HT.out.below ⟨HP5.out.b.os, HP5.out.b.tape, HP5.out.b.output, HP5.out.b.size, HP5.out.b.block⟩) (by decide)).mono ?_
    rintro e W6 ⟨rfl, hw⟩
    obtain rfl := hw
    go_upto_region 15 with (fail)
    have HP8 := Lib.hid ((HP5.out.set1 (.int .u64 3602879701896397)).set2 (.int .i64 (-55)))
    clear d0 d1 d2 q0 q1 q2 HP5
    generalize (wc.setCell ⟨W1.heap.size, 1, none⟩ (.int .u64 3602879701896397)).setCell ⟨W1.heap.size, 2, none⟩ (.int .i64 (-55)) = W8 at *
    obtain ⟨-, d0, d1, d2, q0, q1, q2⟩ := id HP8.out.d
    obtain ⟨-, r0, r1, r2, g0, g1, g2⟩ := id HP8.out.r
    go_wp2_with fail
    exact bodyPost_ret (by simp [results, Tryz.results70, go_sem, r0, r1, r2]) rfl ⟨rfl, ((HP8.out.b.setCell (p := ⟨w.heap.size + 1, 0, none⟩) (Nat.le_succ _) _).setCell (p := ⟨w.heap.size + 1, 1, none⟩) (Nat.le_succ _) _).setCell (p := ⟨w.heap.size + 1, 2, none⟩) (Nat.le_succ _) _⟩

set_option maxRecDepth 8000 in
set_option maxHeartbeats 1000000 in
theorem Parts_tenth (w : World) (hT : Tab64 w) : Calls Tryz.prog 39 #[.float .f64 4591870180066957722] w fun e w' => e = .returned (.tuple #[.agg #[.bool false, .int .u64 3602879701896397, .int .i64 (-55)], .int .i64 0]) ∧ Below w.heap.size w w' := by
  have hA := (Below.refl w.heap.size w).alloc (Nat.le_refl _) (.cells #[.bool false, .int .u64 0, .int .i64 0] 83)
  have HA := Lib.hid (And.intro hA (DecAt.new w (.bool false) (.int .u64 0) (.int .i64 0) 83))
  have HT := Lib.hid hT
  have hbits := run_bits 4591870180066957722
  clear hA hT
  go_enter Tryz.func39, Tryz.ntmps39
  go_wp2_with fail
  refine (of_zero _).mono ?_
  rintro e W1 ⟨rfl, b1⟩
  have H1 := Lib.hid (And.intro (back_of' HA.out.1 b1) (HA.out.2.kept (c := w.heap.size + 1) (Kept.of_below b1) (by omega)))
  clear b1 HA
  go_wp2_with fail
  refine (parts_tenth W1 (HT.out.below H1.out.1)).mono ?_
  rintro e W2 ⟨rfl, b2⟩
  have H2 := Lib.hid (And.intro (back_of' H1.out.1 b2) (H1.out.2.kept (c := W1.heap.size) (Kept.of_below b2) (Nat.ne_of_lt H1.out.2.1)))
  clear b2 H1
  obtain ⟨-, r0, r1, r2, g0, g1, g2⟩ := id H2.out.2
  go_wp2_with fail
  exact bodyPost_ret (by simp [results, Tryz.results39, go_sem, r0, r1, r2]) rfl ⟨rfl, by
    repeat' (first | exact H2.out.1 | apply Below.setCell)
    all_goals (show w.heap.size ≤ w.heap.size; omega)⟩
end Go.Proofs.YthnmfcjodobkbaaGreatDoor.Nb
