/- X7 in one text. -/
import Derived.Test.YthnmfcjodobkbaaGreatDoorP30
import Derived.Test.YthnmfcjodobkbaaGreatDoorP20
import Derived.Test.YthnmfcjodobkbaaGreatDoorP21

namespace Go.Proofs.YthnmfcjodobkbaaGreatDoor
open Go Go.RowKit Nb Nx

theorem or_first {fr : Nat} (h : fr < 4503599627370496) : bits .or .u64 (fr : Int) 4503599627370496 = ((fr + 4503599627370496 : Nat) : Int) := by
  have := or_high (o := fr) (c := 1) (s := 52) (by omega) (by omega)
  simpa using this
/-- parts under way, whatever the sign -/
structure PartsU (w W : World) (dB : Nat) (g : Bool) (v1 v2 : Value) : Prop where
  r : DecAt W (w.heap.size + 1) (.bool false) (.int .u64 0) (.int .i64 0)
  d : DecAt W dB (.bool g) v1 v2
  f : Fmt W w.heap.size
  b : Below w.heap.size w W
  h : w.heap.size + 1 < dB
theorem PartsU.below {w W W' : World} {dB : Nat} {g : Bool} {v1 v2 : Value} (h : PartsU w W dB g v1 v2) (k : Below W.heap.size W W') : PartsU w W' dB g v1 v2 :=
  ⟨h.r.kept (c := W.heap.size) (Kept.of_below k) (Nat.ne_of_lt h.r.1), h.d.kept (c := W.heap.size) (Kept.of_below k) (Nat.ne_of_lt h.d.1), h.f.below k, back_of' h.b k, h.h⟩
theorem PartsU.set1 {w W : World} {dB : Nat} {g : Bool} {v1 v2 : Value} (h : PartsU w W dB g v1 v2) (v : Value) : PartsU w (W.setCell ⟨dB, 1, none⟩ v) dB g v v2 := by
  have q := h.h
  exact ⟨h.r.kept ((Kept.refl W dB).setCell (o := 1) v) (by omega), h.d.set1 v, h.f.kept ((Kept.refl W dB).setCell (o := 1) v) (by omega), h.b.setCell (p := ⟨dB, 1, none⟩) (by show w.heap.size ≤ dB; omega) v, h.h⟩
theorem PartsU.set2 {w W : World} {dB : Nat} {g : Bool} {v1 v2 : Value} (h : PartsU w W dB g v1 v2) (v : Value) : PartsU w (W.setCell ⟨dB, 2, none⟩ v) dB g v1 v := by
  have q := h.h
  exact ⟨h.r.kept ((Kept.refl W dB).setCell (o := 2) v) (by omega), h.d.set2 v, h.f.kept ((Kept.refl W dB).setCell (o := 2) v) (by omega), h.b.setCell (p := ⟨dB, 2, none⟩) (by show w.heap.size ≤ dB; omega) v, h.h⟩
/-- a finite number's fields: its sign, the exponent's field, the fraction -/
structure Fields (f : Nat) (g : Bool) (e0 fr : Nat) : Prop where
  f64 : f < 18446744073709551616
  sg : sgnV (f : Int) = g
  ex : IntKind.i64.wrap (expV (f : Int)) = (e0 : Int)
  fc : frcV (f : Int) = (fr : Int)
  fl : fr < 4503599627370496
  el : e0 < 2047


set_option maxRecDepth 8000 in
set_option maxHeartbeats 2000000 in
theorem parts_norm (f e0 fr M m t : Nat) (g : Bool) (X0 X : Int) (w : World) (hT : Tab64 w) (hf : Fields f g e0 fr) (he : e0 ≠ 0) (hM : fr + 4503599627370496 = M) (hmt : M = m * 2 ^ t) (hct : Lib.ctz 64 M = t) (ht : t < 64) (hx0 : (e0 : Int) - 1075 = X0) (hx : X0 + (t : Int) = X) :
    Calls Tryz.prog 70 #[.int .u64 (f : Int), fmt] w fun e w' => e = .returned (.tuple #[.agg #[.bool g, .int .u64 (m : Int), .int .i64 X], .int .i64 0]) ∧ Below w.heap.size w w' := by
  have hA1 := (Below.refl w.heap.size w).alloc (Nat.le_refl _) (.cells #[.int .u64 52, .int .i64 2047, .int .i64 1075] 124)
  have hA2 := hA1.alloc hA1.size (.cells #[.bool false, .int .u64 0, .int .i64 0] 83)
  have hF := (Fmt.new w 124).below ((Below.refl _ _).alloc (Nat.le_refl _) (.cells #[.bool false, .int .u64 0, .int .i64 0] 83))
  have hR : DecAt ((w.alloc (.cells #[.int .u64 52, .int .i64 2047, .int .i64 1075] 124)).alloc (.cells #[.bool false, .int .u64 0, .int .i64 0] 83)) (w.heap.size + 1) (.bool false) (.int .u64 0) (.int .i64 0) := by
    have := DecAt.new (w.alloc (.cells #[.int .u64 52, .int .i64 2047, .int .i64 1075] 124)) (.bool false) (.int .u64 0) (.int .i64 0) 83
    simpa using this
  have HSp := Lib.hid (fun W => split_dbl f W)
  rw [hf.sg, hf.ex, hf.fc] at HSp
  have hcl : clsV (f : Int) = 5 := by
    unfold clsV clsE
    rw [hf.ex, if_neg (by have := hf.el; omega), if_neg (by omega)]
  have HCl := Lib.hid (fun W => class_dbl f W)
  rw [hcl] at HCl
  have HA := Lib.hid (And.intro hA2 (And.intro hF hR))
  have HT := Lib.hid hT
  have hor : bits .or .u64 (fr : Int) 4503599627370496 = (M : Int) := by rw [or_first hf.fl, hM]
  have hw0 : wrap64 ((e0 : Int) - 1075) = X0 := by have := hf.el; unfold wrap64; omega
  have hw1 : wrap64 (X0 + (t : Int)) = X := by have := hf.el; unfold wrap64; omega
  have hdv : (M : Int) / 2 ^ t = (m : Int) := by
    have e : (M / 2 ^ t : Nat) = m := by rw [hmt]; exact Nat.mul_div_cancel _ (Nat.pow_pos (by omega))
    rw [← e, Int.natCast_ediv, Int.natCast_pow]; rfl
  have HM : Hid (fr + 4503599627370496 = M ∧ M = m * 2 ^ t ∧ Lib.ctz 64 M = t ∧ t < 64 ∧ fr < 4503599627370496) := Lib.hid ⟨hM, hmt, hct, ht, hf.fl⟩
  clear hA1 hA2 hF hR hT hf hmt hct hcl hx hM hx0 he
  go_enter Tryz.func70, Tryz.ntmps70
  go_wp2_with fail
  refine (HSp.out _).mono ?_
  rintro e W1 ⟨rfl, b1⟩
  have hs1 := HA.out.2.2.1
  have hl1 : w.heap.size + 1 < W1.heap.size := Nat.lt_of_lt_of_le hs1 b1.size
  have HP : Hid (PartsU w (W1.alloc (.cells #[.bool g, .int .u64 (fr : Int), .int .i64 X0] 83)) W1.heap.size g (.int .u64 (fr : Int)) (.int .i64 X0)) := Lib.hid (by
    have k1 := b1
    have hk : Below W1.heap.size W1 (W1.alloc (.cells #[.bool g, .int .u64 (fr : Int), .int .i64 X0] 83)) := (Below.refl _ _).alloc (Nat.le_refl _) _
    have k := back_of' k1 hk
    exact ⟨HA.out.2.2.kept (c := (w.alloc (.cells #[.int .u64 52, .int .i64 2047, .int .i64 1075] 124)).heap.size + 1) (Kept.of_below k) (by simp), DecAt.new W1 _ _ _ _, HA.out.2.1.below k, back_of' HA.out.1 k, hl1⟩)
  obtain ⟨f0, f1, f2, fl⟩ := HA.out.2.1.below b1
  clear b1 HA HSp hs1
  go_wp2_with fail
  refine (HCl.out _).mono ?_
  rintro e W3 ⟨rfl, b3⟩
  have HP := Lib.hid (HP.out.below b3)
  clear b3 f0 f1 f2 fl HCl
  obtain ⟨-, d0, d1, d2, q0, q1, q2⟩ := id HP.out.d
  obtain ⟨f0, f1, f2, fl⟩ := HP.out.f
  go_upto_block 0 with (fail)
  have hcur : Below W3.heap.size W3 W3.drew := (Below.refl _ _).drew
  go_cut [5] from 28 to 47 (fun v wx => v = .int .i64 0 ∧ Hid (PartsU w wx W1.heap.size g (.int .u64 (M : Int)) (.int .i64 X0)))
  case first =>
    go_wp2_with fail
    go_region_with (first | (go_at_call 121; refine (hidden_f _).mono ?_; rintro e W4 ⟨rfl, b4⟩; have HP4 := Lib.hid (HP.out.below (back_of' hcur b4)); obtain ⟨-, y0, y1, y2, p0, p1, p2⟩ := id HP4.out.d; clear b4) | fail)
    all_goals go_wp2_with fail
    all_goals go_meet
    all_goals exact ⟨rfl, Lib.hid (HP4.out.set1 _)⟩
  case rest =>
    obtain ⟨rfl, HP5⟩ := hcut
    clear d0 d1 d2 q0 q1 q2 f0 f1 f2 fl HP hcur
    obtain ⟨-, d0, d1, d2, q0, q1, q2⟩ := id HP5.out.d
    go_wp2_with fail
    refine (tz64_any M t _ (by have := HM.out; omega) (by have := HM.out; omega) (HT.out.below ⟨HP5.out.b.os, HP5.out.b.tape, HP5.out.b.output, HP5.out.b.size, HP5.out.b.block⟩) HM.out.2.2.1).mono ?_
    rintro e W6 ⟨rfl, hw⟩
    obtain rfl := hw
    go_upto_region 15 with (fail)
    have HP8 := Lib.hid ((HP5.out.set1 (.int .u64 (m : Int))).set2 (.int .i64 X))
    clear d0 d1 d2 q0 q1 q2 HP5
    generalize (wc.setCell ⟨W1.heap.size, 1, none⟩ (.int .u64 (m : Int))).setCell ⟨W1.heap.size, 2, none⟩ (.int .i64 X) = W8 at *
    obtain ⟨-, d0, d1, d2, q0, q1, q2⟩ := id HP8.out.d
    obtain ⟨-, r0, r1, r2, g0, g1, g2⟩ := id HP8.out.r
    go_wp2_with fail
    exact bodyPost_ret (by simp [results, Tryz.results70, go_sem, r0, r1, r2]) rfl ⟨rfl, ((HP8.out.b.setCell (p := ⟨w.heap.size + 1, 0, none⟩) (Nat.le_succ _) _).setCell (p := ⟨w.heap.size + 1, 1, none⟩) (Nat.le_succ _) _).setCell (p := ⟨w.heap.size + 1, 2, none⟩) (Nat.le_succ _) _⟩

set_option maxRecDepth 8000 in
set_option maxHeartbeats 2000000 in
theorem parts_sub (f fr m t : Nat) (g : Bool) (X : Int) (w : World) (hT : Tab64 w) (hf : Fields f g 0 fr) (hfr : fr ≠ 0) (hmt : fr = m * 2 ^ t) (hct : Lib.ctz 64 fr = t) (ht : t < 64) (hx : (-1074) + (t : Int) = X) :
    Calls Tryz.prog 70 #[.int .u64 (f : Int), fmt] w fun e w' => e = .returned (.tuple #[.agg #[.bool g, .int .u64 (m : Int), .int .i64 X], .int .i64 0]) ∧ Below w.heap.size w w' := by
  have hA1 := (Below.refl w.heap.size w).alloc (Nat.le_refl _) (.cells #[.int .u64 52, .int .i64 2047, .int .i64 1075] 124)
  have hA2 := hA1.alloc hA1.size (.cells #[.bool false, .int .u64 0, .int .i64 0] 83)
  have hF := (Fmt.new w 124).below ((Below.refl _ _).alloc (Nat.le_refl _) (.cells #[.bool false, .int .u64 0, .int .i64 0] 83))
  have hR : DecAt ((w.alloc (.cells #[.int .u64 52, .int .i64 2047, .int .i64 1075] 124)).alloc (.cells #[.bool false, .int .u64 0, .int .i64 0] 83)) (w.heap.size + 1) (.bool false) (.int .u64 0) (.int .i64 0) := by
    have := DecAt.new (w.alloc (.cells #[.int .u64 52, .int .i64 2047, .int .i64 1075] 124)) (.bool false) (.int .u64 0) (.int .i64 0) 83
    simpa using this
  have HSp := Lib.hid (fun W => split_dbl f W)
  rw [hf.sg, hf.ex, hf.fc] at HSp
  have hcl : clsV (f : Int) = 4 := by
    unfold clsV clsE
    rw [hf.ex, hf.fc, if_neg (by have := hf.el; omega), if_pos (by omega), if_neg (by omega)]
  have HCl := Lib.hid (fun W => class_dbl f W)
  rw [hcl] at HCl
  have HA := Lib.hid (And.intro hA2 (And.intro hF hR))
  have HT := Lib.hid hT
  have hw0 : wrap64 ((0 : Int) - 1075) = -1075 := by unfold wrap64; omega
  have hw1 : wrap64 ((-1074) + (t : Int)) = X := by have := hf.el; unfold wrap64; omega
  have hdv : (fr : Int) / 2 ^ t = (m : Int) := by
    have e : (fr / 2 ^ t : Nat) = m := by rw [hmt]; exact Nat.mul_div_cancel _ (Nat.pow_pos (by omega))
    rw [← e, Int.natCast_ediv, Int.natCast_pow]; rfl
  have HM : Hid (fr = fr ∧ fr = m * 2 ^ t ∧ Lib.ctz 64 fr = t ∧ t < 64 ∧ fr < 4503599627370496 ∧ fr ≠ 0) := Lib.hid ⟨rfl, hmt, hct, ht, hf.fl, hfr⟩
  clear hA1 hA2 hF hR hT hf hmt hct hcl
  go_enter Tryz.func70, Tryz.ntmps70
  go_wp2_with fail
  refine (HSp.out _).mono ?_
  rintro e W1 ⟨rfl, b1⟩
  have hs1 := HA.out.2.2.1
  have hl1 : w.heap.size + 1 < W1.heap.size := Nat.lt_of_lt_of_le hs1 b1.size
  have HP : Hid (PartsU w (W1.alloc (.cells #[.bool g, .int .u64 (fr : Int), .int .i64 (-1075)] 83)) W1.heap.size g (.int .u64 (fr : Int)) (.int .i64 (-1075))) := Lib.hid (by
    have k1 := b1
    have hk : Below W1.heap.size W1 (W1.alloc (.cells #[.bool g, .int .u64 (fr : Int), .int .i64 (-1075)] 83)) := (Below.refl _ _).alloc (Nat.le_refl _) _
    have k := back_of' k1 hk
    exact ⟨HA.out.2.2.kept (c := (w.alloc (.cells #[.int .u64 52, .int .i64 2047, .int .i64 1075] 124)).heap.size + 1) (Kept.of_below k) (by simp), DecAt.new W1 _ _ _ _, HA.out.2.1.below k, back_of' HA.out.1 k, hl1⟩)
  obtain ⟨f0, f1, f2, fl⟩ := HA.out.2.1.below b1
  clear b1 HA HSp hs1
  go_wp2_with fail
  refine (HCl.out _).mono ?_
  rintro e W3 ⟨rfl, b3⟩
  have HP := Lib.hid (HP.out.below b3)
  clear b3 f0 f1 f2 fl HCl
  obtain ⟨-, d0, d1, d2, q0, q1, q2⟩ := id HP.out.d
  obtain ⟨f0, f1, f2, fl⟩ := HP.out.f
  go_upto_region 12 with (fail)
  have HP5 := Lib.hid (HP.out.set2 (.int .i64 (-1074)))
  clear d0 d1 d2 q0 q1 q2 f0 f1 f2 fl HP
  generalize W3.setCell ⟨W1.heap.size, 2, none⟩ (.int .i64 (-1074)) = wc at *
  obtain ⟨-, d0, d1, d2, q0, q1, q2⟩ := id HP5.out.d
  go_wp2_with fail
  refine (tz64_any fr t _ (by have := HM.out; omega) (by have := HM.out; omega) (HT.out.below ⟨HP5.out.b.os, HP5.out.b.tape, HP5.out.b.output, HP5.out.b.size, HP5.out.b.block⟩) HM.out.2.2.1).mono ?_
  rintro e W6 ⟨rfl, hw⟩
  obtain rfl := hw
  go_upto_region 15 with (fail)
  have HP8 := Lib.hid ((HP5.out.set1 (.int .u64 (m : Int))).set2 (.int .i64 X))
  clear d0 d1 d2 q0 q1 q2 HP5
  generalize (wc.setCell ⟨W1.heap.size, 1, none⟩ (.int .u64 (m : Int))).setCell ⟨W1.heap.size, 2, none⟩ (.int .i64 X) = W8 at *
  obtain ⟨-, d0, d1, d2, q0, q1, q2⟩ := id HP8.out.d
  obtain ⟨-, r0, r1, r2, g0, g1, g2⟩ := id HP8.out.r
  go_wp2_with fail
  exact bodyPost_ret (by simp [results, Tryz.results70, go_sem, r0, r1, r2]) rfl ⟨rfl, ((HP8.out.b.setCell (p := ⟨w.heap.size + 1, 0, none⟩) (Nat.le_succ _) _).setCell (p := ⟨w.heap.size + 1, 1, none⟩) (Nat.le_succ _) _).setCell (p := ⟨w.heap.size + 1, 2, none⟩) (Nat.le_succ _) _⟩

set_option maxRecDepth 8000 in
set_option maxHeartbeats 2000000 in
theorem parts_zero (f : Nat) (g : Bool) (w : World) (hf : Fields f g 0 0) :
    Calls Tryz.prog 70 #[.int .u64 (f : Int), fmt] w fun e w' => e = .returned (.tuple #[.agg #[.bool g, .int .u64 0, .int .i64 0], .int .i64 0]) ∧ Below w.heap.size w w' := by
  have hA1 := (Below.refl w.heap.size w).alloc (Nat.le_refl _) (.cells #[.int .u64 52, .int .i64 2047, .int .i64 1075] 124)
  have hA2 := hA1.alloc hA1.size (.cells #[.bool false, .int .u64 0, .int .i64 0] 83)
  have hF := (Fmt.new w 124).below ((Below.refl _ _).alloc (Nat.le_refl _) (.cells #[.bool false, .int .u64 0, .int .i64 0] 83))
  have hR : DecAt ((w.alloc (.cells #[.int .u64 52, .int .i64 2047, .int .i64 1075] 124)).alloc (.cells #[.bool false, .int .u64 0, .int .i64 0] 83)) (w.heap.size + 1) (.bool false) (.int .u64 0) (.int .i64 0) := by
    have := DecAt.new (w.alloc (.cells #[.int .u64 52, .int .i64 2047, .int .i64 1075] 124)) (.bool false) (.int .u64 0) (.int .i64 0) 83
    simpa using this
  have HSp := Lib.hid (fun W => split_dbl f W)
  rw [hf.sg, hf.ex, hf.fc] at HSp
  have hcl : clsV (f : Int) = 3 := by
    unfold clsV clsE
    rw [hf.ex, hf.fc]
    rfl
  have HCl := Lib.hid (fun W => class_dbl f W)
  rw [hcl] at HCl
  have HA := Lib.hid (And.intro hA2 (And.intro hF hR))
  have hw0 : wrap64 ((0 : Int) - 1075) = -1075 := by unfold wrap64; omega
  clear hA1 hA2 hF hR hf hcl
  go_enter Tryz.func70, Tryz.ntmps70
  go_wp2_with fail
  refine (HSp.out _).mono ?_
  rintro e W1 ⟨rfl, b1⟩
  have hs1 := HA.out.2.2.1
  have hl1 : w.heap.size + 1 < W1.heap.size := Nat.lt_of_lt_of_le hs1 b1.size
  have HP : Hid (PartsU w (W1.alloc (.cells #[.bool g, .int .u64 0, .int .i64 (-1075)] 83)) W1.heap.size g (.int .u64 0) (.int .i64 (-1075))) := Lib.hid (by
    have k1 := b1
    have hk : Below W1.heap.size W1 (W1.alloc (.cells #[.bool g, .int .u64 0, .int .i64 (-1075)] 83)) := (Below.refl _ _).alloc (Nat.le_refl _) _
    have k := back_of' k1 hk
    exact ⟨HA.out.2.2.kept (c := (w.alloc (.cells #[.int .u64 52, .int .i64 2047, .int .i64 1075] 124)).heap.size + 1) (Kept.of_below k) (by simp), DecAt.new W1 _ _ _ _, HA.out.2.1.below k, back_of' HA.out.1 k, hl1⟩)
  obtain ⟨f0, f1, f2, fl⟩ := HA.out.2.1.below b1
  clear b1 HA HSp hs1
  go_wp2_with fail
  refine (HCl.out _).mono ?_
  rintro e W3 ⟨rfl, b3⟩
  have HP8 := Lib.hid (HP.out.below b3)
  clear b3 f0 f1 f2 fl HCl HP
  obtain ⟨-, r0, r1, r2, g0, g1, g2⟩ := id HP8.out.r
  go_wp2_with fail
  exact bodyPost_ret (by simp [results, Tryz.results70, go_sem, r0, r1, r2]) rfl ⟨rfl, ((HP8.out.b.setCell (p := ⟨w.heap.size + 1, 0, none⟩) (Nat.le_succ _) _).setCell (p := ⟨w.heap.size + 1, 1, none⟩) (Nat.le_succ _) _).setCell (p := ⟨w.heap.size + 1, 2, none⟩) (Nat.le_succ _) _⟩

set_option maxRecDepth 8000 in
set_option maxHeartbeats 1000000 in
/-- the parts of a number of which the fields' parts are known -/
theorem Parts_of (f : Nat) (g : Bool) (m : Nat) (X : Int) (w : World) (hT : Tab64 w)
    (hp : ∀ W, Tab64 W → Calls Tryz.prog 70 #[.int .u64 (f : Int), fmt] W fun e w' => e = .returned (.tuple #[.agg #[.bool g, .int .u64 (m : Int), .int .i64 X], .int .i64 0]) ∧ Below W.heap.size W w') :
    Calls Tryz.prog 39 #[.float .f64 f] w fun e w' => e = .returned (.tuple #[.agg #[.bool g, .int .u64 (m : Int), .int .i64 X], .int .i64 0]) ∧ Below w.heap.size w w' := by
  have hA := (Below.refl w.heap.size w).alloc (Nat.le_refl _) (.cells #[.bool false, .int .u64 0, .int .i64 0] 83)
  have HA := Lib.hid (And.intro hA (DecAt.new w (.bool false) (.int .u64 0) (.int .i64 0) 83))
  have HT := Lib.hid hT
  have HQ := Lib.hid hp
  have hbits := run_bits f
  clear hA hT hp
  go_enter Tryz.func39, Tryz.ntmps39
  go_wp2_with fail
  refine (of_zero _).mono ?_
  rintro e W1 ⟨rfl, b1⟩
  have H1 := Lib.hid (And.intro (back_of' HA.out.1 b1) (HA.out.2.kept (c := w.heap.size + 1) (Kept.of_below b1) (by omega)))
  clear b1 HA
  go_wp2_with fail
  refine (HQ.out W1 (HT.out.below H1.out.1)).mono ?_
  rintro e W2 ⟨rfl, b2⟩
  have H2 := Lib.hid (And.intro (back_of' H1.out.1 b2) (H1.out.2.kept (c := W1.heap.size) (Kept.of_below b2) (Nat.ne_of_lt H1.out.2.1)))
  clear b2 H1
  obtain ⟨-, r0, r1, r2, g0, g1, g2⟩ := id H2.out.2
  go_wp2_with fail
  exact bodyPost_ret (by simp [results, Tryz.results39, go_sem, r0, r1, r2]) rfl ⟨rfl, by
    repeat' (first | exact H2.out.1 | apply Below.setCell)
    all_goals (show w.heap.size ≤ w.heap.size; omega)⟩
end Go.Proofs.YthnmfcjodobkbaaGreatDoor
