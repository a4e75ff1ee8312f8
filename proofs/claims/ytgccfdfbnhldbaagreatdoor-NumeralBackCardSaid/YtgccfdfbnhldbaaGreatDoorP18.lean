/- X7 X8 X9 HA1 HA2 HB1 SH9 SN1 in one text. -/
import Derived.Test.YtgccfdfbnhldbaaGreatDoorP17
import Derived.Test.YtgccfdfbnhldbaaGreatDoorP13
import Derived.Test.YtgccfdfbnhldbaaGreatDoorP14
import Derived.Test.YtgccfdfbnhldbaaGreatDoorP16

namespace Go.Proofs.YtgccfdfbnhldbaaGreatDoor
open Go Go.RowKit Nb Nx

theorem or_first {fr : Nat} (h : fr < 4503599627370496) : bits .or .u64 (fr : Int) 4503599627370496 = ((fr + 4503599627370496 : Nat) : Int) := by
  have := or_high (o := fr) (c := 1) (s := 52) (by omega) (by omega)
  simpa using this
/-- parts under way, whatever the sign -/
structure PartsU (w W : World) (dB : Nat) (g : Bool) (v1 v2 : Value) : Prop where
  r : DecAt W (w.heap.size + 1) (.bool false) (.int .u64 0) (.int .i64 0)
  d : DecAt W dB (.bool g) v1 v2
  f : Fmt W w.heap.size
  b : Below w.heap.size w W
  h : w.heap.size + 1 < dB
theorem PartsU.below {w W W' : World} {dB : Nat} {g : Bool} {v1 v2 : Value} (h : PartsU w W dB g v1 v2) (k : Below W.heap.size W W') : PartsU w W' dB g v1 v2 :=
  ⟨h.r.kept (c := W.heap.size) (Kept.of_below k) (Nat.ne_of_lt h.r.1), h.d.kept (c := W.heap.size) (Kept.of_below k) (Nat.ne_of_lt h.d.1), h.f.below k, back_of' h.b k, h.h⟩
theorem PartsU.set1 {w W : World} {dB : Nat} {g : Bool} {v1 v2 : Value} (h : PartsU w W dB g v1 v2) (v : Value) : PartsU w (W.setCell ⟨dB, 1, none⟩ v) dB g v v2 := by
  have q := h.h
  exact ⟨h.r.kept ((Kept.refl W dB).setCell (o := 1) v) (by omega), h.d.set1 v, h.f.kept ((Kept.refl W dB).setCell (o := 1) v) (by omega), h.b.setCell (p := ⟨dB, 1, none⟩) (by show w.heap.size ≤ dB; omega) v, h.h⟩
theorem PartsU.set2 {w W : World} {dB : Nat} {g : Bool} {v1 v2 : Value} (h : PartsU w W dB g v1 v2) (v : Value) : PartsU w (W.setCell ⟨dB, 2, none⟩ v) dB g v1 v := by
  have q := h.h
  exact ⟨h.r.kept ((Kept.refl W dB).setCell (o := 2) v) (by omega), h.d.set2 v, h.f.kept ((Kept.refl W dB).setCell (o := 2) v) (by omega), h.b.setCell (p := ⟨dB, 2, none⟩) (by show w.heap.size ≤ dB; omega) v, h.h⟩
/-- a finite number's fields: its sign, the exponent's field, the fraction -/
structure Fields (f : Nat) (g : Bool) (e0 fr : Nat) : Prop where
  f64 : f < 18446744073709551616
  sg : sgnV (f : Int) = g
  ex : IntKind.i64.wrap (expV (f : Int)) = (e0 : Int)
  fc : frcV (f : Int) = (fr : Int)
  fl : fr < 4503599627370496
  el : e0 < 2047


set_option maxRecDepth 8000 in
set_option maxHeartbeats 2000000 in
theorem parts_norm (f e0 fr M m t : Nat) (g : Bool) (X0 X : Int) (w : World) (hT : Tab64 w) (hf : Fields f g e0 fr) (he : e0 ≠ 0) (hM : fr + 4503599627370496 = M) (hmt : M = m * 2 ^ t) (hct : Lib.ctz 64 M = t) (ht : t < 64) (hx0 : (e0 : Int) - 1075 = X0) (hx : X0 + (t : Int) = X) :
    Calls Tryz.prog 73 #[.int .u64 (f : Int), fmt] w fun e w' => e = .returned (.tuple #[.agg #[.bool g, .int .u64 (m : Int), .int .i64 X], .int .i64 0]) ∧ Below w.heap.size w w' := by
  have hA1 := (Below.refl w.heap.size w).alloc (Nat.le_refl _) (.cells #[.int .u64 52, .int .i64 2047, .int .i64 1075] 131)
  have hA2 := hA1.alloc hA1.size (.cells #[.bool false, .int .u64 0, .int .i64 0] 60)
  have hF := (Fmt.new w 131).below ((Below.refl _ _).alloc (Nat.le_refl _) (.cells #[.bool false, .int .u64 0, .int .i64 0] 60))
  have hR : DecAt ((w.alloc (.cells #[.int .u64 52, .int .i64 2047, .int .i64 1075] 131)).alloc (.cells #[.bool false, .int .u64 0, .int .i64 0] 60)) (w.heap.size + 1) (.bool false) (.int .u64 0) (.int .i64 0) := by
    have := DecAt.new (w.alloc (.cells #[.int .u64 52, .int .i64 2047, .int .i64 1075] 131)) (.bool false) (.int .u64 0) (.int .i64 0) 60
    simpa using this
  have HSp := Lib.hid (fun W => split_dbl f W)
  rw [hf.sg, hf.ex, hf.fc] at HSp
  have hcl : clsV (f : Int) = 5 := by
    unfold clsV clsE
    rw [hf.ex, if_neg (by have := hf.el; omega), if_neg (by omega)]
  have HCl := Lib.hid (fun W => class_dbl f W)
  rw [hcl] at HCl
  have HA := Lib.hid (And.intro hA2 (And.intro hF hR))
  have HT := Lib.hid hT
  have hor : bits .or .u64 (fr : Int) 4503599627370496 = (M : Int) := by rw [or_first hf.fl, hM]
  have hw0 : wrap64 ((e0 : Int) - 1075) = X0 := by have := hf.el; unfold wrap64; omega
  have hw1 : wrap64 (X0 + (t : Int)) = X := by have := hf.el; unfold wrap64; omega
  have hdv : (M : Int) / 2 ^ t = (m : Int) := by
    have e : (M / 2 ^ t : Nat) = m := by rw [hmt]; exact Nat.mul_div_cancel _ (Nat.pow_pos (by omega))
    rw [← e, Int.natCast_ediv, Int.natCast_pow]; rfl
  have HM : Hid (fr + 4503599627370496 = M ∧ M = m * 2 ^ t ∧ Lib.ctz 64 M = t ∧ t < 64 ∧ fr < 4503599627370496) := Lib.hid ⟨hM, hmt, hct, ht, hf.fl⟩
  clear hA1 hA2 hF hR hT hf hmt hct hcl hx hM hx0 he
  go_enter Tryz.func73, Tryz.ntmps73
  go_wp2_with fail
  refine (HSp.out _).mono ?_
  rintro e W1 ⟨rfl, b1⟩
  have hs1 := HA.out.2.2.1
  have hl1 : w.heap.size + 1 < W1.heap.size := Nat.lt_of_lt_of_le hs1 b1.size
  have HP : Hid (PartsU w (W1.alloc (.cells #[.bool g, .int .u64 (fr : Int), .int .i64 X0] 60)) W1.heap.size g (.int .u64 (fr : Int)) (.int .i64 X0)) := Lib.hid (by
    have k1 := b1
    have hk : Below W1.heap.size W1 (W1.alloc (.cells #[.bool g, .int .u64 (fr : Int), .int .i64 X0] 60)) := (Below.refl _ _).alloc (Nat.le_refl _) _
    have k := back_of' k1 hk
    exact ⟨HA.out.2.2.kept (c := (w.alloc (.cells #[.int .u64 52, .int .i64 2047, .int .i64 1075] 131)).heap.size + 1) (Kept.of_below k) (by simp), DecAt.new W1 _ _ _ _, HA.out.2.1.below k, back_of' HA.out.1 k, hl1⟩)
  obtain ⟨f0, f1, f2, fl⟩ := HA.out.2.1.below b1
  clear b1 HA HSp hs1
  go_wp2_with fail
  refine (HCl.out _).mono ?_
  rintro e W3 ⟨rfl, b3⟩
  have HP := Lib.hid (HP.out.below b3)
  clear b3 f0 f1 f2 fl HCl
  obtain ⟨-, d0, d1, d2, q0, q1, q2⟩ := id HP.out.d
  obtain ⟨f0, f1, f2, fl⟩ := HP.out.f
  go_upto_block 0 with (fail)
  have hcur : Below W3.heap.size W3 W3.drew := (Below.refl _ _).drew
  go_cut [5] from 28 to 47 (fun v wx => v = .int .i64 0 ∧ Hid (PartsU w wx W1.heap.size g (.int .u64 (M : Int)) (.int .i64 X0)))
  case first =>
    go_wp2_with fail
    go_region_with (first | (go_at_call 128; refine (hidden_f _).mono ?_; rintro e W4 ⟨rfl, b4⟩; have HP4 := Lib.hid (HP.out.below (back_of' hcur b4)); obtain ⟨-, y0, y1, y2, p0, p1, p2⟩ := id HP4.out.d; clear b4) | fail)
    all_goals go_wp2_with fail
    all_goals go_meet
    all_goals exact ⟨rfl, Lib.hid (HP4.out.set1 _)⟩
  case rest =>
    obtain ⟨rfl, HP5⟩ := hcut
    clear d0 d1 d2 q0 q1 q2 f0 f1 f2 fl HP hcur
    obtain ⟨-, d0, d1, d2, q0, q1, q2⟩ := id HP5.out.d
    go_wp2_with fail
    refine (tz64_any M t _ (by have := HM.out; omega) (by have := HM.out; omega) (HT.out.below ⟨HP5.out.b.os, HP5.out.b.tape, HP5.out.b.output, HP5.out.b.size, HP5.out.b.block⟩) HM.out.2.2.1).mono ?_
    rintro e W6 ⟨rfl, hw⟩
    obtain rfl := hw
    go_upto_region 15 with (fail)
    have HP8 := Lib.hid ((HP5.out.set1 (.int .u64 (m : Int))).set2 (.int .i64 X))
    clear d0 d1 d2 q0 q1 q2 HP5
    generalize (wc.setCell ⟨W1.heap.size, 1, none⟩ (.int .u64 (m : Int))).setCell ⟨W1.heap.size, 2, none⟩ (.int .i64 X) = W8 at *
    obtain ⟨-, d0, d1, d2, q0, q1, q2⟩ := id HP8.out.d
    obtain ⟨-, r0, r1, r2, g0, g1, g2⟩ := id HP8.out.r
    go_wp2_with fail
    exact bodyPost_ret (by simp [results, Tryz.results73, go_sem, r0, r1, r2]) rfl ⟨rfl, ((HP8.out.b.setCell (p := ⟨w.heap.size + 1, 0, none⟩) (Nat.le_succ _) _).setCell (p := ⟨w.heap.size + 1, 1, none⟩) (Nat.le_succ _) _).setCell (p := ⟨w.heap.size + 1, 2, none⟩) (Nat.le_succ _) _⟩

set_option maxRecDepth 8000 in
set_option maxHeartbeats 2000000 in
theorem parts_sub (f fr m t : Nat) (g : Bool) (X : Int) (w : World) (hT : Tab64 w) (hf : Fields f g 0 fr) (hfr : fr ≠ 0) (hmt : fr = m * 2 ^ t) (hct : Lib.ctz 64 fr = t) (ht : t < 64) (hx : (-1074) + (t : Int) = X) :
    Calls Tryz.prog 73 #[.int .u64 (f : Int), fmt] w fun e w' => e = .returned (.tuple #[.agg #[.bool g, .int .u64 (m : Int), .int .i64 X], .int .i64 0]) ∧ Below w.heap.size w w' := by
  have hA1 := (Below.refl w.heap.size w).alloc (Nat.le_refl _) (.cells #[.int .u64 52, .int .i64 2047, .int .i64 1075] 131)
  have hA2 := hA1.alloc hA1.size (.cells #[.bool false, .int .u64 0, .int .i64 0] 60)
  have hF := (Fmt.new w 131).below ((Below.refl _ _).alloc (Nat.le_refl _) (.cells #[.bool false, .int .u64 0, .int .i64 0] 60))
  have hR : DecAt ((w.alloc (.cells #[.int .u64 52, .int .i64 2047, .int .i64 1075] 131)).alloc (.cells #[.bool false, .int .u64 0, .int .i64 0] 60)) (w.heap.size + 1) (.bool false) (.int .u64 0) (.int .i64 0) := by
    have := DecAt.new (w.alloc (.cells #[.int .u64 52, .int .i64 2047, .int .i64 1075] 131)) (.bool false) (.int .u64 0) (.int .i64 0) 60
    simpa using this
  have HSp := Lib.hid (fun W => split_dbl f W)
  rw [hf.sg, hf.ex, hf.fc] at HSp
  have hcl : clsV (f : Int) = 4 := by
    unfold clsV clsE
    rw [hf.ex, hf.fc, if_neg (by have := hf.el; omega), if_pos (by omega), if_neg (by omega)]
  have HCl := Lib.hid (fun W => class_dbl f W)
  rw [hcl] at HCl
  have HA := Lib.hid (And.intro hA2 (And.intro hF hR))
  have HT := Lib.hid hT
  have hw0 : wrap64 ((0 : Int) - 1075) = -1075 := by unfold wrap64; omega
  have hw1 : wrap64 ((-1074) + (t : Int)) = X := by have := hf.el; unfold wrap64; omega
  have hdv : (fr : Int) / 2 ^ t = (m : Int) := by
    have e : (fr / 2 ^ t : Nat) = m := by rw [hmt]; exact Nat.mul_div_cancel _ (Nat.pow_pos (by omega))
    rw [← e, Int.natCast_ediv, Int.natCast_pow]; rfl
  have HM : Hid (fr = fr ∧ fr = m * 2 ^ t ∧ Lib.ctz 64 fr = t ∧ t < 64 ∧ fr < 4503599627370496 ∧ fr ≠ 0) := Lib.hid ⟨rfl, hmt, hct, ht, hf.fl, hfr⟩
  clear hA1 hA2 hF hR hT hf hmt hct hcl
  go_enter Tryz.func73, Tryz.ntmps73
  go_wp2_with fail
  refine (HSp.out _).mono ?_
  rintro e W1 ⟨rfl, b1⟩
  have hs1 := HA.out.2.2.1
  have hl1 : w.heap.size + 1 < W1.heap.size := Nat.lt_of_lt_of_le hs1 b1.size
  have HP : Hid (PartsU w (W1.alloc (.cells #[.bool g, .int .u64 (fr : Int), .int .i64 (-1075)] 60)) W1.heap.size g (.int .u64 (fr : Int)) (.int .i64 (-1075))) := Lib.hid (by
    have k1 := b1
    have hk : Below W1.heap.size W1 (W1.alloc (.cells #[.bool g, .int .u64 (fr : Int), .int .i64 (-1075)] 60)) := (Below.refl _ _).alloc (Nat.le_refl _) _
    have k := back_of' k1 hk
    exact ⟨HA.out.2.2.kept (c := (w.alloc (.cells #[.int .u64 52, .int .i64 2047, .int .i64 1075] 131)).heap.size + 1) (Kept.of_below k) (by simp), DecAt.new W1 _ _ _ _, HA.out.2.1.below k, back_of' HA.out.1 k, hl1⟩)
  obtain ⟨f0, f1, f2, fl⟩ := HA.out.2.1.below b1
  clear b1 HA HSp hs1
  go_wp2_with fail
  refine (HCl.out _).mono ?_
  rintro e W3 ⟨rfl, b3⟩
  have HP := Lib.hid (HP.out.below b3)
  clear b3 f0 f1 f2 fl HCl
  obtain ⟨-, d0, d1, d2, q0, q1, q2⟩ := id HP.out.d
  obtain ⟨f0, f1, f2, fl⟩ := HP.out.f
  go_upto_region 12 with (fail)
  have HP5 := Lib.hid (HP.out.set2 (.int .i64 (-1074)))
  clear d0 d1 d2 q0 q1 q2 f0 f1 f2 fl HP
  generalize W3.setCell ⟨W1.heap.size, 2, none⟩ (.int .i64 (-1074)) = wc at *
  obtain ⟨-, d0, d1, d2, q0, q1, q2⟩ := id HP5.out.d
  go_wp2_with fail
  refine (tz64_any fr t _ (by have := HM.out; omega) (by have := HM.out; omega) (HT.out.below ⟨HP5.out.b.os, HP5.out.b.tape, HP5.out.b.output, HP5.out.b.size, HP5.out.b.block⟩) HM.out.2.2.1).mono ?_
  rintro e W6 ⟨rfl, hw⟩
  obtain rfl := hw
  go_upto_region 15 with (fail)
  have HP8 := Lib.hid ((HP5.out.set1 (.int .u64 (m : Int))).set2 (.int .i64 X))
  clear d0 d1 d2 q0 q1 q2 HP5
  generalize (wc.setCell ⟨W1.heap.size, 1, none⟩ (.int .u64 (m : Int))).setCell ⟨W1.heap.size, 2, none⟩ (.int .i64 X) = W8 at *
  obtain ⟨-, d0, d1, d2, q0, q1, q2⟩ := id HP8.out.d
  obtain ⟨-, r0, r1, r2, g0, g1, g2⟩ := id HP8.out.r
  go_wp2_with fail
  exact bodyPost_ret (by simp [results, Tryz.results73, go_sem, r0, r1, r2]) rfl ⟨rfl, ((HP8.out.b.setCell (p := ⟨w.heap.size + 1, 0, none⟩) (Nat.le_succ _) _).setCell (p := ⟨w.heap.size + 1, 1, none⟩) (Nat.le_succ _) _).setCell (p := ⟨w.heap.size + 1, 2, none⟩) (Nat.le_succ _) _⟩

set_option maxRecDepth 8000 in
set_option maxHeartbeats 2000000 in
theorem parts_zero (f : Nat) (g : Bool) (w : World) (hf : Fields f g 0 0) :
    Calls Tryz.prog 73 #[.int .u64 (f : Int), fmt] w fun e w' => e = .returned (.tuple #[.agg #[.bool g, .int .u64 0, .int .i64 0], .int .i64 0]) ∧ Below w.heap.size w w' := by
  have hA1 := (Below.refl w.heap.size w).alloc (Nat.le_refl _) (.cells #[.int .u64 52, .int .i64 2047, .int .i64 1075] 131)
  have hA2 := hA1.alloc hA1.size (.cells #[.bool false, .int .u64 0, .int .i64 0] 60)
  have hF := (Fmt.new w 131).below ((Below.refl _ _).alloc (Nat.le_refl _) (.cells #[.bool false, .int .u64 0, .int .i64 0] 60))
  have hR : DecAt ((w.alloc (.cells #[.int .u64 52, .int .i64 2047, .int .i64 1075] 131)).alloc (.cells #[.bool false, .int .u64 0, .int .i64 0] 60)) (w.heap.size + 1) (.bool false) (.int .u64 0) (.int .i64 0) := by
    have := DecAt.new (w.alloc (.cells #[.int .u64 52, .int .i64 2047, .int .i64 1075] 131)) (.bool false) (.int .u64 0) (.int .i64 0) 60
    simpa using this
  have HSp := Lib.hid (fun W => split_dbl f W)
  rw [hf.sg, hf.ex, hf.fc] at HSp
  have hcl : clsV (f : Int) = 3 := by
    unfold clsV clsE
    rw [hf.ex, hf.fc]
    rfl
  have HCl := Lib.hid (fun W => class_dbl f W)
  rw [hcl] at HCl
  have HA := Lib.hid (And.intro hA2 (And.intro hF hR))
  have hw0 : wrap64 ((0 : Int) - 1075) = -1075 := by unfold wrap64; omega
  clear hA1 hA2 hF hR hf hcl
  go_enter Tryz.func73, Tryz.ntmps73
  go_wp2_with fail
  refine (HSp.out _).mono ?_
  rintro e W1 ⟨rfl, b1⟩
  have hs1 := HA.out.2.2.1
  have hl1 : w.heap.size + 1 < W1.heap.size := Nat.lt_of_lt_of_le hs1 b1.size
  have HP : Hid (PartsU w (W1.alloc (.cells #[.bool g, .int .u64 0, .int .i64 (-1075)] 60)) W1.heap.size g (.int .u64 0) (.int .i64 (-1075))) := Lib.hid (by
    have k1 := b1
    have hk : Below W1.heap.size W1 (W1.alloc (.cells #[.bool g, .int .u64 0, .int .i64 (-1075)] 60)) := (Below.refl _ _).alloc (Nat.le_refl _) _
    have k := back_of' k1 hk
    exact ⟨HA.out.2.2.kept (c := (w.alloc (.cells #[.int .u64 52, .int .i64 2047, .int .i64 1075] 131)).heap.size + 1) (Kept.of_below k) (by simp), DecAt.new W1 _ _ _ _, HA.out.2.1.below k, back_of' HA.out.1 k, hl1⟩)
  obtain ⟨f0, f1, f2, fl⟩ := HA.out.2.1.below b1
  clear b1 HA HSp hs1
  go_wp2_with fail
  refine (HCl.out _).mono ?_
  rintro e W3 ⟨rfl, b3⟩
  have HP8 := Lib.hid (HP.out.below b3)
  clear b3 f0 f1 f2 fl HCl HP
  obtain ⟨-, r0, r1, r2, g0, g1, g2⟩ := id HP8.out.r
  go_wp2_with fail
  exact bodyPost_ret (by simp [results, Tryz.results73, go_sem, r0, r1, r2]) rfl ⟨rfl, ((HP8.out.b.setCell (p := ⟨w.heap.size + 1, 0, none⟩) (Nat.le_succ _) _).setCell (p := ⟨w.heap.size + 1, 1, none⟩) (Nat.le_succ _) _).setCell (p := ⟨w.heap.size + 1, 2, none⟩) (Nat.le_succ _) _⟩

set_option maxRecDepth 8000 in
set_option maxHeartbeats 1000000 in
/-- the parts of a number of which the fields' parts are known -/
theorem Parts_of (f : Nat) (g : Bool) (m : Nat) (X : Int) (w : World) (hT : Tab64 w)
    (hp : ∀ W, Tab64 W → Calls Tryz.prog 73 #[.int .u64 (f : Int), fmt] W fun e w' => e = .returned (.tuple #[.agg #[.bool g, .int .u64 (m : Int), .int .i64 X], .int .i64 0]) ∧ Below W.heap.size W w') :
    Calls Tryz.prog 27 #[.float .f64 f] w fun e w' => e = .returned (.tuple #[.agg #[.bool g, .int .u64 (m : Int), .int .i64 X], .int .i64 0]) ∧ Below w.heap.size w w' := by
  have hA := (Below.refl w.heap.size w).alloc (Nat.le_refl _) (.cells #[.bool false, .int .u64 0, .int .i64 0] 60)
  have HA := Lib.hid (And.intro hA (DecAt.new w (.bool false) (.int .u64 0) (.int .i64 0) 60))
  have HT := Lib.hid hT
  have HQ := Lib.hid hp
  have hbits := run_bits f
  clear hA hT hp
  go_enter Tryz.func27, Tryz.ntmps27
  go_wp2_with fail
  refine (of_zero _).mono ?_
  rintro e W1 ⟨rfl, b1⟩
  have H1 := Lib.hid (And.intro (back_of' HA.out.1 b1) (HA.out.2.kept (c := w.heap.size + 1) (Kept.of_below b1) (by omega)))
  clear b1 HA
  go_wp2_with fail
  refine (HQ.out W1 (HT.out.below H1.out.1)).mono ?_
  rintro e W2 ⟨rfl, b2⟩
  have H2 := Lib.hid (And.intro (back_of' H1.out.1 b2) (H1.out.2.kept (c := W1.heap.size) (Kept.of_below b2) (Nat.ne_of_lt H1.out.2.1)))
  clear b2 H1
  obtain ⟨-, r0, r1, r2, g0, g1, g2⟩ := id H2.out.2
  go_wp2_with fail
  exact bodyPost_ret (by simp [results, Tryz.results27, go_sem, r0, r1, r2]) rfl ⟨rfl, by
    repeat' (first | exact H2.out.1 | apply Below.setCell)
    all_goals (show w.heap.size ≤ w.heap.size; omega)⟩
end Go.Proofs.YtgccfdfbnhldbaaGreatDoor

namespace Go.Proofs.YtgccfdfbnhldbaaGreatDoor
open Go Go.RowKit Nb Nx

theorem neg_flip {f : Nat} (hf : f < 18446744073709551616) : Op.negFloat .f64 f = (f + 9223372036854775808) % 18446744073709551616 := by
  show f ^^^ 2 ^ (11 + 52) = _
  apply Nat.eq_of_testBit_eq
  intro i
  have e : (f + 9223372036854775808) % 18446744073709551616 = (f / 9223372036854775808 + 1) % 2 * 2 ^ 63 + f % 2 ^ 63 := by
    rw [show (2 : Nat) ^ 63 = 9223372036854775808 by decide]
    omega
  rw [e, Nat.testBit_xor, Nat.testBit_two_pow]
  have hl : f % 2 ^ 63 < 2 ^ 63 := Nat.mod_lt _ (Nat.pow_pos (by omega))
  rw [Nat.mul_comm, Nat.testBit_two_pow_mul_add _ hl]
  by_cases h : i < 63
  · rw [if_pos h, Nat.testBit_mod_two_pow]
    have : ¬ 11 + 52 = i := by omega
    simp [h, this]
  · rw [if_neg h]
    by_cases h2 : i = 63
    · subst h2
      have h3 : f < 2 ^ 64 := hf
      simp only [Nat.testBit_eq_decide_div_mod_eq, show 11 + 52 = 63 by omega, Nat.sub_self, Nat.pow_zero, Nat.div_one, show (2 : Nat) ^ 63 = 9223372036854775808 by decide, decide_true, Bool.xor_true]
      have : f / 9223372036854775808 % 2 = 0 ∨ f / 9223372036854775808 % 2 = 1 := by omega
      rcases this with q | q
      · have : (f / 9223372036854775808 + 1) % 2 % 2 = 1 := by omega
        rw [q, this]; rfl
      · have : (f / 9223372036854775808 + 1) % 2 % 2 = 0 := by omega
        rw [q, this]; rfl
    · have h3 : f.testBit i = false := Nat.testBit_lt_two_pow (Nat.lt_of_lt_of_le hf (by rw [show (18446744073709551616 : Nat) = 2 ^ 64 by decide]; exact Nat.pow_le_pow_right (by omega) (by omega)))
      have h4 : ((f / 9223372036854775808 + 1) % 2).testBit (i - 63) = false := by
        apply Nat.testBit_lt_two_pow
        have := Nat.one_lt_two_pow (n := i - 63) (by omega)
        omega
      have h5 : ¬ 11 + 52 = i := by omega
      rw [h3, h4]
      simp [h5]

set_option maxRecDepth 8000 in
theorem inf_up (f : Nat) (w : World) (hf : f < 18446744073709551616) : Calls Tryz.prog 36 #[.float .f64 f, .int .i64 1] w fun e w' => e = .returned (.bool (decide (f = 9218868437227405312))) ∧ w' = w := by
  have hg := gt_max f hf
  generalize decide (f = 9218868437227405312) = q at hg
  go_enter Tryz.func36, Tryz.ntmps36
  go_wp2_with fail
  go_ret
  exact ⟨rfl, rfl⟩

set_option maxRecDepth 8000 in
theorem inf_down (f : Nat) (w : World) (hf : f < 18446744073709551616) : Calls Tryz.prog 36 #[.float .f64 f, .int .i64 (-1)] w fun e w' => e = .returned (.bool (decide (f = 18442240474082181120))) ∧ w' = w := by
  obtain ⟨f2, hf2⟩ : ∃ f2, (f + 9223372036854775808) % 18446744073709551616 = f2 := ⟨_, rfl⟩
  have hneg : ∀ W, (Op.unary .neg (.float .f64 f)).run Tryz.prog W = .ok (.float .f64 f2) W := fun W => by
    rw [← hf2, ← neg_flip hf]
    rfl
  have hg := gt_max f2 (by omega)
  have hd : decide (f = 18442240474082181120) = decide (f2 = 9218868437227405312) := by apply decide_eq_decide.2; omega
  rw [hd]
  clear hd hf2
  generalize decide (f2 = 9218868437227405312) = q at hg
  go_enter Tryz.func36, Tryz.ntmps36
  go_wp2_with fail
  go_ret
  exact ⟨rfl, rfl⟩

/-- the text of what is not finite -/
def specL (f : Nat) : List UInt8 := if nanN f = true then [110, 97, 110] else if f = 9218868437227405312 then [43, 105, 110, 102] else if f = 18442240474082181120 then [45, 105, 110, 102] else []
set_option maxRecDepth 8000 in
theorem special_any (f : Nat) (w : World) (hf : f < 18446744073709551616) : Calls Tryz.prog 25 #[.float .f64 f] w fun e w' => e = .returned (.tuple #[.string ⟨(specL f).toArray⟩, .bool (decide (specL f ≠ []))]) ∧ w' = w := by
  have hn := neq_self f
  have HU := Lib.hid (inf_up f w hf)
  have HD := Lib.hid (inf_down f w hf)
  unfold specL
  by_cases c1 : nanN f = true
  · rw [c1] at hn
    rw [if_pos c1]
    go_enter Tryz.func25, Tryz.ntmps25
    go_wp2_with fail
    go_ret2
    exact ⟨rfl, rfl⟩
  · rw [if_neg c1]
    rw [Bool.eq_false_iff.2 c1] at hn
    by_cases c2 : f = 9218868437227405312
    · rw [decide_eq_true c2] at HU
      rw [if_pos c2]
      clear c1 c2 hf
      go_enter Tryz.func25, Tryz.ntmps25
      go_wp2_with fail
      refine HU.out.mono ?_
      rintro e w1 ⟨rfl, hw⟩
      obtain rfl := hw.symm
      go_wp2_with fail
      go_ret2
      exact ⟨rfl, rfl⟩
    · rw [decide_eq_false c2] at HU
      rw [if_neg c2]
      by_cases c3 : f = 18442240474082181120
      · rw [decide_eq_true c3] at HD
        rw [if_pos c3]
        clear c1 c2 c3 hf
        go_enter Tryz.func25, Tryz.ntmps25
        go_wp2_with fail
        refine HU.out.mono ?_
        rintro e w1 ⟨rfl, hw⟩
        obtain rfl := hw.symm
        go_wp2_with fail
        refine HD.out.mono ?_
        rintro e w1 ⟨rfl, hw⟩
        obtain rfl := hw.symm
        go_wp2_with fail
        go_ret2
        exact ⟨rfl, rfl⟩
      · rw [decide_eq_false c3] at HD
        rw [if_neg c3]
        clear c1 c2 c3 hf
        go_enter Tryz.func25, Tryz.ntmps25
        go_wp2_with fail
        refine HU.out.mono ?_
        rintro e w1 ⟨rfl, hw⟩
        obtain rfl := hw.symm
        go_wp2_with fail
        refine HD.out.mono ?_
        rintro e w1 ⟨rfl, hw⟩
        obtain rfl := hw.symm
        go_wp2_with fail
        go_ret2
        exact ⟨rfl, rfl⟩

set_option maxRecDepth 8000 in
theorem signbit_any (f : Nat) (w : World) (hf : f < 18446744073709551616) : Calls Tryz.prog 72 #[.float .f64 f] w fun e w' => e = .returned (.bool (decide (9223372036854775808 ≤ f))) ∧ w' = w := by
  have hb := run_bits f
  have hs : decide (wrap64 (f : Int) < 0) = decide (9223372036854775808 ≤ f) := by
    apply decide_eq_decide.2
    unfold wrap64
    omega
  generalize decide (9223372036854775808 ≤ f) = q at hs
  go_enter Tryz.func72, Tryz.ntmps72
  go_wp2_with fail
  go_ret
  exact ⟨rfl, rfl⟩
/-- a sign ahead -/
def sgL (f : Nat) : List UInt8 := if 9223372036854775808 ≤ f then [45] else []
set_option maxRecDepth 8000 in
theorem begun_any (f : Nat) (w : World) (hf : f < 18446744073709551616) : Calls Tryz.prog 26 #[.float .f64 f] w fun e w' => e = .returned (.pointer (some ⟨w.heap.size, 0, none⟩)) ∧ Bld w' w.heap.size w.heap.size (sgL f) ∧ Below w.heap.size w w' := by
  have HB := Lib.hid (And.intro (Bld.new w) ((Below.refl w.heap.size w).alloc (Nat.le_refl _) (.cells #[.pointer none, .slice none 0 0] 106)))
  have HS := Lib.hid (fun W => signbit_any f W hf)
  unfold sgL
  by_cases c : 9223372036854775808 ≤ f
  · rw [decide_eq_true c] at HS
    rw [if_pos c]
    clear hf c
    go_enter Tryz.func26, Tryz.ntmps26
    go_wp2_with fail
    refine (HS.out _).mono ?_
    rintro e w1 ⟨rfl, rfl⟩
    go_wp2_with fail
    refine (wbyte w.heap.size w.heap.size [] 45 _ HB.out.1 (by decide) HB.out.2.size 45 rfl).mono ?_
    rintro e w2 ⟨rfl, d2, b2⟩
    have H2 := Lib.hid (And.intro d2 (HB.out.2.trans b2))
    clear d2 b2
    go_wp2_with fail
    go_ret
    exact ⟨rfl, H2.out.1, H2.out.2⟩
  · rw [decide_eq_false c] at HS
    rw [if_neg c]
    clear hf c
    go_enter Tryz.func26, Tryz.ntmps26
    go_wp2_with fail
    refine (HS.out _).mono ?_
    rintro e w1 ⟨rfl, rfl⟩
    go_wp2_with fail
    go_ret
    exact ⟨rfl, HB.out.1, HB.out.2⟩
end Go.Proofs.YtgccfdfbnhldbaaGreatDoor

namespace Go.Proofs.YtgccfdfbnhldbaaGreatDoor
open Go Go.RowKit Nb Nx

/-- a finite number's mantissa, the place of its last bit -/
def bigM (f : Nat) : Nat := if f / 4503599627370496 % 2048 = 0 then f % 4503599627370496 else f % 4503599627370496 + 4503599627370496
def bigX (f : Nat) : Int := if f / 4503599627370496 % 2048 = 0 then -1074 else (f / 4503599627370496 % 2048 : Nat) - 1075
/-- the same with an odd mantissa -/
def oddM (f : Nat) : Nat := bigM f / 2 ^ Lib.ctz 64 (bigM f)
def oddX (f : Nat) : Int := bigX f + (Lib.ctz 64 (bigM f) : Nat)
def fracR (m : Nat) : Nat := m * 2 ^ (53 - Lib.bitLen m) - 4503599627370496
/-- hexadecimal digits behind a point -/
def pointL (m : Nat) : List UInt8 := if Lib.bitLen m = 1 then [] else 46 :: digs 13 (fracR m)
def numL (m : Nat) (X : Int) : List UInt8 := [48, 120, 49] ++ pointL m ++ 112 :: Lib.itoa (X + (Lib.bitLen m : Nat) - 1)
/-- the hex form of any number -/
def hexL (f : Nat) : List UInt8 := if specL f = [] then sgL f ++ (if f % 9223372036854775808 = 0 then [48, 120, 48, 112, 48] else numL (oddM f) (oddX f)) else specL f

theorem spec_fin {f : Nat} (hf : f < 18446744073709551616) : specL f = [] ↔ f % 9223372036854775808 < 9218868437227405312 := by
  unfold specL nanN
  constructor
  · intro h
    split at h
    · simp at h
    · rename_i h1
      split at h
      · simp at h
      · split at h
        · simp at h
        · simp at h1
          omega
  · intro h
    rw [if_neg (by simp; omega), if_neg (by omega), if_neg (by omega)]

/-- what is known of a finite number that isn't nought -/
structure FinN (f : Nat) (t : Nat) : Prop where
  fl : Fields f (decide (9223372036854775808 ≤ f)) (f / 4503599627370496 % 2048) (f % 4503599627370496)
  m0 : bigM f = oddM f * 2 ^ t
  ct : Lib.ctz 64 (bigM f) = t
  t6 : t < 64
  od : oddM f % 2 = 1
  up : oddM f < 9007199254740992
  x0 : -1074 ≤ oddX f
  x1 : oddX f ≤ 1024
  xt : oddX f = bigX f + (t : Int)
theorem fields_of {f : Nat} (hf : f < 18446744073709551616) (h : f % 9223372036854775808 < 9218868437227405312) :
    Fields f (decide (9223372036854775808 ≤ f)) (f / 4503599627370496 % 2048) (f % 4503599627370496) := by
  have hc : cnN f = f := by
    unfold cnN nanN
    rw [if_neg (by simp; omega)]
  refine ⟨hf, by rw [sgn_eq hf, hc], ?_, by rw [frc_eq hf, hc], Nat.mod_lt _ (by omega), by omega⟩
  rw [exp_eq hf, hc]
  rw [IntKind.wrap_i64]
  omega
theorem finN {f : Nat} (hf : f < 18446744073709551616) (h : f % 9223372036854775808 < 9218868437227405312) (h0 : f % 9223372036854775808 ≠ 0) : ∃ t, FinN f t := by
  have hM0 : 0 < bigM f := by unfold bigM; split <;> omega
  have hM1 : bigM f < 9007199254740992 := by unfold bigM; split <;> omega
  obtain ⟨m, t, e1, e2, e3, e4⟩ := odd_part (bigM f) hM0 (by omega)
  have hm : oddM f = m := by
    unfold oddM
    rw [e3, e1]
    exact Nat.mul_div_cancel _ (Nat.pow_pos (by omega))
  have ht : t ≤ 53 := by
    rcases Nat.lt_or_ge 53 t with q | q
    · exfalso
      have h1 : 2 ^ 54 ≤ 2 ^ t := Nat.pow_le_pow_right (by omega) q
      have h2 : 1 * 2 ^ t ≤ m * 2 ^ t := Nat.mul_le_mul_right _ (by omega)
      have h3 : (2 : Nat) ^ 54 = 18014398509481984 := by decide
      omega
    · exact q
  have hm1 : m ≤ bigM f := by
    have h2 : m * 1 ≤ m * 2 ^ t := Nat.mul_le_mul_left _ (Nat.pow_pos (by omega))
    omega
  refine ⟨t, fields_of hf h, by rw [hm]; exact e1, e3, e4, by rw [hm]; exact e2, by rw [hm]; omega, ?_, ?_, by unfold oddX; rw [e3]⟩
  · unfold oddX bigX; rw [e3]; split <;> omega
  · unfold oddX bigX; rw [e3]; split <;> omega

theorem Parts_any (f t : Nat) (w : World) (hT : Tab64 w) (h : FinN f t) :
    Calls Tryz.prog 27 #[.float .f64 f] w fun e w' => e = .returned (.tuple #[.agg #[.bool (decide (9223372036854775808 ≤ f)), .int .u64 (oddM f : Int), .int .i64 (oddX f)], .int .i64 0]) ∧ Below w.heap.size w w' := by
  refine Parts_of f _ _ _ w hT ?_
  intro W hW
  have hx := h.xt
  have hm := h.m0
  have hc := h.ct
  have hM := h.od
  by_cases c : f / 4503599627370496 % 2048 = 0
  · have hfl := h.fl
    rw [c] at hfl
    have e : bigM f = f % 4503599627370496 := by unfold bigM; rw [if_pos c]
    have e2 : bigX f = -1074 := by unfold bigX; rw [if_pos c]
    rw [e] at hm hc
    rw [e2] at hx
    have hne : f % 4503599627370496 ≠ 0 := by
      intro h0
      rw [h0] at hm
      have : 0 < 2 ^ t := Nat.pow_pos (by omega)
      rcases Nat.mul_eq_zero.1 hm.symm with q | q <;> omega
    exact parts_sub f _ (oddM f) t _ (oddX f) W hW hfl hne hm hc h.t6 hx.symm
  · have e : bigM f = f % 4503599627370496 + 4503599627370496 := by unfold bigM; rw [if_neg c]
    have e2 : bigX f = (f / 4503599627370496 % 2048 : Nat) - 1075 := by unfold bigX; rw [if_neg c]
    exact parts_norm f _ _ (bigM f) (oddM f) t _ _ (oddX f) W hW h.fl c e.symm hm hc h.t6 e2.symm hx.symm
theorem Parts_zero (f : Nat) (w : World) (hT : Tab64 w) (hf : f < 18446744073709551616) (h0 : f % 9223372036854775808 = 0) :
    Calls Tryz.prog 27 #[.float .f64 f] w fun e w' => e = .returned (.tuple #[.agg #[.bool (decide (9223372036854775808 ≤ f)), .int .u64 0, .int .i64 0], .int .i64 0]) ∧ Below w.heap.size w w' := by
  refine Parts_of f _ 0 0 w hT ?_
  intro W _
  have hfl := fields_of hf (by omega)
  rw [show f / 4503599627370496 % 2048 = 0 by omega, show f % 4503599627370496 = 0 by omega] at hfl
  exact parts_zero f _ W hfl

theorem digs_len : ∀ (k r : Nat), (digs k r).length ≤ k := by
  intro k
  induction k with
  | zero => intro r; simp [digs]
  | succ k ih =>
    intro r
    unfold digs
    split
    · simp
    · simpa using ih _
theorem point_len (m : Nat) : (pointL m).length ≤ 14 := by
  unfold pointL
  split
  · simp
  · rw [List.length_cons]
    have := digs_len 13 (fracR m)
    omega
theorem itoa_len {E : Int} (h0 : -10000 < E) (h1 : E < 10000) : (Lib.itoa E).length ≤ 20 := by
  unfold Lib.itoa
  have h2 : ∀ n : Nat, n < 10000 → (Lib.decDigits n).length ≤ 19 := fun n hn => dec_len n (by omega)
  split
  · have := h2 E.natAbs (by omega)
    rw [List.length_cons]
    omega
  · have := h2 E.toNat (by omega)
    omega
end Go.Proofs.YtgccfdfbnhldbaaGreatDoor

namespace Go.Proofs.YtgccfdfbnhldbaaGreatDoor
open Go Go.RowKit Nb Nx

theorem joinBits {ex fr : Nat} (hex : ex < 2047) (hfr : fr < 4503599627370496) : bits .or .u64 ((ex : Int) * 4503599627370496) (fr : Int) = ((ex * 4503599627370496 + fr : Nat) : Int) := by
  rw [show ((ex : Int) * 4503599627370496) = ((ex * 4503599627370496 : Nat) : Int) by omega, u64_or_nat _ fr (by omega) (by omega)]
  rw [show ex * 4503599627370496 = ex <<< 52 by rw [Nat.shiftLeft_eq], ← Nat.shiftLeft_add_eq_or_of_lt (by omega : fr < 2 ^ 52), Nat.shiftLeft_eq]
theorem signBits {x : Nat} (h : x < 9223372036854775808) : bits .or .u64 (x : Int) 9223372036854775808 = ((x + 9223372036854775808 : Nat) : Int) := by
  have := or_high (o := x) (c := 1) (s := 63) (by omega) (by omega)
  simpa using this
theorem canon_fin {x : Nat} (h : x % 9223372036854775808 < 9218868437227405312) (hx : x < 18446744073709551616) : canonV (x : Int) = (x : Int) := by
  rw [canon_eq hx]
  unfold cnN nanN
  rw [if_neg (by simp; omega)]
set_option maxRecDepth 100000 in
set_option maxHeartbeats 1000000 in
theorem join_ok (ng : Bool) (ex fr : Nat) (w : World) (hex : ex < 2047) (hfr : fr < 4503599627370496) :
    Calls Tryz.prog 174 #[.bool ng, .int .i64 (ex : Int), .int .u64 (fr : Int), fmt] w fun e w' => e = .returned (.tuple #[.int .u64 ((ex * 4503599627370496 + fr + (if ng = true then 9223372036854775808 else 0) : Nat) : Int), .int .i64 0]) ∧ Below w.heap.size w w' := by
  have HF := Lib.hid (fmt_at w 131)
  have HB := Lib.hid (fmt_below w 131)
  have hj := joinBits hex hfr
  have hs := signBits (x := ex * 4503599627370496 + fr) (by omega)
  obtain ⟨B, hB⟩ : ∃ B, ex * 4503599627370496 + fr = B := ⟨_, rfl⟩
  rw [hB] at hj hs ⊢
  have HC := Lib.hid (fun W => canon_dbl (B : Int) W)
  rw [canon_fin (by omega) (by omega)] at HC
  have HC' := Lib.hid (fun W => canon_dbl ((B + 9223372036854775808 : Nat) : Int) W)
  rw [canon_fin (by omega) (by omega)] at HC'
  have HH := Lib.hid (fun W => hidden_dbl W)
  obtain ⟨Hd, hHd⟩ : ∃ Hd : Int, 4503599627370496 = Hd := ⟨_, rfl⟩
  rw [hHd] at HH
  have HJ := Lib.hid (And.intro hj hs)
  have hB' := Lib.hid hB
  clear hj hs hB
  have hc1 : ¬ ((ex : Int) < 0) := by omega
  have hc2 : ¬ ((2047 : Int) < (ex : Int)) := by omega
  have hc3 : ¬ (Hd ≤ (fr : Int)) := by omega
  have HHd := Lib.hid hHd
  clear hex hfr hHd
  go_enter Tryz.func174, Tryz.ntmps174
  go_wp2_with fail
  generalize w.alloc (.cells #[.int .u64 52, .int .i64 2047, .int .i64 1075] 131) = W0 at *
  obtain ⟨hg, f0, f1, f2⟩ := HF.out
  go_wp2_with fail
  refine (HH.out W0).mono ?_
  rintro e w1 ⟨rfl, hb1⟩
  have HF1 := Lib.hid (HF.out.below hb1)
  have HB1 := Lib.hid (back_of HB.out hb1)
  clear hb1 f0 f1 f2 hg HB HF
  obtain ⟨hg, f0, f1, f2⟩ := HF1.out
  go_upto_region 3 with (fail)
  go_upto_region 4 with (fail)
  rw [HJ.out.1]
  cases ng
  · go_wp2_with fail
    refine (HC.out w1).mono ?_
    rintro e w2 ⟨rfl, hb2⟩
    have HF2 := Lib.hid (back_of HB1.out hb2)
    clear hb2
    go_wp2_with fail
    go_ret2
    exact ⟨rfl, HF2.out⟩
  · go_wp2_with fail
    refine (sign_dbl w1).mono ?_
    rintro e w2 ⟨rfl, hb2⟩
    have HF2 := Lib.hid (HF1.out.below hb2)
    have HB2 := Lib.hid (back_of HB1.out hb2)
    clear hb2 f0 f1 f2 hg
    obtain ⟨hg, f0, f1, f2⟩ := HF2.out
    go_upto_region 6 with (fail)
    rw [HJ.out.2]
    go_wp2_with fail
    refine (HC'.out w2).mono ?_
    rintro e w3 ⟨rfl, hb3⟩
    have HF3 := Lib.hid (back_of HB2.out hb3)
    clear hb3
    go_wp2_with fail
    go_ret2
    exact ⟨rfl, HF3.out⟩
end Go.Proofs.YtgccfdfbnhldbaaGreatDoor

namespace Go.Proofs.YtgccfdfbnhldbaaGreatDoor
open Go Go.RowKit Nb Nx

/-- the two boxes that made reads -/
structure MdAt (w W : World) (ng : Bool) (M E : Int) : Prop where
  b : Below w.heap.size w W
  d0 : W.cell? ⟨w.heap.size, 0, none⟩ = some (.bool ng)
  d1 : W.cell? ⟨w.heap.size, 1, none⟩ = some (.int .u64 M)
  d2 : W.cell? ⟨w.heap.size, 2, none⟩ = some (.int .i64 E)
  f0 : W.cell? ⟨w.heap.size + 1, 0, none⟩ = some (.int .u64 52)
  f1 : W.cell? ⟨w.heap.size + 1, 1, none⟩ = some (.int .i64 2047)
  f2 : W.cell? ⟨w.heap.size + 1, 2, none⟩ = some (.int .i64 1075)
  l : w.heap.size + 1 < W.heap.size
theorem MdAt.below {w W W' : World} {ng : Bool} {M E : Int} (h : MdAt w W ng M E) (k : Below W.heap.size W W') : MdAt w W' ng M E := by
  have hl := h.l
  exact ⟨back_of' h.b k, (k.cell (p := ⟨w.heap.size, 0, none⟩) (by show w.heap.size < _; omega)).trans h.d0, (k.cell (p := ⟨w.heap.size, 1, none⟩) (by show w.heap.size < _; omega)).trans h.d1, (k.cell (p := ⟨w.heap.size, 2, none⟩) (by show w.heap.size < _; omega)).trans h.d2, (k.cell (p := ⟨w.heap.size + 1, 0, none⟩) hl).trans h.f0, (k.cell (p := ⟨w.heap.size + 1, 1, none⟩) hl).trans h.f1, (k.cell (p := ⟨w.heap.size + 1, 2, none⟩) hl).trans h.f2, Nat.lt_of_lt_of_le hl k.size⟩
theorem MdAt.held {w W : World} {ng : Bool} {M E : Int} (h : MdAt w W ng M E) : W.cell? ⟨w.heap.size, 0, none⟩ = some (.bool ng) ∧ W.cell? ⟨w.heap.size + 1, 0, none⟩ = some (.int .u64 52) ∧ W.cell? ⟨w.heap.size + 1, 1, none⟩ = some (.int .i64 2047) ∧ W.cell? ⟨w.heap.size + 1, 2, none⟩ = some (.int .i64 1075) := ⟨h.d0, h.f0, h.f1, h.f2⟩
theorem MdAt.new (w : World) (ng : Bool) (M E : Int) (T T' : TypeId) : MdAt w ((w.alloc (.cells #[.bool ng, .int .u64 M, .int .i64 E] T)).alloc (.cells #[.int .u64 52, .int .i64 2047, .int .i64 1075] T')) ng M E := by
  have h1 := (Below.refl w.heap.size w).alloc (Nat.le_refl _) (.cells #[.bool ng, .int .u64 M, .int .i64 E] T)
  exact ⟨h1.alloc h1.size _, by simp [go_sem], by simp [go_sem], by simp [go_sem], by simp [go_sem], by simp [go_sem], by simp [go_sem], by simp⟩
theorem join_zero (ng : Bool) (w : World) :
    Calls Tryz.prog 174 #[.bool ng, .int .i64 0, .int .u64 0, fmt] w fun e w' => e = .returned (.tuple #[.int .u64 ((if ng = true then 9223372036854775808 else 0 : Nat) : Int), .int .i64 0]) ∧ Below w.heap.size w w' := by
  have h := join_ok ng 0 0 w (by omega) (by omega)
  rw [Nat.zero_mul, Nat.zero_add] at h
  exact h
theorem join_sub (ng : Bool) (fr : Nat) (w : World) (hfr : fr < 4503599627370496) :
    Calls Tryz.prog 174 #[.bool ng, .int .i64 0, .int .u64 (fr : Int), fmt] w fun e w' => e = .returned (.tuple #[.int .u64 ((fr + (if ng = true then 9223372036854775808 else 0) : Nat) : Int), .int .i64 0]) ∧ Below w.heap.size w w' := by
  have h := join_ok ng 0 fr w (by omega) hfr
  rw [Nat.zero_mul, Nat.zero_add] at h
  exact h
set_option maxRecDepth 100000 in
set_option maxHeartbeats 1000000 in
/-- nought -/
theorem made_zero (ng : Bool) (E : Int) (w : World) :
    Calls Tryz.prog 122 #[.agg #[.bool ng, .int .u64 0, .int .i64 E], fmt] w fun e w' => e = .returned (.tuple #[.int .u64 ((if ng = true then 9223372036854775808 else 0 : Nat) : Int), .int .i64 0]) ∧ Below w.heap.size w w' := by
  have HM := Lib.hid (MdAt.new w ng 0 E 60 131)
  have HJ := Lib.hid (fun W => join_zero ng W)
  obtain ⟨R, hR⟩ : ∃ R : Int, ((if ng = true then 9223372036854775808 else 0 : Nat) : Int) = R := ⟨_, rfl⟩
  rw [hR] at HJ ⊢
  clear hR
  go_enter Tryz.func122, Tryz.ntmps122
  go_upto_region 1 with (fail)
  generalize (w.alloc (.cells #[.bool ng, .int .u64 0, .int .i64 E] 60)).alloc (.cells #[.int .u64 52, .int .i64 2047, .int .i64 1075] 131) = W0 at *
  obtain ⟨-, d0, d1, d2, f0, f1, f2, -⟩ := HM.out
  go_wp2_with fail
  refine (HJ.out W0).mono ?_
  rintro e w1 ⟨rfl, b1⟩
  have HF := Lib.hid (back_of' HM.out.b b1)
  clear b1
  go_wp2_with fail
  go_ret2
  exact ⟨rfl, HF.out⟩
/-- what the numbers under way are -/
structure MdN (X M m s : Nat) (E : Int) (L t : Nat) : Prop where
  M0 : M ≠ 0
  M6 : M < 18446744073709551616
  mt : M = m * 2 ^ s
  ct : Lib.ctz 64 M = s
  le : Lib.bitLen m = L
  L5 : L ≤ 53
  dn : min (53 - (L : Int)) (E + s + 1074) = (t : Int)
  E0 : -2000 ≤ E
  E1 : E ≤ 2000
  Ex : -1074 ≤ E + s
  s6 : s < 64
  tm : t < 64
  up : m * 2 ^ t < 9007199254740992
  sb : m * 2 ^ t < 4503599627370496 → m * 2 ^ t = X
  nm : 4503599627370496 ≤ m * 2 ^ t → ∃ ex : Nat, E + s - t + 1075 = ex ∧ ex < 2047 ∧ ex * 4503599627370496 + (m * 2 ^ t - 4503599627370496) = X
set_option maxRecDepth 100000 in
set_option maxHeartbeats 2000000 in
theorem made_core (ng : Bool) (X M m s : Nat) (E : Int) (L t : Nat) (w : World) (hT : Tab64 w) (h : MdN X M m s E L t) :
    Calls Tryz.prog 122 #[.agg #[.bool ng, .int .u64 (M : Int), .int .i64 E], fmt] w fun e w' => e = .returned (.tuple #[.int .u64 ((X + (if ng = true then 9223372036854775808 else 0) : Nat) : Int), .int .i64 0]) ∧ Below w.heap.size w w' := by
  have HM := Lib.hid (MdAt.new w ng (M : Int) E 60 131)
  have HN := Lib.hid h
  have HT := Lib.hid hT
  have hM0 : ((M : Int) == 0) = false := by have := h.M0; simp; omega
  have hE0 : ¬ ((2150 : Int) < E) := by have := h.E1; omega
  have hE1 : ¬ (E < (-2150 : Int)) := by have := h.E0; omega
  have hdv : (M : Int) / 2 ^ s = (m : Int) := by
    have e : (M / 2 ^ s : Nat) = m := by rw [h.mt]; exact Nat.mul_div_cancel _ (Nat.pow_pos (by omega))
    rw [← e, Int.natCast_ediv, Int.natCast_pow]; rfl
  have hw1 : wrap64 (E + (s : Int)) = E + s := by have := h.E0; have := h.E1; have := h.s6; unfold wrap64; omega
  have hms : min s 64 = s := by have := h.s6; omega
  have Hm6 : Hid (m < 18446744073709551616) := Lib.hid (Nat.lt_of_le_of_lt (by rw [h.mt]; exact Nat.le_mul_of_pos_right _ (Nat.two_pow_pos _)) h.M6)
  obtain ⟨R, hR⟩ : ∃ R : Int, ((X + (if ng = true then 9223372036854775808 else 0) : Nat) : Int) = R := ⟨_, rfl⟩
  rw [hR]
  have HR := Lib.hid hR
  clear h hT hR
  go_enter Tryz.func122, Tryz.ntmps122
  go_upto_region 1 with (fail)
  generalize (w.alloc (.cells #[.bool ng, .int .u64 (M : Int), .int .i64 E] 60)).alloc (.cells #[.int .u64 52, .int .i64 2047, .int .i64 1075] 131) = W0 at *
  obtain ⟨hB0, d0, d1, d2, f0, f1, f2, -⟩ := HM.out
  have HT0 := Lib.hid (HT.out.below hB0)
  clear hB0
  go_upto_region 5 with (fail)
  go_wp2_with fail
  refine (tz64_any M s _ HN.out.M0 HN.out.M6 HT0.out HN.out.ct).mono ?_
  rintro e w1 ⟨rfl, hw⟩
  obtain rfl := hw
  go_upto_region 6 with (fail)
  go_region
  obtain ⟨W1, hW1⟩ : ∃ W1, W0.drew = W1 := ⟨_, rfl⟩
  have HM1 : Hid (MdAt w W1 ng M E) := Lib.hid (by rw [← hW1]; exact HM.out.below (Below.refl _ _).drew)
  rw [hW1]
  clear hW1 d0 d1 d2 f0 f1 f2 HM HT HT0
  obtain ⟨-, d0, d1, d2, f0, f1, f2, -⟩ := HM1.out
  obtain ⟨F, hF⟩ : ∃ F : Int, E + s = F := ⟨_, rfl⟩
  have HFe := Lib.hid hF
  rw [hF]
  clear hF hw1 hms hdv
  have hL5 : ¬ ((53 : Int) < (L : Int)) := by have := HN.out.L5; omega
  have hFx : ¬ (F < (-1074 : Int)) := by have := HN.out.Ex; have := HFe.out; omega
  go_wp2_with fail
  refine (len_bits m L _ Hm6.out HN.out.le).mono ?_
  rintro e w2 ⟨rfl, hw⟩
  obtain rfl := hw.symm
  go_upto_region 12 with (fail)
  have hmin : min (53 - (L : Int)) (wrap64 (F + 1074)) = (t : Int) := by
    have h1 := HN.out.dn
    have h2 : wrap64 (F + 1074) = E + s + 1074 := by have := HFe.out; have := HN.out.s6; unfold wrap64; omega
    rw [h2]; exact h1
  rw [hmin]
  clear hmin
  go_upto_region 13 with (fail)
  obtain ⟨P, hP⟩ : ∃ P, m * 2 ^ t = P := ⟨_, rfl⟩
  have HP := Lib.hid (show P < 9007199254740992 ∧ (P < 4503599627370496 → P = X) ∧ (4503599627370496 ≤ P → ∃ ex : Nat, F - t + 1075 = ex ∧ ex < 2047 ∧ ex * 4503599627370496 + (P - 4503599627370496) = X) by
    have h1 := HN.out.up
    have h2 := HN.out.sb
    have h3 := HN.out.nm
    rw [hP] at h1 h2 h3
    rw [HFe.out] at h3
    exact ⟨h1, h2, h3⟩)
  have hsh : IntKind.u64.wrap ((m : Int) * 2 ^ min t 64) = (P : Int) := by
    rw [show min t 64 = t by have := HN.out.tm; omega]
    have e : (m : Int) * 2 ^ t = ((m * 2 ^ t : Nat) : Int) := by rw [Int.natCast_mul, Int.natCast_pow]; rfl
    rw [e, hP, IntKind.wrap_u64]
    have := HP.out.1
    omega
  rw [hsh]
  obtain ⟨G, hG⟩ : ∃ G : Int, F - t = G := ⟨_, rfl⟩
  have HG := Lib.hid hG
  have hwt : wrap64 (F - (t : Int)) = G := by have := HFe.out; have := HN.out.s6; have := HN.out.tm; unfold wrap64; omega
  have HGb := Lib.hid (show -5000 ≤ G ∧ G ≤ 5000 by have := HFe.out; have := HN.out.s6; have := HN.out.tm; omega)
  have HH := Lib.hid (fun W => hidden_f W)
  obtain ⟨Hd, hHd⟩ : ∃ Hd : Int, 4503599627370496 = Hd := ⟨_, rfl⟩
  rw [hHd] at HH
  have HHd := Lib.hid hHd
  clear hsh hP hG hHd hFx hL5
  go_upto_region 14 with (fail)
  by_cases hc : P < 4503599627370496
  · have hlt : ((P : Int) < Hd) := by have := HHd.out; omega
    have HX := Lib.hid (HP.out.2.1 hc)
    have hJ := fun W => join_sub ng P W hc
    have e1 : ((P + (if ng = true then 9223372036854775808 else 0) : Nat) : Int) = R := by rw [HX.out]; exact HR.out
    rw [e1] at hJ
    have HJ := Lib.hid hJ
    clear hJ e1 HX
    clear hc HP
    go_wp2_with fail
    refine (HH.out W1).mono ?_
    rintro e w2 ⟨rfl, b2⟩
    have HM2 := Lib.hid (HM1.out.below b2)
    clear b2 d0 d1 d2 f0 f1 f2 HM1
    obtain ⟨-, d0, d1, d2, f0, f1, f2, -⟩ := HM2.out
    go_upto_region 15 with (fail)
    go_wp2_with fail
    refine (HJ.out w2).mono ?_
    rintro e w3 ⟨rfl, b3⟩
    have HF3 := Lib.hid (back_of' HM2.out.b b3)
    clear b3
    go_wp2_with fail
    go_ret2
    exact ⟨rfl, HF3.out⟩
  · have hlt : ¬ ((P : Int) < Hd) := by have := HHd.out; omega
    obtain ⟨ex, hex, hex7, hexX⟩ := HP.out.2.2 (by omega)
    have HJ := Lib.hid (fun W => join_ok ng ex (P - 4503599627370496) W hex7 (by have := HP.out.1; omega))
    rw [hexX, HR.out] at HJ
    have hwe : wrap64 (G + 1075) = (ex : Int) := by have := HG.out; have := HGb.out; unfold wrap64; omega
    have hwq : IntKind.u64.wrap ((P : Int) - Hd) = ((P - 4503599627370496 : Nat) : Int) := by have := HHd.out; have := HP.out.1; rw [IntKind.wrap_u64]; omega
    have he7 : ¬ ((2047 : Int) ≤ (ex : Int)) := by omega
    clear hex hex7 hexX hc HP
    obtain ⟨Q, hQ⟩ : ∃ Q, P - 4503599627370496 = Q := ⟨_, rfl⟩
    rw [hQ] at HJ hwq
    clear hQ
    go_wp2_with fail
    refine (HH.out W1).mono ?_
    rintro e w2 ⟨rfl, b2⟩
    have HM2 := Lib.hid (HM1.out.below b2)
    clear b2 d0 d1 d2 f0 f1 f2 HM1
    obtain ⟨-, d0, d1, d2, f0, f1, f2, -⟩ := HM2.out
    go_upto_region 19 with (fail)
    have hc : Below w2.heap.size w2 w2.drew := (Below.refl _ _).drew
    go_region_held3 (fun w' => w'.cell? ⟨w.heap.size, 0, none⟩ = some (.bool ng) ∧ w'.cell? ⟨w.heap.size + 1, 0, none⟩ = some (.int .u64 52) ∧ w'.cell? ⟨w.heap.size + 1, 1, none⟩ = some (.int .i64 2047) ∧ w'.cell? ⟨w.heap.size + 1, 2, none⟩ = some (.int .i64 1075))
      (exact (HM2.out.below hc).held)
      (first | (go_at_call 128; refine (HH.out _).mono ?_; rintro e w1 ⟨rfl, hb1⟩; replace hc := back_of hc hb1; clear hb1) | (go_at_call 174; refine (HJ.out _).mono ?_; rintro e w1 ⟨rfl, hb1⟩; replace hc := back_of hc hb1; clear hb1))
    go_wp2_with fail
    go_ret2
    exact ⟨rfl, back_of' HM2.out.b hc⟩
end Go.Proofs.YtgccfdfbnhldbaaGreatDoor

namespace Go.Proofs.YtgccfdfbnhldbaaGreatDoor.Nx
open Go

/-- the value of a hexadecimal digit -/
def hxv (b : UInt8) : Nat := if b.toNat < 58 then b.toNat - 48 else b.toNat - 87
theorem hxv_hxd {n : Nat} (h : n < 16) : hxv (hxd n) = n := by
  unfold hxv hxd
  by_cases c : n < 10
  · rw [if_pos c]
    have e : (UInt8.ofNat (48 + n)).toNat = 48 + n := by rw [UInt8.toNat_ofNat_of_lt']; show _ < 256; omega
    rw [e, if_pos (by omega)]; omega
  · rw [if_neg c]
    have e : (UInt8.ofNat (87 + n)).toNat = 87 + n := by rw [UInt8.toNat_ofNat_of_lt']; show _ < 256; omega
    rw [e, if_neg (by omega)]; omega
/-- a byte that is a hexadecimal digit -/
def IsHx (b : UInt8) : Prop := (48 ≤ b.toNat ∧ b.toNat ≤ 57) ∨ (97 ≤ b.toNat ∧ b.toNat ≤ 102)
theorem hxd_is {n : Nat} (h : n < 16) : IsHx (hxd n) := by
  unfold IsHx hxd
  by_cases c : n < 10
  · rw [if_pos c]
    have e : (UInt8.ofNat (48 + n)).toNat = 48 + n := by rw [UInt8.toNat_ofNat_of_lt']; show _ < 256; omega
    rw [e]; omega
  · rw [if_neg c]
    have e : (UInt8.ofNat (87 + n)).toNat = 87 + n := by rw [UInt8.toNat_ofNat_of_lt']; show _ < 256; omega
    rw [e]; omega
theorem digs_hx : ∀ (k r : Nat), r < 4503599627370496 → ∀ b ∈ digs k r, IsHx b
  | 0, _, _, b, hb => by simp [digs] at hb
  | k + 1, r, hr, b, hb => by
    by_cases c : r = 0
    · rw [c, digs_zero] at hb; simp at hb
    · rw [digs_cons c] at hb
      rcases List.mem_cons.1 hb with rfl | hb
      · exact hxd_is (by omega)
      · exact digs_hx k _ (by omega) b hb
/-- digits behind what was read -/
def hexVal (M : Nat) (l : List UInt8) : Nat := l.foldl (fun a b => a * 16 + hxv b) M
theorem hexVal_cons (M : Nat) (b : UInt8) (l : List UInt8) : hexVal M (b :: l) = hexVal (M * 16 + hxv b) l := rfl
theorem hexVal_snoc (M : Nat) (l : List UInt8) (b : UInt8) : hexVal M (l ++ [b]) = hexVal M l * 16 + hxv b := by
  unfold hexVal
  rw [List.foldl_append]
  rfl
theorem digs_read : ∀ (k r M : Nat), FracOk k r → hexVal M (digs k r) * 4503599627370496 = 16 ^ (digs k r).length * (M * 4503599627370496 + r)
  | 0, r, M, h => by
    have h0 := frac_end h
    subst h0
    simp [digs, hexVal]
  | k + 1, r, M, h => by
    by_cases c : r = 0
    · subst c
      simp [digs_zero, hexVal]
    · have hs := frac_step h
      have hr := h.1
      have ih := digs_read k (r % 281474976710656 * 16) (M * 16 + r / 281474976710656) hs
      rw [digs_cons c, hexVal_cons, hxv_hxd (by omega), List.length_cons, ih, Nat.pow_succ, Nat.mul_assoc (16 ^ _)]
      refine congrArg _ ?_
      have e := Nat.div_add_mod r 281474976710656
      generalize r / 281474976710656 = q at *
      generalize r % 281474976710656 = s at *
      subst e
      rw [show (4503599627370496 : Nat) = 16 * 281474976710656 by decide]
      generalize 281474976710656 = B
      simp only [Nat.add_mul, Nat.mul_add]
      ac_rfl
theorem digs_len : ∀ (k r : Nat), (digs k r).length ≤ k
  | 0, _ => by simp [digs]
  | k + 1, r => by
    by_cases c : r = 0
    · rw [c, digs_zero]; simp
    · rw [digs_cons c, List.length_cons]
      have := digs_len k (r % 281474976710656 * 16)
      omega
theorem hexVal_lt : ∀ (l : List UInt8) (M n : Nat), (∀ b ∈ l, IsHx b) → M < 2 ^ n → hexVal M l < 2 ^ (n + 4 * l.length)
  | [], M, n, _, h => by simpa [hexVal] using h
  | b :: l, M, n, hb, h => by
    rw [hexVal_cons]
    have h1 : hxv b < 16 := by
      have := hb b List.mem_cons_self
      unfold IsHx at this
      unfold hxv
      split <;> omega
    have h2 := hexVal_lt l (M * 16 + hxv b) (n + 4) (fun x hx => hb x (List.mem_cons_of_mem _ hx)) (by rw [Nat.pow_add]; omega)
    rw [List.length_cons, show n + 4 * (l.length + 1) = n + 4 + 4 * l.length by omega]
    exact h2
end Go.Proofs.YtgccfdfbnhldbaaGreatDoor.Nx

namespace Go.Proofs.YtgccfdfbnhldbaaGreatDoor.Nb
open Nx

theorem parts_val {X t p q r s : Nat} (hX : X < 9218868437227405312) (h : FinN X t) (hr : 2 ^ (oddX X).toNat = r) (hs : 2 ^ (-oddX X).toNat = s) (hv : p * s = oddM X * r * q) : p * 2 ^ 1074 = amt64 X * q := by
  obtain ⟨T, hT⟩ : ∃ T : Nat, T = 1074 := ⟨_, rfl⟩
  rw [← hT]
  have hb : bigM X = mag64 X := by
    unfold bigM mag64
    by_cases c : X < 4503599627370496
    · rw [if_pos (by omega), if_pos c]; omega
    · rw [if_neg (by omega), if_neg c]; omega
  have hx : bigX X = -1074 + (plc64 X : Int) := by
    unfold bigX plc64
    by_cases c : X < 4503599627370496
    · rw [if_pos (by omega)]; omega
    · rw [if_neg (by omega)]; omega
  have h1 := h.m0
  have h2 := h.xt
  rw [hb] at h1
  rw [hx] at h2
  have hs0 : 0 < s := hs ▸ Nat.two_pow_pos _
  have e1 : amt64 X = oddM X * 2 ^ (t + plc64 X) := by unfold amt64; rw [h1, Nat.mul_assoc, ← Nat.pow_add]
  have e2 : r * 2 ^ T = s * 2 ^ (t + plc64 X) := by
    rw [← hr, ← hs, ← Nat.pow_add, ← Nat.pow_add]
    congr 1
    omega
  refine Nat.eq_of_mul_eq_mul_right hs0 ?_
  rw [Nat.mul_right_comm, hv, e1]
  have e3 : oddM X * r * q * 2 ^ T = oddM X * q * (r * 2 ^ T) := by ac_rfl
  rw [e3, e2]
  ac_rfl
theorem val_in {X p q : Nat} (hX : X < 9218868437227405312) (h0 : 0 < X) (hq : 0 < q) (hv : p * 2 ^ 1074 = amt64 X * q) : 0 < p ∧ q ≤ p * 10 ^ 400 ∧ p < q * 10 ^ 400 := by
  have ha : 1 ≤ amt64 X := by
    have := @amt_lt_iff 0 X
    omega
  obtain ⟨D, hD⟩ : ∃ D : Nat, D = 2 ^ 1074 := ⟨_, rfl⟩
  rw [← hD] at hv
  obtain ⟨B, hB⟩ : ∃ B : Nat, B = 2045 := ⟨_, rfl⟩
  have hb : amt64 X < 2 ^ (53 + B) := by
    have h1 : mag64 X < 2 ^ 53 := by unfold mag64; split <;> omega
    have h2 : plc64 X ≤ B := by unfold plc64; omega
    have h3 : 2 ^ plc64 X ≤ 2 ^ B := Nat.pow_le_pow_right (by omega) h2
    unfold amt64
    have h4 := Nat.mul_lt_mul_of_lt_of_le h1 h3 (Nat.two_pow_pos _)
    rwa [← Nat.pow_add] at h4
  have c1 : D ≤ 10 ^ 400 := by rw [hD]; decide +kernel
  have c2 : (2 : Nat) ^ (53 + B) ≤ 10 ^ 400 * D := by rw [hB, hD]; decide +kernel
  have g1 : q ≤ p * D := by rw [hv]; exact Nat.le_mul_of_pos_left _ ha
  have hp : 0 < p := by
    rcases Nat.eq_zero_or_pos p with z | z
    · rw [z, Nat.zero_mul] at g1; omega
    · exact z
  refine ⟨hp, Nat.le_trans g1 (Nat.mul_le_mul_left _ c1), ?_⟩
  refine Nat.lt_of_mul_lt_mul_right (a := D) ?_
  rw [hv]
  refine Nat.lt_of_lt_of_le (Nat.mul_lt_mul_of_pos_right hb hq) ?_
  rw [Nat.mul_comm, Nat.mul_assoc]
  exact Nat.mul_le_mul_left _ c2
end Go.Proofs.YtgccfdfbnhldbaaGreatDoor.Nb

namespace Go.Proofs.YtgccfdfbnhldbaaGreatDoor.Nb
open Go Go.RowKit Nx

set_option maxRecDepth 8000 in
theorem rbits_any (f : Nat) (w : World) (_ : f < 18446744073709551616) : Calls Tryz.prog 54 #[.float .f64 f] w fun e w' => e = .returned (.int .u64 (cnN f : Int)) ∧ w' = w := by
  have hn := neq_self f
  have hb := run_bits f
  unfold cnN
  cases hh : nanN f
  · rw [hh] at hn
    go_enter Tryz.func54, Tryz.ntmps54
    go_wp2_with fail
    go_ret
    exact ⟨rfl, rfl⟩
  · rw [hh] at hn
    go_enter Tryz.func54, Tryz.ntmps54
    go_wp2_with fail
    go_ret
    exact ⟨rfl, rfl⟩
end Go.Proofs.YtgccfdfbnhldbaaGreatDoor.Nb
