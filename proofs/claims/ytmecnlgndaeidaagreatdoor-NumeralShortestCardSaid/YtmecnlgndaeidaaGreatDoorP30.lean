/- X7 X8 SN1 SN2 SN3 X9 SN4 BK5 SH9 in one text. -/
import Derived.Test.YtmecnlgndaeidaaGreatDoorP29
import Derived.Test.YtmecnlgndaeidaaGreatDoorP16
import Derived.Test.YtmecnlgndaeidaaGreatDoorP17
import Derived.Test.YtmecnlgndaeidaaGreatDoorP28
import Derived.Test.YtmecnlgndaeidaaGreatDoorP15
import Derived.Test.YtmecnlgndaeidaaGreatDoorP26

namespace Go.Proofs.YtmecnlgndaeidaaGreatDoor
open Go Go.RowKit Nb Nx

theorem or_first {fr : Nat} (h : fr < 4503599627370496) : bits .or .u64 (fr : Int) 4503599627370496 = ((fr + 4503599627370496 : Nat) : Int) := by
  have := or_high (o := fr) (c := 1) (s := 52) (by omega) (by omega)
  simpa using this
/-- parts under way, whatever the sign -/
structure PartsU (w W : World) (dB : Nat) (g : Bool) (v1 v2 : Value) : Prop where
  r : DecAt W (w.heap.size + 1) (.bool false) (.int .u64 0) (.int .i64 0)
  d : DecAt W dB (.bool g) v1 v2
  f : Fmt W w.heap.size
  b : Below w.heap.size w W
  h : w.heap.size + 1 < dB
theorem PartsU.below {w W W' : World} {dB : Nat} {g : Bool} {v1 v2 : Value} (h : PartsU w W dB g v1 v2) (k : Below W.heap.size W W') : PartsU w W' dB g v1 v2 :=
  ⟨h.r.kept (c := W.heap.size) (Kept.of_below k) (Nat.ne_of_lt h.r.1), h.d.kept (c := W.heap.size) (Kept.of_below k) (Nat.ne_of_lt h.d.1), h.f.below k, back_of' h.b k, h.h⟩
theorem PartsU.set1 {w W : World} {dB : Nat} {g : Bool} {v1 v2 : Value} (h : PartsU w W dB g v1 v2) (v : Value) : PartsU w (W.setCell ⟨dB, 1, none⟩ v) dB g v v2 := by
  have q := h.h
  exact ⟨h.r.kept ((Kept.refl W dB).setCell (o := 1) v) (by omega), h.d.set1 v, h.f.kept ((Kept.refl W dB).setCell (o := 1) v) (by omega), h.b.setCell (p := ⟨dB, 1, none⟩) (by show w.heap.size ≤ dB; omega) v, h.h⟩
theorem PartsU.set2 {w W : World} {dB : Nat} {g : Bool} {v1 v2 : Value} (h : PartsU w W dB g v1 v2) (v : Value) : PartsU w (W.setCell ⟨dB, 2, none⟩ v) dB g v1 v := by
  have q := h.h
  exact ⟨h.r.kept ((Kept.refl W dB).setCell (o := 2) v) (by omega), h.d.set2 v, h.f.kept ((Kept.refl W dB).setCell (o := 2) v) (by omega), h.b.setCell (p := ⟨dB, 2, none⟩) (by show w.heap.size ≤ dB; omega) v, h.h⟩
/-- a finite number's fields: its sign, the exponent's field, the fraction -/
structure Fields (f : Nat) (g : Bool) (e0 fr : Nat) : Prop where
  f64 : f < 18446744073709551616
  sg : sgnV (f : Int) = g
  ex : IntKind.i64.wrap (expV (f : Int)) = (e0 : Int)
  fc : frcV (f : Int) = (fr : Int)
  fl : fr < 4503599627370496
  el : e0 < 2047


set_option maxRecDepth 8000 in
set_option maxHeartbeats 2000000 in
theorem parts_norm (f e0 fr M m t : Nat) (g : Bool) (X0 X : Int) (w : World) (hT : Tab64 w) (hf : Fields f g e0 fr) (he : e0 ≠ 0) (hM : fr + 4503599627370496 = M) (hmt : M = m * 2 ^ t) (hct : Lib.ctz 64 M = t) (ht : t < 64) (hx0 : (e0 : Int) - 1075 = X0) (hx : X0 + (t : Int) = X) :
    Calls Tryz.prog 49 #[.int .u64 (f : Int), fmt] w fun e w' => e = .returned (.tuple #[.agg #[.bool g, .int .u64 (m : Int), .int .i64 X], .int .i64 0]) ∧ Below w.heap.size w w' := by
  have hA1 := (Below.refl w.heap.size w).alloc (Nat.le_refl _) (.cells #[.int .u64 52, .int .i64 2047, .int .i64 1075] 97)
  have hA2 := hA1.alloc hA1.size (.cells #[.bool false, .int .u64 0, .int .i64 0] 47)
  have hF := (Fmt.new w 97).below ((Below.refl _ _).alloc (Nat.le_refl _) (.cells #[.bool false, .int .u64 0, .int .i64 0] 47))
  have hR : DecAt ((w.alloc (.cells #[.int .u64 52, .int .i64 2047, .int .i64 1075] 97)).alloc (.cells #[.bool false, .int .u64 0, .int .i64 0] 47)) (w.heap.size + 1) (.bool false) (.int .u64 0) (.int .i64 0) := by
    have := DecAt.new (w.alloc (.cells #[.int .u64 52, .int .i64 2047, .int .i64 1075] 97)) (.bool false) (.int .u64 0) (.int .i64 0) 47
    simpa using this
  have HSp := Lib.hid (fun W => split_dbl f W)
  rw [hf.sg, hf.ex, hf.fc] at HSp
  have hcl : clsV (f : Int) = 5 := by
    unfold clsV clsE
    rw [hf.ex, if_neg (by have := hf.el; omega), if_neg (by omega)]
  have HCl := Lib.hid (fun W => class_dbl f W)
  rw [hcl] at HCl
  have HA := Lib.hid (And.intro hA2 (And.intro hF hR))
  have HT := Lib.hid hT
  have hor : bits .or .u64 (fr : Int) 4503599627370496 = (M : Int) := by rw [or_first hf.fl, hM]
  have hw0 : wrap64 ((e0 : Int) - 1075) = X0 := by have := hf.el; unfold wrap64; omega
  have hw1 : wrap64 (X0 + (t : Int)) = X := by have := hf.el; unfold wrap64; omega
  have hdv : (M : Int) / 2 ^ t = (m : Int) := by
    have e : (M / 2 ^ t : Nat) = m := by rw [hmt]; exact Nat.mul_div_cancel _ (Nat.pow_pos (by omega))
    rw [← e, Int.natCast_ediv, Int.natCast_pow]; rfl
  have HM : Hid (fr + 4503599627370496 = M ∧ M = m * 2 ^ t ∧ Lib.ctz 64 M = t ∧ t < 64 ∧ fr < 4503599627370496) := Lib.hid ⟨hM, hmt, hct, ht, hf.fl⟩
  clear hA1 hA2 hF hR hT hf hmt hct hcl hx hM hx0 he
  go_enter Tryz.func49, Tryz.ntmps49
  go_wp2_with fail
  refine (HSp.out _).mono ?_
  rintro e W1 ⟨rfl, b1⟩
  have hs1 := HA.out.2.2.1
  have hl1 : w.heap.size + 1 < W1.heap.size := Nat.lt_of_lt_of_le hs1 b1.size
  have HP : Hid (PartsU w (W1.alloc (.cells #[.bool g, .int .u64 (fr : Int), .int .i64 X0] 47)) W1.heap.size g (.int .u64 (fr : Int)) (.int .i64 X0)) := Lib.hid (by
    have k1 := b1
    have hk : Below W1.heap.size W1 (W1.alloc (.cells #[.bool g, .int .u64 (fr : Int), .int .i64 X0] 47)) := (Below.refl _ _).alloc (Nat.le_refl _) _
    have k := back_of' k1 hk
    exact ⟨HA.out.2.2.kept (c := (w.alloc (.cells #[.int .u64 52, .int .i64 2047, .int .i64 1075] 97)).heap.size + 1) (Kept.of_below k) (by simp), DecAt.new W1 _ _ _ _, HA.out.2.1.below k, back_of' HA.out.1 k, hl1⟩)
  obtain ⟨f0, f1, f2, fl⟩ := HA.out.2.1.below b1
  clear b1 HA HSp hs1
  go_wp2_with fail
  refine (HCl.out _).mono ?_
  rintro e W3 ⟨rfl, b3⟩
  have HP := Lib.hid (HP.out.below b3)
  clear b3 f0 f1 f2 fl HCl
  obtain ⟨-, d0, d1, d2, q0, q1, q2⟩ := id HP.out.d
  obtain ⟨f0, f1, f2, fl⟩ := HP.out.f
  go_upto_block 0 with (fail)
  have hcur : Below W3.heap.size W3 W3.drew := (Below.refl _ _).drew
  go_cut [5] from 28 to 47 (fun v wx => v = .int .i64 0 ∧ Hid (PartsU w wx W1.heap.size g (.int .u64 (M : Int)) (.int .i64 X0)))
  case first =>
    go_wp2_with fail
    go_region_with (first | (go_at_call 99; refine (hidden_f _).mono ?_; rintro e W4 ⟨rfl, b4⟩; have HP4 := Lib.hid (HP.out.below (back_of' hcur b4)); obtain ⟨-, y0, y1, y2, p0, p1, p2⟩ := id HP4.out.d; clear b4) | fail)
    all_goals go_wp2_with fail
    all_goals go_meet
    all_goals exact ⟨rfl, Lib.hid (HP4.out.set1 _)⟩
  case rest =>
    obtain ⟨rfl, HP5⟩ := hcut
    clear d0 d1 d2 q0 q1 q2 f0 f1 f2 fl HP hcur
    obtain ⟨-, d0, d1, d2, q0, q1, q2⟩ := id HP5.out.d
    go_wp2_with fail
    refine (tz64_any M t _ (by have := HM.out; omega) (by have := HM.out; omega) (HT.out.below ⟨HP5.out.b.os, HP5.out.b.tape, HP5.out.b.output, HP5.out.b.size, HP5.out.b.block⟩) HM.out.2.2.1).mono ?_
    rintro e W6 ⟨rfl, hw⟩
    obtain rfl := hw
    go_upto_region 15 with (fail)
    have HP8 := Lib.hid ((HP5.out.set1 (.int .u64 (m : Int))).set2 (.int .i64 X))
    clear d0 d1 d2 q0 q1 q2 HP5
    generalize (wc.setCell ⟨W1.heap.size, 1, none⟩ (.int .u64 (m : Int))).setCell ⟨W1.heap.size, 2, none⟩ (.int .i64 X) = W8 at *
    obtain ⟨-, d0, d1, d2, q0, q1, q2⟩ := id HP8.out.d
    obtain ⟨-, r0, r1, r2, g0, g1, g2⟩ := id HP8.out.r
    go_wp2_with fail
    exact bodyPost_ret (by simp [results, Tryz.results49, go_sem, r0, r1, r2]) rfl ⟨rfl, ((HP8.out.b.setCell (p := ⟨w.heap.size + 1, 0, none⟩) (Nat.le_succ _) _).setCell (p := ⟨w.heap.size + 1, 1, none⟩) (Nat.le_succ _) _).setCell (p := ⟨w.heap.size + 1, 2, none⟩) (Nat.le_succ _) _⟩

set_option maxRecDepth 8000 in
set_option maxHeartbeats 2000000 in
theorem parts_sub (f fr m t : Nat) (g : Bool) (X : Int) (w : World) (hT : Tab64 w) (hf : Fields f g 0 fr) (hfr : fr ≠ 0) (hmt : fr = m * 2 ^ t) (hct : Lib.ctz 64 fr = t) (ht : t < 64) (hx : (-1074) + (t : Int) = X) :
    Calls Tryz.prog 49 #[.int .u64 (f : Int), fmt] w fun e w' => e = .returned (.tuple #[.agg #[.bool g, .int .u64 (m : Int), .int .i64 X], .int .i64 0]) ∧ Below w.heap.size w w' := by
  have hA1 := (Below.refl w.heap.size w).alloc (Nat.le_refl _) (.cells #[.int .u64 52, .int .i64 2047, .int .i64 1075] 97)
  have hA2 := hA1.alloc hA1.size (.cells #[.bool false, .int .u64 0, .int .i64 0] 47)
  have hF := (Fmt.new w 97).below ((Below.refl _ _).alloc (Nat.le_refl _) (.cells #[.bool false, .int .u64 0, .int .i64 0] 47))
  have hR : DecAt ((w.alloc (.cells #[.int .u64 52, .int .i64 2047, .int .i64 1075] 97)).alloc (.cells #[.bool false, .int .u64 0, .int .i64 0] 47)) (w.heap.size + 1) (.bool false) (.int .u64 0) (.int .i64 0) := by
    have := DecAt.new (w.alloc (.cells #[.int .u64 52, .int .i64 2047, .int .i64 1075] 97)) (.bool false) (.int .u64 0) (.int .i64 0) 47
    simpa using this
  have HSp := Lib.hid (fun W => split_dbl f W)
  rw [hf.sg, hf.ex, hf.fc] at HSp
  have hcl : clsV (f : Int) = 4 := by
    unfold clsV clsE
    rw [hf.ex, hf.fc, if_neg (by have := hf.el; omega), if_pos (by omega), if_neg (by omega)]
  have HCl := Lib.hid (fun W => class_dbl f W)
  rw [hcl] at HCl
  have HA := Lib.hid (And.intro hA2 (And.intro hF hR))
  have HT := Lib.hid hT
  have hw0 : wrap64 ((0 : Int) - 1075) = -1075 := by unfold wrap64; omega
  have hw1 : wrap64 ((-1074) + (t : Int)) = X := by have := hf.el; unfold wrap64; omega
  have hdv : (fr : Int) / 2 ^ t = (m : Int) := by
    have e : (fr / 2 ^ t : Nat) = m := by rw [hmt]; exact Nat.mul_div_cancel _ (Nat.pow_pos (by omega))
    rw [← e, Int.natCast_ediv, Int.natCast_pow]; rfl
  have HM : Hid (fr = fr ∧ fr = m * 2 ^ t ∧ Lib.ctz 64 fr = t ∧ t < 64 ∧ fr < 4503599627370496 ∧ fr ≠ 0) := Lib.hid ⟨rfl, hmt, hct, ht, hf.fl, hfr⟩
  clear hA1 hA2 hF hR hT hf hmt hct hcl
  go_enter Tryz.func49, Tryz.ntmps49
  go_wp2_with fail
  refine (HSp.out _).mono ?_
  rintro e W1 ⟨rfl, b1⟩
  have hs1 := HA.out.2.2.1
  have hl1 : w.heap.size + 1 < W1.heap.size := Nat.lt_of_lt_of_le hs1 b1.size
  have HP : Hid (PartsU w (W1.alloc (.cells #[.bool g, .int .u64 (fr : Int), .int .i64 (-1075)] 47)) W1.heap.size g (.int .u64 (fr : Int)) (.int .i64 (-1075))) := Lib.hid (by
    have k1 := b1
    have hk : Below W1.heap.size W1 (W1.alloc (.cells #[.bool g, .int .u64 (fr : Int), .int .i64 (-1075)] 47)) := (Below.refl _ _).alloc (Nat.le_refl _) _
    have k := back_of' k1 hk
    exact ⟨HA.out.2.2.kept (c := (w.alloc (.cells #[.int .u64 52, .int .i64 2047, .int .i64 1075] 97)).heap.size + 1) (Kept.of_below k) (by simp), DecAt.new W1 _ _ _ _, HA.out.2.1.below k, back_of' HA.out.1 k, hl1⟩)
  obtain ⟨f0, f1, f2, fl⟩ := HA.out.2.1.below b1
  clear b1 HA HSp hs1
  go_wp2_with fail
  refine (HCl.out _).mono ?_
  rintro e W3 ⟨rfl, b3⟩
  have HP := Lib.hid (HP.out.below b3)
  clear b3 f0 f1 f2 fl HCl
  obtain ⟨-, d0, d1, d2, q0, q1, q2⟩ := id HP.out.d
  obtain ⟨f0, f1, f2, fl⟩ := HP.out.f
  go_upto_region 12 with (fail)
  have HP5 := Lib.hid (HP.out.set2 (.int .i64 (-1074)))
  clear d0 d1 d2 q0 q1 q2 f0 f1 f2 fl HP
  generalize W3.setCell ⟨W1.heap.size, 2, none⟩ (.int .i64 (-1074)) = wc at *
  obtain ⟨-, d0, d1, d2, q0, q1, q2⟩ := id HP5.out.d
  go_wp2_with fail
  refine (tz64_any fr t _ (by have := HM.out; omega) (by have := HM.out; omega) (HT.out.below ⟨HP5.out.b.os, HP5.out.b.tape, HP5.out.b.output, HP5.out.b.size, HP5.out.b.block⟩) HM.out.2.2.1).mono ?_
  rintro e W6 ⟨rfl, hw⟩
  obtain rfl := hw
  go_upto_region 15 with (fail)
  have HP8 := Lib.hid ((HP5.out.set1 (.int .u64 (m : Int))).set2 (.int .i64 X))
  clear d0 d1 d2 q0 q1 q2 HP5
  generalize (wc.setCell ⟨W1.heap.size, 1, none⟩ (.int .u64 (m : Int))).setCell ⟨W1.heap.size, 2, none⟩ (.int .i64 X) = W8 at *
  obtain ⟨-, d0, d1, d2, q0, q1, q2⟩ := id HP8.out.d
  obtain ⟨-, r0, r1, r2, g0, g1, g2⟩ := id HP8.out.r
  go_wp2_with fail
  exact bodyPost_ret (by simp [results, Tryz.results49, go_sem, r0, r1, r2]) rfl ⟨rfl, ((HP8.out.b.setCell (p := ⟨w.heap.size + 1, 0, none⟩) (Nat.le_succ _) _).setCell (p := ⟨w.heap.size + 1, 1, none⟩) (Nat.le_succ _) _).setCell (p := ⟨w.heap.size + 1, 2, none⟩) (Nat.le_succ _) _⟩

set_option maxRecDepth 8000 in
set_option maxHeartbeats 1000000 in
/-- the parts of a number of which the fields' parts are known -/
theorem Parts_of (f : Nat) (g : Bool) (m : Nat) (X : Int) (w : World) (hT : Tab64 w)
    (hp : ∀ W, Tab64 W → Calls Tryz.prog 49 #[.int .u64 (f : Int), fmt] W fun e w' => e = .returned (.tuple #[.agg #[.bool g, .int .u64 (m : Int), .int .i64 X], .int .i64 0]) ∧ Below W.heap.size W w') :
    Calls Tryz.prog 17 #[.float .f64 f] w fun e w' => e = .returned (.tuple #[.agg #[.bool g, .int .u64 (m : Int), .int .i64 X], .int .i64 0]) ∧ Below w.heap.size w w' := by
  have hA := (Below.refl w.heap.size w).alloc (Nat.le_refl _) (.cells #[.bool false, .int .u64 0, .int .i64 0] 47)
  have HA := Lib.hid (And.intro hA (DecAt.new w (.bool false) (.int .u64 0) (.int .i64 0) 47))
  have HT := Lib.hid hT
  have HQ := Lib.hid hp
  have hbits := run_bits f
  clear hA hT hp
  go_enter Tryz.func17, Tryz.ntmps17
  go_wp2_with fail
  refine (of_zero _).mono ?_
  rintro e W1 ⟨rfl, b1⟩
  have H1 := Lib.hid (And.intro (back_of' HA.out.1 b1) (HA.out.2.kept (c := w.heap.size + 1) (Kept.of_below b1) (by omega)))
  clear b1 HA
  go_wp2_with fail
  refine (HQ.out W1 (HT.out.below H1.out.1)).mono ?_
  rintro e W2 ⟨rfl, b2⟩
  have H2 := Lib.hid (And.intro (back_of' H1.out.1 b2) (H1.out.2.kept (c := W1.heap.size) (Kept.of_below b2) (Nat.ne_of_lt H1.out.2.1)))
  clear b2 H1
  obtain ⟨-, r0, r1, r2, g0, g1, g2⟩ := id H2.out.2
  go_wp2_with fail
  exact bodyPost_ret (by simp [results, Tryz.results17, go_sem, r0, r1, r2]) rfl ⟨rfl, by
    repeat' (first | exact H2.out.1 | apply Below.setCell)
    all_goals (show w.heap.size ≤ w.heap.size; omega)⟩
end Go.Proofs.YtmecnlgndaeidaaGreatDoor

namespace Go.Proofs.YtmecnlgndaeidaaGreatDoor
open Go Go.RowKit Nb Nx

theorem neg_flip {f : Nat} (hf : f < 18446744073709551616) : Op.negFloat .f64 f = (f + 9223372036854775808) % 18446744073709551616 := by
  show f ^^^ 2 ^ (11 + 52) = _
  apply Nat.eq_of_testBit_eq
  intro i
  have e : (f + 9223372036854775808) % 18446744073709551616 = (f / 9223372036854775808 + 1) % 2 * 2 ^ 63 + f % 2 ^ 63 := by
    rw [show (2 : Nat) ^ 63 = 9223372036854775808 by decide]
    omega
  rw [e, Nat.testBit_xor, Nat.testBit_two_pow]
  have hl : f % 2 ^ 63 < 2 ^ 63 := Nat.mod_lt _ (Nat.pow_pos (by omega))
  rw [Nat.mul_comm, Nat.testBit_two_pow_mul_add _ hl]
  by_cases h : i < 63
  · rw [if_pos h, Nat.testBit_mod_two_pow]
    have : ¬ 11 + 52 = i := by omega
    simp [h, this]
  · rw [if_neg h]
    by_cases h2 : i = 63
    · subst h2
      have h3 : f < 2 ^ 64 := hf
      simp only [Nat.testBit_eq_decide_div_mod_eq, show 11 + 52 = 63 by omega, Nat.sub_self, Nat.pow_zero, Nat.div_one, show (2 : Nat) ^ 63 = 9223372036854775808 by decide, decide_true, Bool.xor_true]
      have : f / 9223372036854775808 % 2 = 0 ∨ f / 9223372036854775808 % 2 = 1 := by omega
      rcases this with q | q
      · have : (f / 9223372036854775808 + 1) % 2 % 2 = 1 := by omega
        rw [q, this]; rfl
      · have : (f / 9223372036854775808 + 1) % 2 % 2 = 0 := by omega
        rw [q, this]; rfl
    · have h3 : f.testBit i = false := Nat.testBit_lt_two_pow (Nat.lt_of_lt_of_le hf (by rw [show (18446744073709551616 : Nat) = 2 ^ 64 by decide]; exact Nat.pow_le_pow_right (by omega) (by omega)))
      have h4 : ((f / 9223372036854775808 + 1) % 2).testBit (i - 63) = false := by
        apply Nat.testBit_lt_two_pow
        have := Nat.one_lt_two_pow (n := i - 63) (by omega)
        omega
      have h5 : ¬ 11 + 52 = i := by omega
      rw [h3, h4]
      simp [h5]

set_option maxRecDepth 8000 in
theorem inf_up (f : Nat) (w : World) (hf : f < 18446744073709551616) : Calls Tryz.prog 42 #[.float .f64 f, .int .i64 1] w fun e w' => e = .returned (.bool (decide (f = 9218868437227405312))) ∧ w' = w := by
  have hg := gt_max f hf
  generalize decide (f = 9218868437227405312) = q at hg
  go_enter Tryz.func42, Tryz.ntmps42
  go_wp2_with fail
  go_ret
  exact ⟨rfl, rfl⟩

set_option maxRecDepth 8000 in
theorem inf_down (f : Nat) (w : World) (hf : f < 18446744073709551616) : Calls Tryz.prog 42 #[.float .f64 f, .int .i64 (-1)] w fun e w' => e = .returned (.bool (decide (f = 18442240474082181120))) ∧ w' = w := by
  obtain ⟨f2, hf2⟩ : ∃ f2, (f + 9223372036854775808) % 18446744073709551616 = f2 := ⟨_, rfl⟩
  have hneg : ∀ W, (Op.unary .neg (.float .f64 f)).run Tryz.prog W = .ok (.float .f64 f2) W := fun W => by
    rw [← hf2, ← neg_flip hf]
    rfl
  have hg := gt_max f2 (by omega)
  have hd : decide (f = 18442240474082181120) = decide (f2 = 9218868437227405312) := by apply decide_eq_decide.2; omega
  rw [hd]
  clear hd hf2
  generalize decide (f2 = 9218868437227405312) = q at hg
  go_enter Tryz.func42, Tryz.ntmps42
  go_wp2_with fail
  go_ret
  exact ⟨rfl, rfl⟩

/-- the text of what is not finite -/
def specL (f : Nat) : List UInt8 := if nanN f = true then [110, 97, 110] else if f = 9218868437227405312 then [43, 105, 110, 102] else if f = 18442240474082181120 then [45, 105, 110, 102] else []
set_option maxRecDepth 8000 in
theorem special_any (f : Nat) (w : World) (hf : f < 18446744073709551616) : Calls Tryz.prog 15 #[.float .f64 f] w fun e w' => e = .returned (.tuple #[.string ⟨(specL f).toArray⟩, .bool (decide (specL f ≠ []))]) ∧ w' = w := by
  have hn := neq_self f
  have HU := Lib.hid (inf_up f w hf)
  have HD := Lib.hid (inf_down f w hf)
  unfold specL
  by_cases c1 : nanN f = true
  · rw [c1] at hn
    rw [if_pos c1]
    go_enter Tryz.func15, Tryz.ntmps15
    go_wp2_with fail
    go_ret2
    exact ⟨rfl, rfl⟩
  · rw [if_neg c1]
    rw [Bool.eq_false_iff.2 c1] at hn
    by_cases c2 : f = 9218868437227405312
    · rw [decide_eq_true c2] at HU
      rw [if_pos c2]
      clear c1 c2 hf
      go_enter Tryz.func15, Tryz.ntmps15
      go_wp2_with fail
      refine HU.out.mono ?_
      rintro e w1 ⟨rfl, hw⟩
      obtain rfl := hw.symm
      go_wp2_with fail
      go_ret2
      exact ⟨rfl, rfl⟩
    · rw [decide_eq_false c2] at HU
      rw [if_neg c2]
      by_cases c3 : f = 18442240474082181120
      · rw [decide_eq_true c3] at HD
        rw [if_pos c3]
        clear c1 c2 c3 hf
        go_enter Tryz.func15, Tryz.ntmps15
        go_wp2_with fail
        refine HU.out.mono ?_
        rintro e w1 ⟨rfl, hw⟩
        obtain rfl := hw.symm
        go_wp2_with fail
        refine HD.out.mono ?_
        rintro e w1 ⟨rfl, hw⟩
        obtain rfl := hw.symm
        go_wp2_with fail
        go_ret2
        exact ⟨rfl, rfl⟩
      · rw [decide_eq_false c3] at HD
        rw [if_neg c3]
        clear c1 c2 c3 hf
        go_enter Tryz.func15, Tryz.ntmps15
        go_wp2_with fail
        refine HU.out.mono ?_
        rintro e w1 ⟨rfl, hw⟩
        obtain rfl := hw.symm
        go_wp2_with fail
        refine HD.out.mono ?_
        rintro e w1 ⟨rfl, hw⟩
        obtain rfl := hw.symm
        go_wp2_with fail
        go_ret2
        exact ⟨rfl, rfl⟩

set_option maxRecDepth 8000 in
theorem signbit_any (f : Nat) (w : World) (hf : f < 18446744073709551616) : Calls Tryz.prog 48 #[.float .f64 f] w fun e w' => e = .returned (.bool (decide (9223372036854775808 ≤ f))) ∧ w' = w := by
  have hb := run_bits f
  have hs : decide (wrap64 (f : Int) < 0) = decide (9223372036854775808 ≤ f) := by
    apply decide_eq_decide.2
    unfold wrap64
    omega
  generalize decide (9223372036854775808 ≤ f) = q at hs
  go_enter Tryz.func48, Tryz.ntmps48
  go_wp2_with fail
  go_ret
  exact ⟨rfl, rfl⟩
/-- a sign ahead -/
def sgL (f : Nat) : List UInt8 := if 9223372036854775808 ≤ f then [45] else []
set_option maxRecDepth 8000 in
theorem begun_any (f : Nat) (w : World) (hf : f < 18446744073709551616) : Calls Tryz.prog 16 #[.float .f64 f] w fun e w' => e = .returned (.pointer (some ⟨w.heap.size, 0, none⟩)) ∧ Bld w' w.heap.size w.heap.size (sgL f) ∧ Below w.heap.size w w' := by
  have HB := Lib.hid (And.intro (Bld.new w) ((Below.refl w.heap.size w).alloc (Nat.le_refl _) (.cells #[.pointer none, .slice none 0 0] 90)))
  have HS := Lib.hid (fun W => signbit_any f W hf)
  unfold sgL
  by_cases c : 9223372036854775808 ≤ f
  · rw [decide_eq_true c] at HS
    rw [if_pos c]
    clear hf c
    go_enter Tryz.func16, Tryz.ntmps16
    go_wp2_with fail
    refine (HS.out _).mono ?_
    rintro e w1 ⟨rfl, rfl⟩
    go_wp2_with fail
    refine (wbyte w.heap.size w.heap.size [] 45 _ HB.out.1 (by decide) HB.out.2.size 45 rfl).mono ?_
    rintro e w2 ⟨rfl, d2, b2⟩
    have H2 := Lib.hid (And.intro d2 (HB.out.2.trans b2))
    clear d2 b2
    go_wp2_with fail
    go_ret
    exact ⟨rfl, H2.out.1, H2.out.2⟩
  · rw [decide_eq_false c] at HS
    rw [if_neg c]
    clear hf c
    go_enter Tryz.func16, Tryz.ntmps16
    go_wp2_with fail
    refine (HS.out _).mono ?_
    rintro e w1 ⟨rfl, rfl⟩
    go_wp2_with fail
    go_ret
    exact ⟨rfl, HB.out.1, HB.out.2⟩
end Go.Proofs.YtmecnlgndaeidaaGreatDoor

namespace Go.Proofs.YtmecnlgndaeidaaGreatDoor.Nb
open Go Go.RowKit Nx

set_option maxRecDepth 8000 in
theorem rbits_any (f : Nat) (w : World) (_ : f < 18446744073709551616) : Calls Tryz.prog 95 #[.float .f64 f] w fun e w' => e = .returned (.int .u64 (cnN f : Int)) ∧ w' = w := by
  have hn := neq_self f
  have hb := run_bits f
  unfold cnN
  cases hh : nanN f
  · rw [hh] at hn
    go_enter Tryz.func95, Tryz.ntmps95
    go_wp2_with fail
    go_ret
    exact ⟨rfl, rfl⟩
  · rw [hh] at hn
    go_enter Tryz.func95, Tryz.ntmps95
    go_wp2_with fail
    go_ret
    exact ⟨rfl, rfl⟩
set_option maxRecDepth 8000 in
theorem rclass_any (e f : Nat) (w : World) (he : e ≤ 2047) : Calls Tryz.prog 44 #[.int .i64 e, .int .u64 f, .int .i64 2047] w fun x w' => (∃ c : Int, x = .returned (.int .i64 c) ∧ (2 < c ↔ e < 2047)) ∧ w' = w := by
  by_cases h1 : e = 2047
  · subst h1
    by_cases h2 : f = 0
    · subst h2
      go_enter Tryz.func44, Tryz.ntmps44
      go_wp2_with fail
      go_ret
      exact ⟨⟨2, rfl, by omega⟩, rfl⟩
    · have h3 : ((f : Int) != 0) = true := by simp; omega
      go_enter Tryz.func44, Tryz.ntmps44
      go_wp2_with fail
      go_ret
      exact ⟨⟨1, rfl, by omega⟩, rfl⟩
  · have h4 : ((e : Int) == 2047) = false := by simp; omega
    by_cases h0 : e = 0
    · subst h0
      by_cases h2 : f = 0
      · subst h2
        go_enter Tryz.func44, Tryz.ntmps44
        go_wp2_with fail
        go_ret
        exact ⟨⟨3, rfl, by omega⟩, rfl⟩
      · have h3 : ((f : Int) == 0) = false := by simp; omega
        go_enter Tryz.func44, Tryz.ntmps44
        go_wp2_with fail
        go_ret
        exact ⟨⟨4, rfl, by omega⟩, rfl⟩
    · have h5 : ((e : Int) == 0) = false := by simp; omega
      go_enter Tryz.func44, Tryz.ntmps44
      go_wp2_with fail
      go_ret
      exact ⟨⟨5, rfl, by omega⟩, rfl⟩
end Go.Proofs.YtmecnlgndaeidaaGreatDoor.Nb

namespace Go.Proofs.YtmecnlgndaeidaaGreatDoor.Nb
open Go Go.RowKit Nx

set_option maxRecDepth 8000 in
theorem rsplit_any (f b : Nat) (w : World) (hf : f < 18446744073709551616) (hb : cnN f = b) : Calls Tryz.prog 43 #[.float .f64 f] w fun e w' => e = .returned (.tuple #[.bool (decide (9223372036854775808 ≤ b)), .int .i64 ((b / 4503599627370496 % 2048 : Nat) : Int), .int .u64 ((b % 4503599627370496 : Nat) : Int)]) ∧ w' = w := by
  have HB := Lib.hid (rbits_any f w hf)
  rw [hb] at HB
  have hbl : b < 18446744073709551616 := by rw [← hb]; unfold cnN; split <;> omega
  go_enter Tryz.func43, Tryz.ntmps43
  go_wp2_with fail
  refine HB.out.mono ?_
  rintro e w1 ⟨rfl, hw⟩
  obtain rfl := hw.symm
  go_wp2_with fail
  have e1 : ((b : Int) / 9223372036854775808 == 1) = decide (9223372036854775808 ≤ b) := by
    by_cases c : 9223372036854775808 ≤ b
    · rw [decide_eq_true c]; simp; omega
    · rw [decide_eq_false c]; simp; omega
  have e2 : (b : Int) / 4503599627370496 % 2048 = ((b / 4503599627370496 % 2048 : Nat) : Int) := by omega
  have e3 : (b : Int) % 4503599627370496 = ((b % 4503599627370496 : Nat) : Int) := by omega
  rw [e1, e2, e3]
  exact bodyPost_ret (by simp [results, Tryz.results43, go_sem]) rfl ⟨rfl, rfl⟩
set_option maxRecDepth 8000 in
theorem rfinite_any (f : Nat) (w : World) (hf : f < 18446744073709551616) : Calls Tryz.prog 5 #[.float .f64 f] w fun e w' => (∃ r : Bool, e = .returned (.bool r) ∧ (r = true ↔ f % 9223372036854775808 < 9218868437227405312)) ∧ w' = w := by
  obtain ⟨b, hb⟩ : ∃ b, cnN f = b := ⟨_, rfl⟩
  have HSp := Lib.hid (rsplit_any f b w hf hb)
  have hfin : f % 9223372036854775808 < 9218868437227405312 ↔ b / 4503599627370496 % 2048 < 2047 := by
    rw [← hb]
    unfold cnN nanN
    split <;> rename_i c <;> simp at c <;> omega
  have HC : Hid (Calls Tryz.prog 12 #[.float .f64 f] w fun e w' => (∃ c : Int, e = .returned (.int .i64 c) ∧ (2 < c ↔ b / 4503599627370496 % 2048 < 2047)) ∧ w' = w) := Lib.hid (by
    go_enter Tryz.func12, Tryz.ntmps12
    go_wp2_with fail
    refine HSp.out.mono ?_
    rintro e w1 ⟨rfl, hw⟩
    obtain rfl := hw.symm
    go_wp2_with fail
    refine (rclass_any (b / 4503599627370496 % 2048) (b % 4503599627370496) w (by omega)).mono ?_
    rintro e w1 ⟨⟨c, rfl, hc⟩, hw⟩
    obtain rfl := hw.symm
    have HH := Lib.hid hc
    clear hc
    go_wp2_with fail
    go_ret
    exact ⟨⟨c, rfl, HH.out⟩, rfl⟩)
  have HF := Lib.hid hfin
  clear hfin
  go_enter Tryz.func5, Tryz.ntmps5
  go_wp2_with fail
  refine HC.out.mono ?_
  rintro e w1 ⟨⟨c, rfl, hc⟩, hw⟩
  obtain rfl := hw.symm
  have HH := Lib.hid hc
  clear hc
  go_wp2_with fail
  go_ret
  exact ⟨⟨_, rfl, by rw [HF.out]; rw [← HH.out]; simp⟩, rfl⟩
end Go.Proofs.YtmecnlgndaeidaaGreatDoor.Nb

namespace Go.Proofs.YtmecnlgndaeidaaGreatDoor.Nb
open Go Go.RowKit Nx

set_option maxRecDepth 8000 in
theorem rodd_any (m : Nat) (E : Int) (w : World) (hm : 0 < m) (hu : m < 18446744073709551616) (hE : -100000 ≤ E ∧ E ≤ 100000) : Calls Tryz.prog 74 #[.int .u64 m, .int .i64 E] w fun e w' => (∃ m' t : Nat, e = .returned (.tuple #[.int .u64 (m' : Int), .int .i64 (E + t)]) ∧ m = m' * 2 ^ t ∧ m' % 2 = 1 ∧ t ≤ 64) ∧ w' = w := by
  have h0 : ((m : Int) == 0) = false := by simp; omega
  go_enter Tryz.func74, Tryz.ntmps74
  go_wp2_with fail
  go_loopw [0, 1] (fun a b wr => ∃ m' t : Nat, a = .int .u64 (m' : Int) ∧ b = .int .i64 (E + t) ∧ m = m' * 2 ^ t ∧ 0 < m' ∧ t ≤ 64 ∧ wr = w) (fun a _ _ => (intOf a).toNat)
  case atStart => exact ⟨m, 0, rfl, by simp, by simp, hm, by omega, rfl⟩
  case round =>
    obtain ⟨m', t, rfl, rfl, he, h1, ht, rfl⟩ := hrel
    have HE := Lib.hid he
    have hlt : t < 64 := by
      rcases Nat.lt_or_ge t 64 with c | c
      · exact c
      · exfalso
        have h2 : 2 ^ 64 ≤ 2 ^ t := Nat.pow_le_pow_right (by omega) c
        have h3 : 1 * 2 ^ t ≤ m' * 2 ^ t := Nat.mul_le_mul_right _ h1
        have e64 : (2 : Nat) ^ 64 = 18446744073709551616 := by decide
        omega
    clear he
    by_cases c : m' % 2 = 0
    · have hc : ((m' : Int) % 2 == 0) = true := by simp; omega
      have hle : m' ≤ m := by rw [HE.out]; exact Nat.le_mul_of_pos_right _ (Nat.two_pow_pos t)
      go_wp2_with fail
      have hwr : (m' : Int) / 2 = ((m' / 2 : Nat) : Int) := by omega
      refine ⟨⟨m' / 2, t + 1, by rw [hwr], by rw [show E + (t : Int) + 1 = E + ((t + 1 : Nat) : Int) by omega], ?_, by omega, by omega, trivial⟩, ?_⟩
      · rw [HE.out, Nat.pow_succ]
        have e2 : m' = m' / 2 * 2 := by omega
        rw [Nat.mul_comm (2 ^ t) 2, ← Nat.mul_assoc, ← e2]
      · rw [hwr]; simp only [intOf]; omega
    · have hc : ((m' : Int) % 2 == 0) = false := by simp; omega
      go_wp2_with fail
      go_ret2
      exact ⟨⟨m', t, rfl, HE.out, by omega, ht⟩, rfl⟩
end Go.Proofs.YtmecnlgndaeidaaGreatDoor.Nb

namespace Go.Proofs.YtmecnlgndaeidaaGreatDoor
open Go Go.RowKit Nb Nx

/-- a finite number's mantissa, the place of its last bit -/
def bigM (f : Nat) : Nat := if f / 4503599627370496 % 2048 = 0 then f % 4503599627370496 else f % 4503599627370496 + 4503599627370496
def bigX (f : Nat) : Int := if f / 4503599627370496 % 2048 = 0 then -1074 else (f / 4503599627370496 % 2048 : Nat) - 1075
/-- the same with an odd mantissa -/
def oddM (f : Nat) : Nat := bigM f / 2 ^ Lib.ctz 64 (bigM f)
def oddX (f : Nat) : Int := bigX f + (Lib.ctz 64 (bigM f) : Nat)
/-- what is known of a finite number that isn't nought -/
structure FinN (f : Nat) (t : Nat) : Prop where
  fl : Fields f (decide (9223372036854775808 ≤ f)) (f / 4503599627370496 % 2048) (f % 4503599627370496)
  m0 : bigM f = oddM f * 2 ^ t
  ct : Lib.ctz 64 (bigM f) = t
  t6 : t < 64
  od : oddM f % 2 = 1
  up : oddM f < 9007199254740992
  x0 : -1074 ≤ oddX f
  x1 : oddX f ≤ 1024
  xt : oddX f = bigX f + (t : Int)
theorem fields_of {f : Nat} (hf : f < 18446744073709551616) (h : f % 9223372036854775808 < 9218868437227405312) :
    Fields f (decide (9223372036854775808 ≤ f)) (f / 4503599627370496 % 2048) (f % 4503599627370496) := by
  have hc : cnN f = f := by
    unfold cnN nanN
    rw [if_neg (by simp; omega)]
  refine ⟨hf, by rw [sgn_eq hf, hc], ?_, by rw [frc_eq hf, hc], Nat.mod_lt _ (by omega), by omega⟩
  rw [exp_eq hf, hc]
  rw [IntKind.wrap_i64]
  omega
theorem finN {f : Nat} (hf : f < 18446744073709551616) (h : f % 9223372036854775808 < 9218868437227405312) (h0 : f % 9223372036854775808 ≠ 0) : ∃ t, FinN f t := by
  have hM0 : 0 < bigM f := by unfold bigM; split <;> omega
  have hM1 : bigM f < 9007199254740992 := by unfold bigM; split <;> omega
  obtain ⟨m, t, e1, e2, e3, e4⟩ := odd_part (bigM f) hM0 (by omega)
  have hm : oddM f = m := by
    unfold oddM
    rw [e3, e1]
    exact Nat.mul_div_cancel _ (Nat.pow_pos (by omega))
  have ht : t ≤ 53 := by
    rcases Nat.lt_or_ge 53 t with q | q
    · exfalso
      have h1 : 2 ^ 54 ≤ 2 ^ t := Nat.pow_le_pow_right (by omega) q
      have h2 : 1 * 2 ^ t ≤ m * 2 ^ t := Nat.mul_le_mul_right _ (by omega)
      have h3 : (2 : Nat) ^ 54 = 18014398509481984 := by decide
      omega
    · exact q
  have hm1 : m ≤ bigM f := by
    have h2 : m * 1 ≤ m * 2 ^ t := Nat.mul_le_mul_left _ (Nat.pow_pos (by omega))
    omega
  refine ⟨t, fields_of hf h, by rw [hm]; exact e1, e3, e4, by rw [hm]; exact e2, by rw [hm]; omega, ?_, ?_, by unfold oddX; rw [e3]⟩
  · unfold oddX bigX; rw [e3]; split <;> omega
  · unfold oddX bigX; rw [e3]; split <;> omega

theorem Parts_any (f t : Nat) (w : World) (hT : Tab64 w) (h : FinN f t) :
    Calls Tryz.prog 17 #[.float .f64 f] w fun e w' => e = .returned (.tuple #[.agg #[.bool (decide (9223372036854775808 ≤ f)), .int .u64 (oddM f : Int), .int .i64 (oddX f)], .int .i64 0]) ∧ Below w.heap.size w w' := by
  refine Parts_of f _ _ _ w hT ?_
  intro W hW
  have hx := h.xt
  have hm := h.m0
  have hc := h.ct
  have hM := h.od
  by_cases c : f / 4503599627370496 % 2048 = 0
  · have hfl := h.fl
    rw [c] at hfl
    have e : bigM f = f % 4503599627370496 := by unfold bigM; rw [if_pos c]
    have e2 : bigX f = -1074 := by unfold bigX; rw [if_pos c]
    rw [e] at hm hc
    rw [e2] at hx
    have hne : f % 4503599627370496 ≠ 0 := by
      intro h0
      rw [h0] at hm
      have : 0 < 2 ^ t := Nat.pow_pos (by omega)
      rcases Nat.mul_eq_zero.1 hm.symm with q | q <;> omega
    exact parts_sub f _ (oddM f) t _ (oddX f) W hW hfl hne hm hc h.t6 hx.symm
  · have e : bigM f = f % 4503599627370496 + 4503599627370496 := by unfold bigM; rw [if_neg c]
    have e2 : bigX f = (f / 4503599627370496 % 2048 : Nat) - 1075 := by unfold bigX; rw [if_neg c]
    exact parts_norm f _ _ (bigM f) (oddM f) t _ _ (oddX f) W hW h.fl c e.symm hm hc h.t6 e2.symm hx.symm
theorem itoa_len {E : Int} (h0 : -10000 < E) (h1 : E < 10000) : (Lib.itoa E).length ≤ 20 := by
  unfold Lib.itoa
  have h2 : ∀ n : Nat, n < 10000 → (Lib.decDigits n).length ≤ 19 := fun n hn => dec_len n (by omega)
  split
  · have := h2 E.natAbs (by omega)
    rw [List.length_cons]
    omega
  · have := h2 E.toNat (by omega)
    omega
end Go.Proofs.YtmecnlgndaeidaaGreatDoor

namespace Go.Proofs.YtmecnlgndaeidaaGreatDoor.Nb
open Go Go.RowKit Nx

set_option maxRecDepth 8000 in
theorem rparts_any (X : Nat) (w : World) (hX : X < 9218868437227405312) (h0 : 0 < X) : Calls Tryz.prog 26 #[.float .f64 X] w fun e w' => (∃ m' t : Nat, e = .returned (.tuple #[.agg #[.bool false, .int .u64 (m' : Int), .int .i64 (bigX X + t)], .int .i64 0]) ∧ bigM X = m' * 2 ^ t ∧ m' % 2 = 1 ∧ t ≤ 64) ∧ Below w.heap.size w w' := by
  have hc : cnN X = X := by unfold cnN nanN; rw [if_neg (by simp; omega)]
  have HS := Lib.hid (fun W => rsplit_any X X W (by omega) hc)
  rw [decide_eq_false (by omega)] at HS
  obtain ⟨e0, he0⟩ : ∃ e0, X / 4503599627370496 % 2048 = e0 := ⟨_, rfl⟩
  obtain ⟨f0, hf0⟩ : ∃ f0, X % 4503599627370496 = f0 := ⟨_, rfl⟩
  rw [he0, hf0] at HS
  have hel : e0 < 2047 := by omega
  have hM : bigM X = if e0 = 0 then f0 else f0 + 4503599627370496 := by unfold bigM; rw [he0, hf0]
  have hZ : bigX X = if e0 = 0 then -1074 else (e0 : Int) - 1075 := by unfold bigX; rw [he0]
  have hfz : e0 = 0 → 0 < f0 := by omega
  have hfl : f0 < 4503599627370496 := by omega
  rw [hM, hZ]
  clear hM hZ he0 hf0 hc
  by_cases c : e0 = 0
  · subst c
    have hfp := hfz rfl
    rw [if_pos rfl, if_pos rfl]
    clear hfz
    go_enter Tryz.func26, Tryz.ntmps26
    go_wp2_with fail
    refine (HS.out _).mono ?_
    rintro e w1 ⟨rfl, hw⟩
    obtain rfl := hw.symm
    go_wp2_with fail
    refine (rodd_any f0 (-1074) _ (by omega) (by omega) (by omega)).mono ?_
    rintro e w2 ⟨⟨m', t, rfl, he, hd, ht⟩, rfl⟩
    have HH := Lib.hid (And.intro he (And.intro hd ht))
    clear he hd ht
    go_wp2_with fail
    exact bodyPost_ret (by simp [results, Tryz.results26, go_sem]) rfl ⟨⟨m', t, rfl, HH.out.1, HH.out.2.1, HH.out.2.2⟩, (Below.refl _ _).alloc (Nat.le_refl _) _⟩
  · rw [if_neg c, if_neg c]
    clear hfz
    have hgt : (0 : Int) < (e0 : Int) := by omega
    have hne : ((e0 : Int) == 2047) = false := by simp; omega
    go_enter Tryz.func26, Tryz.ntmps26
    go_wp2_with fail
    refine (HS.out _).mono ?_
    rintro e w1 ⟨rfl, hw⟩
    obtain rfl := hw.symm
    go_wp2_with fail
    rw [show (f0 : Int) + 4503599627370496 = ((f0 + 4503599627370496 : Nat) : Int) by omega, show (e0 : Int) - 1 - 1074 = (e0 : Int) - 1075 by omega]
    refine (rodd_any (f0 + 4503599627370496) ((e0 : Int) - 1075) _ (by omega) (by omega) (by omega)).mono ?_
    rintro e w2 ⟨⟨m', t, rfl, he, hd, ht⟩, rfl⟩
    have HH := Lib.hid (And.intro he (And.intro hd ht))
    clear he hd ht
    go_wp2_with fail
    exact bodyPost_ret (by simp [results, Tryz.results26, go_sem]) rfl ⟨⟨m', t, rfl, HH.out.1, HH.out.2.1, HH.out.2.2⟩, (Below.refl _ _).alloc (Nat.le_refl _) _⟩
end Go.Proofs.YtmecnlgndaeidaaGreatDoor.Nb

namespace Go.Proofs.YtmecnlgndaeidaaGreatDoor.Nb
open Go Go.RowKit

theorem all_zero : ∀ {ws : List Nat}, val ws = 0 → ∀ k, ws.getD k 0 = 0
  | [], _, k => by simp
  | a :: r, h, 0 => by simp [val] at h ⊢; omega
  | a :: r, h, k + 1 => by
    simp only [val] at h
    simpa using all_zero (ws := r) (by omega) k
theorem clear_of_lt {os : List Nat} {K : Nat} (h : val os < 18446744073709551616 ^ K) : Clear os K := by
  intro i hi
  by_cases hl : K ≤ os.length
  · have h1 := val_take_drop os hl
    have h0 : val (os.drop K) = 0 := by
      rcases Nat.eq_zero_or_pos (val (os.drop K)) with q | q
      · exact q
      · have : 18446744073709551616 ^ K * 1 ≤ 18446744073709551616 ^ K * val (os.drop K) := Nat.mul_le_mul_left _ q
        omega
    have h2 := all_zero h0 (i - K)
    rw [List.getD_eq_getElem?_getD, List.getElem?_drop, ← List.getD_eq_getElem?_getD, show K + (i - K) = i by omega] at h2
    exact h2
  · rw [List.getD_eq_getElem?_getD, List.getElem?_eq_none (by omega)]; rfl
theorem norm_top {ws : List Nat} (h : Norm ws) (hl : 0 < ws.length) : 0 < ws.getD (ws.length - 1) 0 := by
  rcases h with h | h
  · rw [h] at hl; simp at hl
  · rw [List.getLastD_eq_getLast?, List.getLast?_eq_getElem?, ← List.getD_eq_getElem?_getD] at h
    omega
theorem twice_le {P Z : Nat} (h : P * 9223372036854775808 ≤ Z) : P * 18446744073709551616 ≤ 2 * Z := by
  rw [show (18446744073709551616 : Nat) = 2 * 9223372036854775808 from rfl, Nat.mul_left_comm]
  exact Nat.mul_le_mul_left _ h
/-- by how much a divisor is brought up -/
structure UpBy (n Y up : Nat) : Prop where
  lt : up < 64
  hi : Y * 2 ^ up < 18446744073709551616 ^ n
  lo : 18446744073709551616 ^ n ≤ 2 * (Y * 2 ^ up)
theorem up_by {ys : List Nat} (hw : W64 ys) (hn : Norm ys) (h0 : 0 < ys.length) : UpBy ys.length (val ys) (64 - Lib.bitLen (ys.getD (ys.length - 1) 0)) ∧ 0 < Lib.bitLen (ys.getD (ys.length - 1) 0) ∧ Lib.bitLen (ys.getD (ys.length - 1) 0) ≤ 64 := by
  have ha := norm_top hn h0
  have hv := val_take_succ (ws := ys) (k := ys.length - 1) (by omega)
  have hv0 := val_take_lt hw (ys.length - 1)
  have hal := hw.get (ys.length - 1)
  obtain ⟨n, hnn⟩ : ∃ n, ys.length = n + 1 := ⟨ys.length - 1, by omega⟩
  rw [show ys.length - 1 + 1 = ys.length by omega, List.take_length] at hv
  rw [hnn, Nat.add_sub_cancel] at ha hv hv0 hal ⊢
  obtain ⟨a, haa⟩ : ∃ a, ys.getD n 0 = a := ⟨_, rfl⟩
  rw [haa] at ha hv hal ⊢
  obtain ⟨b1, b2, b3⟩ := Nx.bit_spec 64 a ha (by omega) (by omega)
  have b4 := bitLen_le a
  obtain ⟨l, hl⟩ : ∃ l, Lib.bitLen a = l := ⟨_, rfl⟩
  rw [hl] at b1 b2 b3 b4 ⊢
  have e1 : (18446744073709551616 : Nat) = 2 ^ l * 2 ^ (64 - l) := by rw [← Nat.pow_add, show l + (64 - l) = 64 by omega]
  have e2 : (9223372036854775808 : Nat) = 2 ^ (l - 1) * 2 ^ (64 - l) := by rw [← Nat.pow_add, show l - 1 + (64 - l) = 63 by omega]
  have hp : 0 < 2 ^ (64 - l) := Nat.pow_pos (by omega)
  obtain ⟨P, hP⟩ : ∃ P, 18446744073709551616 ^ n = P := ⟨_, rfl⟩
  have h3 : (a + 1) * 2 ^ (64 - l) ≤ 18446744073709551616 := by
    have : (a + 1) * 2 ^ (64 - l) ≤ 2 ^ l * 2 ^ (64 - l) := Nat.mul_le_mul_right _ b3
    omega
  have h4 : 9223372036854775808 ≤ a * 2 ^ (64 - l) := by rw [e2]; exact Nat.mul_le_mul_right _ b2
  rw [hP] at hv hv0
  refine ⟨⟨by omega, ?_, ?_⟩, b1, b4⟩
  · rw [Nat.pow_succ, hP, hv]
    have h5 : (val (ys.take n) + P * a) * 2 ^ (64 - l) < (P * (a + 1)) * 2 ^ (64 - l) := Nat.mul_lt_mul_of_pos_right (by rw [Nat.mul_add]; omega) hp
    have h6 : (P * (a + 1)) * 2 ^ (64 - l) ≤ P * 18446744073709551616 := by rw [Nat.mul_assoc]; exact Nat.mul_le_mul_left _ h3
    omega
  · rw [Nat.pow_succ, hP, hv]
    have h5 : P * 9223372036854775808 ≤ P * (a * 2 ^ (64 - l)) := Nat.mul_le_mul_left _ h4
    have h6 : P * (a * 2 ^ (64 - l)) ≤ (val (ys.take n) + P * a) * 2 ^ (64 - l) := by
      rw [← Nat.mul_assoc]
      exact Nat.mul_le_mul_right _ (by omega)
    exact twice_le (Nat.le_trans h5 h6)
/-- the dividend, brought up, is below the divisor by its first place -/
theorem up_start {n m X Y up lx : Nat} (h : UpBy n Y up) (hX : X < 18446744073709551616 ^ lx) (hm : lx + 1 = n + m) : X * 2 ^ up < Y * 2 ^ up * 18446744073709551616 ^ m := by
  have h1 : 18446744073709551616 ^ n * 18446744073709551616 ^ m ≤ 2 * (Y * 2 ^ up) * 18446744073709551616 ^ m := Nat.mul_le_mul_right _ h.lo
  rw [← Nat.pow_add, ← hm, Nat.pow_succ] at h1
  have h2 : X * 2 ^ up < 18446744073709551616 ^ lx * 9223372036854775808 := by
    have a1 : (2 : Nat) ^ up ≤ 2 ^ 63 := Nat.pow_le_pow_right (by omega) (by have := h.lt; omega)
    have a2 : X * 2 ^ up < 18446744073709551616 ^ lx * 2 ^ up := Nat.mul_lt_mul_of_pos_right hX (Nat.pow_pos (by omega))
    have a3 : 18446744073709551616 ^ lx * 2 ^ up ≤ 18446744073709551616 ^ lx * 2 ^ 63 := Nat.mul_le_mul_left _ a1
    omega
  have h3 : 2 * (Y * 2 ^ up) * 18446744073709551616 ^ m = 2 * (Y * 2 ^ up * 18446744073709551616 ^ m) := Nat.mul_assoc _ _ _
  omega

/-- ahead of round k - 1: what is left in os, what has been found in qs -/
structure LongSt (X V N m n k : Nat) (os qs : List Nat) : Prop where
  eq : val os + V * val qs = X
  lt : val os < V * 18446744073709551616 ^ k
  lo : os.length = N
  w : W64 os
  lq : qs.length = m
  wq : W64 qs
  zq : ∀ i, i < k → qs.getD i 0 = 0
theorem val_zeros : ∀ n, val (List.replicate n 0) = 0
  | 0 => rfl
  | n + 1 => by simp [List.replicate_succ, val, val_zeros n]
theorem long_start {X V N m n : Nat} {os : List Nat} (h : val os = X) (hl : X < V * 18446744073709551616 ^ m) (hN : os.length = N) (hw : W64 os) : LongSt X V N m n m os (List.replicate m 0) :=
  ⟨by rw [val_zeros, h]; omega, by rw [h]; exact hl, hN, hw, by simp, W64.rep _, fun i hi => by rw [List.getD_eq_getElem?_getD, List.getElem?_replicate]; split <;> rfl⟩
theorem long_step {X V N m n k q : Nat} {os os' qs : List Nat} (h : LongSt X V N m n (k + 1) os qs) (hk : k < m) (hV : 0 < V) (hq : q = val os / (18446744073709551616 ^ k * V)) (ho : val os' = val os % (18446744073709551616 ^ k * V)) (hl : os'.length = N) (hw : W64 os') :
    LongSt X V N m n k os' (qs.set k q) ∧ q < 18446744073709551616 := by
  have hp : 0 < 18446744073709551616 ^ k * V := Nat.mul_pos (Nat.pow_pos (by omega)) hV
  have hql : q < 18446744073709551616 := by
    rw [hq]
    refine (Nat.div_lt_iff_lt_mul hp).2 ?_
    have := h.lt
    rw [Nat.pow_succ] at this
    rw [Nat.mul_comm (18446744073709551616 ^ k), Nat.mul_left_comm, Nat.mul_comm 18446744073709551616]
    exact this
  refine ⟨⟨?_, ?_, hl, hw, by rw [List.length_set]; exact h.lq, h.wq.set hql, fun i hi => ?_⟩, hql⟩
  · have h1 := val_set (ws := qs) (k := k) q (by rw [h.lq]; exact hk)
    rw [h.zq k (by omega), Nat.mul_zero, Nat.add_zero] at h1
    have h2 := h.eq
    have h3 := Nat.div_add_mod (val os) (18446744073709551616 ^ k * V)
    rw [← hq, ← ho] at h3
    rw [h1, Nat.mul_add]
    have h4 : 18446744073709551616 ^ k * V * q = V * (18446744073709551616 ^ k * q) := by rw [Nat.mul_assoc, Nat.mul_left_comm]
    omega
  · rw [ho, Nat.mul_comm V]; exact Nat.mod_lt _ hp
  · have h1 := h.zq i (by omega)
    rw [List.getD_eq_getElem?_getD, List.getElem?_set, if_neg (by omega), ← List.getD_eq_getElem?_getD]
    exact h1
theorem long_end {X Y V up N m n : Nat} {os qs : List Nat} (h : LongSt (X * 2 ^ up) V N m n 0 os qs) (hV : V = Y * 2 ^ up) : val qs = X / Y ∧ val os / 2 ^ up = X % Y := by
  have h1 := h.eq
  have h2 := h.lt
  have hp : 0 < 2 ^ up := Nat.pow_pos (by omega)
  rw [Nat.pow_zero, Nat.mul_one] at h2
  have hV0 : 0 < V := by omega
  have h3 : val qs = X * 2 ^ up / V := by
    rw [← h1, Nat.add_mul_div_left _ _ hV0, Nat.div_eq_of_lt h2, Nat.zero_add]
  have h4 : val os = X * 2 ^ up % V := by
    rw [← h1, Nat.add_mul_mod_self_left, Nat.mod_eq_of_lt h2]
  rw [h3, h4, hV, Nat.mul_div_mul_right _ _ hp, Nat.mul_mod_mul_right, Nat.mul_div_cancel _ hp]
  exact ⟨rfl, rfl⟩

set_option maxRecDepth 8000 in
theorem leading_any (a : Nat) (w : World) (h : a < 18446744073709551616) : Calls Tryz.prog 161 #[.int .u64 (a : Int)] w fun e w' => e = .returned (.int .i64 (((64 - Lib.bitLen a : Nat)) : Int)) ∧ w = w' := by
  have HL := Lib.hid (fun w => Tryz.bits_Len64 (a : Int) w (by omega) (by omega))
  have hq := bitLen_le a
  obtain ⟨l, hl⟩ : ∃ l, Lib.bitLen a = l := ⟨_, rfl⟩
  simp only [Int.toNat_natCast] at HL
  rw [hl] at HL hq ⊢
  clear h hl
  go_enter Tryz.func161, Tryz.ntmps161
  go_wp2_with fail
  refine (HL.out _).mono ?_
  rintro e w2 ⟨rfl, rfl⟩
  go_wp2_with fail
  go_ret
  exact ⟨congrArg (fun z : Int => Ending.returned (.int .i64 z)) (by omega), rfl⟩
theorem Mag.kept {w w' : World} {g b o n c : Nat} {vs : List Nat} (h : Mag w (.slice (some ⟨b, o, none⟩) n c) vs) (hk : Kept w w' g) (hne : b ≠ g) : Mag w' (.slice (some ⟨b, o, none⟩) n c) vs := by
  obtain ⟨A, c', h1, h2, h3, h4, h5⟩ := h
  refine ⟨A, c', h1, h2, h3, h4, fun h0 => ?_⟩
  obtain ⟨b', o', e, hb, hc⟩ := h5 h0
  refine ⟨b', o', e, Nat.lt_of_lt_of_le hb hk.size, fun j hj => ?_⟩
  subst e
  injection h1 with h1 _ _
  injection h1 with h1
  injection h1 with e1 e2 _
  subst e1 e2
  exact (hk.cell (p := ⟨b, o + j, none⟩) hb hne).trans (hc j hj)
theorem BlkP.kept {w w' : World} {g b : Nat} {ws : List Nat} (h : BlkP w b ws) (hk : Kept w w' g) (hne : b ≠ g) : BlkP w' b ws := by
  have := h.lt
  obtain ⟨cur, h1, h2⟩ := h
  exact ⟨cur, (hk.block b this hne).trans h1, h2⟩
theorem Blk.kept {w w' : World} {g b : Nat} {ws : List Nat} (h : Blk w b ws) (hk : Kept w w' g) (hne : b ≠ g) : Blk w' b ws :=
  (hk.block b h.lt hne).trans h

theorem onto {w w1 w2 : World} (h : Below w.heap.size w w1) (h2 : Below w1.heap.size w1 w2) : Below w.heap.size w w2 := h.trans (h2.mono h.size)
theorem own_of_blk {w : World} {B g k c : Nat} {os : List Nat} (h : Blk w g os) (hl : os.length = c) (hc : c ≤ 536870912) (hk : k ≤ c) (hB : B ≤ g) : w.ownsRow B 22 1 (.slice (some ⟨g, 0, none⟩) k c) k (vals (os.take k)) := by
  refine ⟨by simp [vals]; omega, .inr ⟨g, c, cellsW os, rfl, hB, h, hk, by simp only [maxLen]; omega, by simp [cellsW, hl], ?_⟩⟩
  simp [cellsW, vals, List.map_take]
theorem vals_append (a b : List Nat) : vals a ++ vals b = vals (a ++ b) := by simp [vals]
theorem blkp_of_own {w : World} {B n : Nat} {v : Value} {ws : List Nat} (h : w.ownsRow B 22 1 v n (vals ws)) (hn : 0 < n) :
    ∃ g cap, v = .slice (some ⟨g, 0, none⟩) n cap ∧ B ≤ g ∧ BlkP w g ws ∧ n ≤ cap ∧ cap ≤ maxLen ∧ ws.length = n := by
  have hl : ws.length = n := by have := h.1; simpa [vals] using this
  rcases h.2 with ⟨-, h2⟩ | ⟨g, cap, cur, h1, h2, h3, h4, h5, h6, h7⟩
  · omega
  · refine ⟨g, cap, h1, h2, ⟨cur, h3, by omega, fun j hj => ?_⟩, h4, h5, hl⟩
    have e := vals_get hj
    rw [← h7, List.getElem?_take_of_lt (by omega)] at e
    rw [← e]; simp
theorem BlkP.take {w : World} {g : Nat} {ws : List Nat} (h : BlkP w g ws) (k : Nat) : BlkP w g (ws.take k) := by
  obtain ⟨cur, h1, h2, h3⟩ := h
  refine ⟨cur, h1, by rw [List.length_take]; omega, fun j hj => ?_⟩
  rw [List.length_take] at hj
  rw [h3 j (by omega), List.getD_eq_getElem?_getD, List.getD_eq_getElem?_getD, List.getElem?_take_of_lt (by omega)]
/-- a brought-up divisor has as many words -/
theorem up_len {vs : List Nat} {n Y up : Nat} (h : UpBy n Y up) (hn : 1 ≤ n) (hw : W64 vs) (hm : Norm vs) (hv : val vs = Y * 2 ^ up) : vs.length = n := by
  have h1 := norm_len_le hm (by rw [hv]; exact h.hi)
  rcases Nat.lt_or_ge vs.length n with q | q
  · exfalso
    have h2 := val_lt hw
    have h3 : 18446744073709551616 ^ vs.length ≤ 18446744073709551616 ^ (n - 1) := Nat.pow_le_pow_right (by omega) (by omega)
    have h4 := h.lo
    obtain ⟨p, rfl⟩ : ∃ p, n = p + 1 := ⟨n - 1, by omega⟩
    rw [Nat.pow_succ, ← hv] at h4
    rw [Nat.add_sub_cancel] at h3
    generalize 18446744073709551616 ^ p = P at h3 h4
    have h5 : P * 2 ≤ P * 18446744073709551616 := Nat.mul_le_mul_left _ (by omega)
    have h6 : 2 * val vs < 2 * P := by omega
    omega
  · omega
/-- a dividend's words, brought up, with noughts behind -/
theorem up_row {os : List Nat} {k lx X up : Nat} (hw : W64 os) (hk : k ≤ os.length) (hv : val (os.take k) = X * 2 ^ up) (hX : 18446744073709551616 ^ (lx - 1) ≤ X) (hl : 1 ≤ lx) (hkl : k ≤ lx + 1) :
    lx ≤ k ∧ val ((os.take k ++ [0, 0]).take (lx + 1)) = X * 2 ^ up ∧ ((os.take k ++ [0, 0]).take (lx + 1)).length = lx + 1 ∧ W64 ((os.take k ++ [0, 0]).take (lx + 1)) := by
  have hlk : (os.take k).length = k := by rw [List.length_take]; omega
  have h1 : lx ≤ k := by
    rcases Nat.lt_or_ge k lx with q | q
    · exfalso
      have h2 := val_lt (hw.take k)
      rw [hlk] at h2
      have h3 : 18446744073709551616 ^ k ≤ 18446744073709551616 ^ (lx - 1) := Nat.pow_le_pow_right (by omega) (by omega)
      have h4 : X * 1 ≤ X * 2 ^ up := Nat.mul_le_mul_left _ (Nat.pow_pos (by omega))
      omega
    · exact q
  refine ⟨h1, ?_, by simp [hlk]; omega, ?_⟩
  · rw [List.take_append, hlk, List.take_of_length_le (by omega), val_append, hv]
    have : ∀ i, val (([0, 0] : List Nat).take i) = 0 := fun i => by
      rcases i with _ | _ | i <;> simp [val]
    rw [this]; simp
  · exact ((hw.take k).append (fun y hy => by simp at hy; omega)).take _
theorem own_below {w w' : World} {B : Nat} {e : TypeId} {sz n : Nat} {v : Value} {xs : List Value} (h : w.ownsRow B e sz v n xs) (hb : Below w.heap.size w w') : w'.ownsRow B e sz v n xs := by
  refine ⟨h.1, ?_⟩
  rcases h.2 with hn | ⟨g, cap, cur, hv, h1, h2, h3⟩
  · exact .inl hn
  · exact .inr ⟨g, cap, cur, hv, h1, (hb.block g (Array.getElem?_eq_some_iff.1 h2).1).trans h2, h3⟩
theorem own_base {w : World} {B : Nat} {e : TypeId} {sz n : Nat} {v : Value} {xs : List Value} (h : w.ownsRow B e sz v n xs) : ∀ k, v.ownBlock = some k → B ≤ k := by
  intro k hk
  rcases h.2 with ⟨hn, -⟩ | ⟨g, cap, cur, hv, h1, -⟩
  · rw [hn] at hk; simp [Value.ownBlock] at hk
  · rw [hv] at hk
    simp only [Value.ownBlock] at hk
    injection hk with hk
    omega
theorem noughts_new (w : World) (T : TypeId) : ∀ j u, ([.int .u64 0, .int .u64 0] : List Value)[j]? = some u → (w.alloc (.cells #[.int .u64 0, .int .u64 0] T)).cell? ((⟨w.heap.size, 0, none⟩ : Addr).add j) = some u := by
  intro j u h
  rcases j with _ | _ | j
  · simp at h; subst h; simp [go_sem, Addr.add]
  · simp at h; subst h; simp [go_sem, Addr.add]
  · simp at h
end Go.Proofs.YtmecnlgndaeidaaGreatDoor.Nb

namespace Go.Proofs.YtmecnlgndaeidaaGreatDoor.Nb
open Nx

theorem parts_val {X t p q r s : Nat} (hX : X < 9218868437227405312) (h : FinN X t) (hr : 2 ^ (oddX X).toNat = r) (hs : 2 ^ (-oddX X).toNat = s) (hv : p * s = oddM X * r * q) : p * 2 ^ 1074 = amt64 X * q := by
  obtain ⟨T, hT⟩ : ∃ T : Nat, T = 1074 := ⟨_, rfl⟩
  rw [← hT]
  have hb : bigM X = mag64 X := by
    unfold bigM mag64
    by_cases c : X < 4503599627370496
    · rw [if_pos (by omega), if_pos c]; omega
    · rw [if_neg (by omega), if_neg c]; omega
  have hx : bigX X = -1074 + (plc64 X : Int) := by
    unfold bigX plc64
    by_cases c : X < 4503599627370496
    · rw [if_pos (by omega)]; omega
    · rw [if_neg (by omega)]; omega
  have h1 := h.m0
  have h2 := h.xt
  rw [hb] at h1
  rw [hx] at h2
  have hs0 : 0 < s := hs ▸ Nat.two_pow_pos _
  have e1 : amt64 X = oddM X * 2 ^ (t + plc64 X) := by unfold amt64; rw [h1, Nat.mul_assoc, ← Nat.pow_add]
  have e2 : r * 2 ^ T = s * 2 ^ (t + plc64 X) := by
    rw [← hr, ← hs, ← Nat.pow_add, ← Nat.pow_add]
    congr 1
    omega
  refine Nat.eq_of_mul_eq_mul_right hs0 ?_
  rw [Nat.mul_right_comm, hv, e1]
  have e3 : oddM X * r * q * 2 ^ T = oddM X * q * (r * 2 ^ T) := by ac_rfl
  rw [e3, e2]
  ac_rfl
theorem val_in {X p q : Nat} (hX : X < 9218868437227405312) (h0 : 0 < X) (hq : 0 < q) (hv : p * 2 ^ 1074 = amt64 X * q) : 0 < p ∧ q ≤ p * 10 ^ 400 ∧ p < q * 10 ^ 400 := by
  have ha : 1 ≤ amt64 X := by
    have := @amt_lt_iff 0 X
    omega
  obtain ⟨D, hD⟩ : ∃ D : Nat, D = 2 ^ 1074 := ⟨_, rfl⟩
  rw [← hD] at hv
  obtain ⟨B, hB⟩ : ∃ B : Nat, B = 2045 := ⟨_, rfl⟩
  have hb : amt64 X < 2 ^ (53 + B) := by
    have h1 : mag64 X < 2 ^ 53 := by unfold mag64; split <;> omega
    have h2 : plc64 X ≤ B := by unfold plc64; omega
    have h3 : 2 ^ plc64 X ≤ 2 ^ B := Nat.pow_le_pow_right (by omega) h2
    unfold amt64
    have h4 := Nat.mul_lt_mul_of_lt_of_le h1 h3 (Nat.two_pow_pos _)
    rwa [← Nat.pow_add] at h4
  have c1 : D ≤ 10 ^ 400 := by rw [hD]; decide +kernel
  have c2 : (2 : Nat) ^ (53 + B) ≤ 10 ^ 400 * D := by rw [hB, hD]; decide +kernel
  have g1 : q ≤ p * D := by rw [hv]; exact Nat.le_mul_of_pos_left _ ha
  have hp : 0 < p := by
    rcases Nat.eq_zero_or_pos p with z | z
    · rw [z, Nat.zero_mul] at g1; omega
    · exact z
  refine ⟨hp, Nat.le_trans g1 (Nat.mul_le_mul_left _ c1), ?_⟩
  refine Nat.lt_of_mul_lt_mul_right (a := D) ?_
  rw [hv]
  refine Nat.lt_of_lt_of_le (Nat.mul_lt_mul_of_pos_right hb hq) ?_
  rw [Nat.mul_comm, Nat.mul_assoc]
  exact Nat.mul_le_mul_left _ c2
end Go.Proofs.YtmecnlgndaeidaaGreatDoor.Nb
