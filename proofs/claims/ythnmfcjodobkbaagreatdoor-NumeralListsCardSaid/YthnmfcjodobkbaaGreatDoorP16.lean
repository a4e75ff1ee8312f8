/- Y29 E6 in one text. -/
import Derived.Test.YthnmfcjodobkbaaGreatDoorP15

namespace Go.Proofs.YthnmfcjodobkbaaGreatDoor.Nb
open Go Go.RowKit

theorem gcd_one (n : Nat) : Nat.gcd 1 n = 1 := by simp

set_option maxRecDepth 8000 in
set_option maxHeartbeats 1000000 in
/-- the head of power: base to the power of k, in new memory -/
theorem power_pos (base k T : Nat) (w : World) (hb0 : 0 < base) (hb : base ≤ 9223372036854775807) (hk : k ≤ 9223372036854775807) (hT : base ^ k = T) (hT1 : T < 18446744073709551616) :
    Calls Tryz.prog 114 #[.int .i64 (base : Int), .int .i64 (k : Int)] w (NewR w false T 1) := by
  have hA := (Below.refl w.heap.size w).alloc (Nat.le_refl _) (.cells #[.bool false, .slice none 0 0] 109)
  have HZ := Lib.hid (ISlot.new w 109)
  have HA := Lib.hid hA
  have HT := Lib.hid (And.intro hT hT1)
  have hw1 : max (k : Int) (-(k : Int)) = (k : Int) := by omega
  have hk0 : ¬ (k : Int) < 0 := by omega
  obtain ⟨W, hW⟩ : ∃ W, w.alloc (.cells #[.bool false, .slice none 0 0] 109) = W := ⟨_, rfl⟩
  have hws : w.heap.size < W.heap.size := by rw [← hW]; simp
  rw [hW] at HZ HA
  clear hA hT hT1
  go_enter Tryz.func114, Tryz.ntmps114
  go_wp2_with fail
  refine (newInt_any base W hb).mono ?_
  rintro e w1 ⟨b1, rfl, hb1, i1, -, c1⟩
  have H1 := Lib.hid (And.intro i1 c1)
  clear i1 c1
  go_wp2_with fail
  refine (newInt_any k w1 hk).mono ?_
  rintro e w2 ⟨b2, rfl, hb2, i2, -, c2⟩
  have H2 := Lib.hid (And.intro (H1.out.1.below c2 (Nat.le_refl _)) (And.intro i2 (back_of' H1.out.2 c2)))
  have hs1 := H1.out.2.size
  clear i2 c2
  go_wp2_with fail
  refine (exp_any w.heap.size 0 b1 0 base b2 0 k w2 (HZ.out.below H2.out.2.2 (Nat.le_refl _)) H2.out.1 H2.out.2.1 hb0 (by rw [HT.out.1]; exact HT.out.2) (by omega) (by omega)).mono ?_
  rintro e w3 ⟨rfl, i3, s3, c3⟩
  rw [HT.out.1] at i3
  have HB3 := Lib.hid ((HA.out.trans (H2.out.2.2.mono HA.out.size)).trans c3)
  have HI := Lib.hid i3
  clear i3 s3 c3 H1 H2 HZ HA
  go_wp2_with fail
  have hA2 := (Below.refl w3.heap.size w3).alloc (Nat.le_refl _) (.cells #[.bool false, .slice none 0 0, .bool false, .slice none 0 0] 111)
  refine (setint_any w3.heap.size w.heap.size 0 T _ (RSlot.new w3 111) (HI.out.below hA2 (Nat.le_refl _)) (Nat.ne_of_lt HI.out.1)).mono ?_
  rintro e w4 ⟨rfl, r4, s4, c4⟩
  have HF := Lib.hid (And.intro HB3.out.size (And.intro r4 (And.intro s4 (back_of' HB3.out (hA2.trans c4)))))
  clear r4 s4 c4 hA2
  go_wp2_with fail
  go_ret
  exact ⟨_, rfl, HF.out⟩

set_option maxRecDepth 8000 in
set_option maxHeartbeats 1000000 in
theorem power_neg (base k T : Nat) (E : Int) (w : World) (hb0 : 0 < base) (hb : base ≤ 9223372036854775807) (hk : k ≤ 9223372036854775807) (hk0 : 0 < k) (hE : E = -(k : Int)) (hT : base ^ k = T) (hT1 : T < 18446744073709551616) :
    Calls Tryz.prog 114 #[.int .i64 (base : Int), .int .i64 E] w (NewR w false 1 T) := by
  have hA := (Below.refl w.heap.size w).alloc (Nat.le_refl _) (.cells #[.bool false, .slice none 0 0] 109)
  have HZ := Lib.hid (ISlot.new w 109)
  have HA := Lib.hid hA
  have HT := Lib.hid (And.intro hT hT1)
  have hT0 : 0 < T := by rw [← hT]; exact Nat.pow_pos hb0
  have hw0 : wrap64 (-E) = (k : Int) := by unfold wrap64; omega
  have hw1 : max E (k : Int) = (k : Int) := by omega
  have hlt : E < 0 := by omega
  obtain ⟨W, hW⟩ : ∃ W, w.alloc (.cells #[.bool false, .slice none 0 0] 109) = W := ⟨_, rfl⟩
  have hws : w.heap.size < W.heap.size := by rw [← hW]; simp
  rw [hW] at HZ HA
  clear hA hT hT1 hE
  go_enter Tryz.func114, Tryz.ntmps114
  go_wp2_with fail
  refine (newInt_any base W hb).mono ?_
  rintro e w1 ⟨b1, rfl, hb1, i1, -, c1⟩
  have H1 := Lib.hid (And.intro i1 c1)
  clear i1 c1
  go_wp2_with fail
  refine (newInt_any k w1 hk).mono ?_
  rintro e w2 ⟨b2, rfl, hb2, i2, -, c2⟩
  have H2 := Lib.hid (And.intro (H1.out.1.below c2 (Nat.le_refl _)) (And.intro i2 (back_of' H1.out.2 c2)))
  have hs1 := H1.out.2.size
  clear i2 c2
  go_wp2_with fail
  refine (exp_any w.heap.size 0 b1 0 base b2 0 k w2 (HZ.out.below H2.out.2.2 (Nat.le_refl _)) H2.out.1 H2.out.2.1 hb0 (by rw [HT.out.1]; exact HT.out.2) (by omega) (by omega)).mono ?_
  rintro e w3 ⟨rfl, i3, s3, c3⟩
  rw [HT.out.1] at i3
  have HB3 := Lib.hid ((HA.out.trans (H2.out.2.2.mono HA.out.size)).trans c3)
  have HI := Lib.hid i3
  clear i3 s3 c3 H1 H2 HZ HA
  go_wp2_with fail
  have hA2 := (Below.refl w3.heap.size w3).alloc (Nat.le_refl _) (.cells #[.bool false, .slice none 0 0, .bool false, .slice none 0 0] 111)
  have HA2 := Lib.hid (And.intro hA2 (And.intro (RSlot.new w3 111) (HI.out.below hA2 (Nat.le_refl _))))
  clear hA2
  refine (newInt_any 1 _ (by omega)).mono ?_
  rintro e w4 ⟨b4, rfl, hb4, i4, -, c4⟩
  have H4 := Lib.hid (And.intro i4 c4)
  clear i4 c4
  go_wp2_with fail
  refine (setfrac_any w3.heap.size b4 0 w.heap.size 0 1 T false w4 (HA2.out.2.1.below H4.out.2 (Nat.le_refl _)) H4.out.1 (HA2.out.2.2.below H4.out.2 (Nat.le_refl _)) (gcd_one T) (by simp) hT0).mono ?_
  rintro e w5 ⟨rfl, r5, s5, c5⟩
  have HF := Lib.hid (And.intro HB3.out.size (And.intro r5 (And.intro s5 (back_of' HB3.out ((HA2.out.1.trans (H4.out.2.mono HA2.out.1.size)).trans c5)))))
  clear r5 s5 c5
  go_wp2_with fail
  go_ret
  exact ⟨_, rfl, HF.out⟩

set_option maxRecDepth 8000 in
theorem ten_pos (k T : Nat) (w : World) (hk : k ≤ 9223372036854775807) (hT : 10 ^ k = T) (hT1 : T < 18446744073709551616) :
    Calls Tryz.prog 67 #[.int .i64 (k : Int)] w (NewR w false T 1) := by
  have HP := Lib.hid (power_pos 10 k T w (by omega) (by omega) hk hT hT1)
  clear hT hT1
  go_enter Tryz.func67, Tryz.ntmps67
  go_wp2_with fail
  refine HP.out.mono ?_
  rintro e w1 ⟨b, rfl, h⟩
  have HF := Lib.hid h
  clear h
  go_wp2_with fail
  go_ret
  exact ⟨b, rfl, HF.out⟩
set_option maxRecDepth 8000 in
theorem ten_neg (k T : Nat) (E : Int) (w : World) (hk : k ≤ 9223372036854775807) (hk0 : 0 < k) (hE : E = -(k : Int)) (hT : 10 ^ k = T) (hT1 : T < 18446744073709551616) :
    Calls Tryz.prog 67 #[.int .i64 E] w (NewR w false 1 T) := by
  have HP := Lib.hid (power_neg 10 k T E w (by omega) (by omega) hk hk0 hE hT hT1)
  clear hT hT1 hE
  go_enter Tryz.func67, Tryz.ntmps67
  go_wp2_with fail
  refine HP.out.mono ?_
  rintro e w1 ⟨b, rfl, h⟩
  have HF := Lib.hid h
  clear h
  go_wp2_with fail
  go_ret
  exact ⟨b, rfl, HF.out⟩
set_option maxRecDepth 8000 in
theorem two_neg (k T : Nat) (E : Int) (w : World) (hk : k ≤ 9223372036854775807) (hk0 : 0 < k) (hE : E = -(k : Int)) (hT : 2 ^ k = T) (hT1 : T < 18446744073709551616) :
    Calls Tryz.prog 88 #[.int .i64 E] w (NewR w false 1 T) := by
  have HP := Lib.hid (power_neg 2 k T E w (by omega) (by omega) hk hk0 hE hT hT1)
  clear hT hT1 hE
  go_enter Tryz.func88, Tryz.ntmps88
  go_wp2_with fail
  refine HP.out.mono ?_
  rintro e w1 ⟨b, rfl, h⟩
  have HF := Lib.hid h
  clear h
  go_wp2_with fail
  go_ret
  exact ⟨b, rfl, HF.out⟩
end Go.Proofs.YthnmfcjodobkbaaGreatDoor.Nb

namespace Go.Proofs.YthnmfcjodobkbaaGreatDoor.Nb
open Go Go.RowKit

set_option maxRecDepth 8000 in
set_option maxHeartbeats 1000000 in
theorem amount_ex (w : World) : Calls Tryz.prog 42 #[.agg #[.bool false, .int .u64 3602879701896397, .int .i64 (-55)]] w (NewR w false 3602879701896397 36028797018963968) := by
  have hA1 := (Below.refl w.heap.size w).alloc (Nat.le_refl _) (.cells #[.bool false, .int .u64 3602879701896397, .int .i64 (-55)] 83)
  have hA2 := hA1.alloc hA1.size (.cells #[.bool false, .slice none 0 0, .bool false, .slice none 0 0] 111)
  have hA3 := hA2.alloc hA2.size (.cells #[.bool false, .slice none 0 0] 109)
  have h1 : RSlot ((((w.alloc (.cells #[.bool false, .int .u64 3602879701896397, .int .i64 (-55)] 83)).alloc (.cells #[.bool false, .slice none 0 0, .bool false, .slice none 0 0] 111)).alloc (.cells #[.bool false, .slice none 0 0] 109))) (w.heap.size + 1) := by
    have := (RSlot.new (w.alloc (.cells #[.bool false, .int .u64 3602879701896397, .int .i64 (-55)] 83)) 111).below ((Below.refl _ _).alloc (Nat.le_refl _) (.cells #[.bool false, .slice none 0 0] 109)) (Nat.le_refl _)
    simpa using this
  have h2 : ISlot ((((w.alloc (.cells #[.bool false, .int .u64 3602879701896397, .int .i64 (-55)] 83)).alloc (.cells #[.bool false, .slice none 0 0, .bool false, .slice none 0 0] 111)).alloc (.cells #[.bool false, .slice none 0 0] 109))) (w.heap.size + 2) 0 := by
    have := ISlot.new ((w.alloc (.cells #[.bool false, .int .u64 3602879701896397, .int .i64 (-55)] 83)).alloc (.cells #[.bool false, .slice none 0 0, .bool false, .slice none 0 0] 111)) 109
    simpa using this
  have h3 : ((((w.alloc (.cells #[.bool false, .int .u64 3602879701896397, .int .i64 (-55)] 83)).alloc (.cells #[.bool false, .slice none 0 0, .bool false, .slice none 0 0] 111)).alloc (.cells #[.bool false, .slice none 0 0] 109))).cell? ⟨w.heap.size, 2, none⟩ = some (.int .i64 (-55)) := by simp [go_sem]
  have HU := Lib.hid (setUint_any (w.heap.size + 2) 0 3602879701896397 _ h2 (by omega))
  have HA := Lib.hid (And.intro hA3 (And.intro h1 h3))
  clear hA1 hA2 hA3 h1 h2 h3
  go_enter Tryz.func42, Tryz.ntmps42
  go_wp2_with fail
  refine HU.out.mono ?_
  rintro e w1 ⟨rfl, i1, s1, b1⟩
  have H1 := Lib.hid (And.intro i1 (And.intro (HA.out.1.trans (b1.mono (by omega))) (And.intro ((show RSlot w1 (w.heap.size + 1) from ⟨⟨Nat.lt_of_lt_of_le HA.out.2.1.1.1 b1.size, by
      obtain ⟨-, ⟨n, h2⟩, -, -, -⟩ := HA.out.2.1.1; exact ⟨n, (b1.cell (p := ⟨w.heap.size + 1, 0, none⟩) (by show w.heap.size + 1 < w.heap.size + 2; omega)).trans h2⟩, by
      obtain ⟨-, -, ⟨A, k, c, h3⟩, -, -⟩ := HA.out.2.1.1; exact ⟨A, k, c, (b1.cell (p := ⟨w.heap.size + 1, 0 + 1, none⟩) (by show w.heap.size + 1 < w.heap.size + 2; omega)).trans h3⟩, (b1.frozen (p := ⟨w.heap.size + 1, 0, none⟩) (by show w.heap.size + 1 < w.heap.size + 2; omega)).trans HA.out.2.1.1.2.2.2.1, (b1.frozen (p := ⟨w.heap.size + 1, 0 + 1, none⟩) (by show w.heap.size + 1 < w.heap.size + 2; omega)).trans HA.out.2.1.1.2.2.2.2⟩, ⟨Nat.lt_of_lt_of_le HA.out.2.1.1.1 b1.size, by
      obtain ⟨-, ⟨n, h2⟩, -, -, -⟩ := HA.out.2.1.2; exact ⟨n, (b1.cell (p := ⟨w.heap.size + 1, 2, none⟩) (by show w.heap.size + 1 < w.heap.size + 2; omega)).trans h2⟩, by
      obtain ⟨-, -, ⟨A, k, c, h3⟩, -, -⟩ := HA.out.2.1.2; exact ⟨A, k, c, (b1.cell (p := ⟨w.heap.size + 1, 2 + 1, none⟩) (by show w.heap.size + 1 < w.heap.size + 2; omega)).trans h3⟩, (b1.frozen (p := ⟨w.heap.size + 1, 2, none⟩) (by show w.heap.size + 1 < w.heap.size + 2; omega)).trans HA.out.2.1.2.2.2.2.1, (b1.frozen (p := ⟨w.heap.size + 1, 2 + 1, none⟩) (by show w.heap.size + 1 < w.heap.size + 2; omega)).trans HA.out.2.1.2.2.2.2.2⟩⟩)) ((b1.cell (p := ⟨w.heap.size, 2, none⟩) (by show w.heap.size < w.heap.size + 2; omega)).trans HA.out.2.2))))
  clear i1 s1 b1 HA HU
  go_wp2_with fail
  refine (setint_any (w.heap.size + 1) (w.heap.size + 2) 0 3602879701896397 w1 H1.out.2.2.1 H1.out.1 (by omega)).mono ?_
  rintro e w2 ⟨rfl, r2, s2, b2⟩
  have c2 := (b2.cell (p := ⟨w.heap.size, 2, none⟩) (by show w.heap.size < w.heap.size + 1; omega)).trans H1.out.2.2.2
  have H2 := Lib.hid (And.intro r2 (And.intro s2 (H1.out.2.1.trans (b2.mono (by omega)))))
  clear r2 s2 b2 H1
  go_wp2_with fail
  refine (two_neg 55 36028797018963968 (-55) w2 (by omega) (by omega) (by omega) (by decide) (by omega)).mono ?_
  rintro e w3 ⟨b3, rfl, hb3, r3, s3, c3⟩
  have H3 := Lib.hid (And.intro (H2.out.1.below c3 (Nat.le_refl _)) (And.intro (H2.out.2.1.below c3 (Nat.le_refl _)) (And.intro (back_of' H2.out.2.2 c3) r3)))
  clear r3 s3 c3
  go_wp2_with fail
  refine (ratmul_any (w.heap.size + 1) (w.heap.size + 1) b3 3602879701896397 1 1 36028797018963968 3602879701896397 36028797018963968 w3 H3.out.2.1 H3.out.1 H3.out.2.2.2 (by decide) (by decide) (by omega) (by omega) (by omega)).mono ?_
  rintro e w4 ⟨rfl, r4, s4, b4⟩
  have HF := Lib.hid (And.intro r4 (And.intro s4 (H3.out.2.2.1.trans (b4.mono (by omega)))))
  clear r4 s4 b4
  go_wp2_with fail
  go_ret
  exact ⟨_, rfl, Nat.le_succ _, HF.out⟩

set_option maxRecDepth 8000 in
set_option maxHeartbeats 1000000 in
theorem decade_ex (x : Nat) (w : World) (hx : RatN w x false 3602879701896397 36028797018963968) : Calls Tryz.prog 73 #[.pointer (some ⟨x, 0, none⟩)] w fun e w' => e = .returned (.int .i64 (-1)) ∧ Below w.heap.size w w' := by
  have HX := Lib.hid (fun (W : World) (hW : Below w.heap.size w W) => hx.below hW (Nat.le_refl _))
  have HN := Lib.hid (num_any x _ _ w hx)
  clear hx
  go_enter Tryz.func73, Tryz.ntmps73
  go_wp2_with fail
  refine HN.out.mono ?_
  rintro e w1 ⟨b1, rfl, hb1, i1, s1, c1⟩
  have HL1 := Lib.hid (bitlen_any b1 0 _ false w1 i1)
  rw [show Lib.bitLen 3602879701896397 = 52 by decide] at HL1
  have HB1 := Lib.hid c1
  clear i1 s1 c1
  go_wp2_with fail
  refine HL1.out.mono ?_
  rintro e w2 ⟨rfl, hw⟩
  obtain rfl := hw.symm
  go_wp2_with fail
  refine (denom_any x _ _ w1 (HX.out _ HB1.out)).mono ?_
  rintro e w2 ⟨b2, rfl, hb2, i2, s2, c2⟩
  have HL2 := Lib.hid (bitlen_any b2 0 _ false w2 i2)
  rw [show Lib.bitLen 36028797018963968 = 56 by decide] at HL2
  have HB2 := Lib.hid (back_of' HB1.out c2)
  clear i2 s2 c2
  go_wp2_with fail
  refine HL2.out.mono ?_
  rintro e w3 ⟨rfl, hw⟩
  obtain rfl := hw.symm
  go_wp2_with fail
  go_loopw [3] (fun v wr => v = .int .i64 (-1) ∧ Hid (Below w.heap.size w wr)) (fun _ _ => 0)
  case atStart => exact ⟨rfl, HB2⟩
  case round =>
    obtain ⟨rfl, hbr⟩ := hrel
    go_wp2_with fail
    refine (ten_neg 1 10 (-1) wr (by omega) (by omega) (by omega) (by decide) (by omega)).mono ?_
    rintro e w3 ⟨b3, rfl, hb3, r3, s3, c3⟩
    have HC1 := Lib.hid (ratcmp_any x b3 3602879701896397 36028797018963968 1 10 36028797018963970 36028797018963968 w3 (HX.out _ (back_of' hbr.out c3)) r3 (by decide) (by decide) (by omega) (by omega))
    rw [show cmpN 36028797018963970 36028797018963968 = 1 by decide] at HC1
    have HB3 := Lib.hid (back_of' hbr.out c3)
    clear r3 s3 c3
    go_wp2_with fail
    refine HC1.out.mono ?_
    rintro e w4 ⟨rfl, c4⟩
    have HB4 := Lib.hid (back_of' HB3.out c4)
    clear c4
    go_wp2_with fail
    go_loopw [3] (fun v wr => v = .int .i64 (-1) ∧ Hid (Below w.heap.size w wr)) (fun _ _ => 0)
    case atStart => exact ⟨rfl, HB4⟩
    case round =>
      obtain ⟨rfl, hbr2⟩ := hrel
      go_wp2_with fail
      refine (ten_pos 0 1 _ (by omega) (by decide) (by omega)).mono ?_
      rintro e w5 ⟨b5, rfl, hb5, r5, s5, c5⟩
      have HC2 := Lib.hid (ratcmp_any x b5 3602879701896397 36028797018963968 1 1 3602879701896397 36028797018963968 w5 (HX.out _ (back_of' hbr2.out c5)) r5 (by decide) (by decide) (by omega) (by omega))
      rw [show cmpN 3602879701896397 36028797018963968 = -1 by decide] at HC2
      have HB5 := Lib.hid (back_of' hbr2.out c5)
      clear r5 s5 c5
      go_wp2_with fail
      refine HC2.out.mono ?_
      rintro e w6 ⟨rfl, c6⟩
      have HB6 := Lib.hid (back_of' HB5.out c6)
      clear c6
      go_wp2_with fail
      go_ret
      exact ⟨rfl, HB6.out⟩
end Go.Proofs.YthnmfcjodobkbaaGreatDoor.Nb
