/- HB18 HB19 HB20 HB21 HF3 in one text. -/
import Derived.Test.YtgccfdfbnhldbaaGreatDoorP31
import Derived.Test.YtgccfdfbnhldbaaGreatDoorP36
import Derived.Test.YtgccfdfbnhldbaaGreatDoorP30
import Derived.Test.YtgccfdfbnhldbaaGreatDoorP18
import Derived.Test.YtgccfdfbnhldbaaGreatDoorP32
import Derived.Test.YtgccfdfbnhldbaaGreatDoorP29
import Derived.Test.YtgccfdfbnhldbaaGreatDoorP33

namespace Go.Proofs.YtgccfdfbnhldbaaGreatDoor.Nb
open Go Go.RowKit

theorem revDig_lenW : ∀ (w r : Nat), r < 10 ^ w → (revDig r).length ≤ w
  | 0, r, h => by
    have : r = 0 := by rw [Nat.pow_zero] at h; omega
    rw [this, revDig_zero]; simp
  | w + 1, r, h => by
    by_cases c0 : r = 0
    · rw [c0, revDig_zero]; simp
    · rw [revDig_pos c0, List.length_cons]
      have := revDig_lenW w (r / 10) (by rw [Nat.pow_succ] at h; omega)
      omega
theorem digN_len {w r : Nat} (h : r < 10 ^ w) (hw : 1 ≤ w) : (digN r).length ≤ w ∧ 1 ≤ (digN r).length := by
  unfold digN
  by_cases c : r = 0
  · rw [if_pos c]; exact ⟨hw, Nat.le_refl _⟩
  · rw [if_neg c]
    unfold dig
    rw [List.length_reverse]
    exact ⟨revDig_lenW w r h, by rw [revDig_pos c]; simp⟩
/-- a number with so many decimals, written out -/
def pntL (l : List UInt8) (k : Nat) : List UInt8 := (padD (k + 1) l).take ((padD (k + 1) l).length - k) ++ 46 :: (padD (k + 1) l).drop ((padD (k + 1) l).length - k)
def pntD (n k : Nat) : List UInt8 := pntL (digN n) k
theorem five_lt {k : Nat} (hk : k ≤ 1074) : 5 ^ k < 18446744073709551616 ^ 39 ∧ 5 ^ k < 10 ^ 800 := by
  have h := Nat.pow_le_pow_right (n := 5) (by omega) hk
  have c1 : (5 : Nat) ^ 1074 < 18446744073709551616 ^ 39 := by decide +kernel
  have c2 : (5 : Nat) ^ 1074 < 10 ^ 800 := by decide +kernel
  exact ⟨Nat.lt_of_le_of_lt h c1, Nat.lt_of_le_of_lt h c2⟩
theorem up_lt {m N : Nat} (hm : m < 18446744073709551616) (hN : N ≤ 1024) : m * 2 ^ N < 10 ^ 500 := by
  have h := Nat.pow_le_pow_right (n := 2) (by omega) hN
  have c1 : 18446744073709551616 * (2 : Nat) ^ 1024 < 10 ^ 500 := by decide +kernel
  exact Nat.lt_of_le_of_lt (Nat.mul_le_mul (Nat.le_of_lt hm) h) c1
theorem down_lt {m k : Nat} (hm : m < 18446744073709551616) (hk : k ≤ 1074) : m * 5 ^ k < 10 ^ 900 := by
  have c1 : 18446744073709551616 * (10 : Nat) ^ 800 < 10 ^ 900 := by decide +kernel
  exact Nat.lt_of_le_of_lt (Nat.mul_le_mul (Nat.le_of_lt hm) (Nat.le_of_lt (five_lt hk).2)) c1
set_option maxRecDepth 8000 in
set_option maxHeartbeats 1000000 in
theorem Full_up (f : Nat) (ng : Bool) (m N : Nat) (sg : List UInt8) (w : World) (hm : m < 18446744073709551616) (hN : N ≤ 1024) (hsg : sg.length ≤ 1)
    (HS : Hid (∀ W, Calls Tryz.prog 25 #[.float .f64 f] W fun e w' => e = .returned (.tuple #[.string ⟨#[]⟩, .bool false]) ∧ w' = W))
    (HBg : Hid (∀ W, Calls Tryz.prog 26 #[.float .f64 f] W fun e w' => e = .returned (.pointer (some ⟨W.heap.size, 0, none⟩)) ∧ Bld w' W.heap.size W.heap.size sg ∧ Below W.heap.size W w'))
    (HPt : Hid (∀ W, Tab64 W → Calls Tryz.prog 27 #[.float .f64 f] W fun e w' => e = .returned (.tuple #[.agg #[.bool ng, .int .u64 (m : Int), .int .i64 (N : Int)], .int .i64 0]) ∧ Below W.heap.size W w'))
    (hT : Tab64 w) : Calls Tryz.prog 10 #[.float .f64 f] w fun e w' => e = .returned (.string ⟨(sg ++ digN (m * 2 ^ N)).toArray⟩) ∧ Below w.heap.size w w' := by
  have HL := Lib.hid (digN_len (up_lt hm hN) (by omega))
  have HR := Lib.hid (revDig_lenW _ _ (up_lt hm hN))
  obtain ⟨T, hTT⟩ : ∃ T, m * 2 ^ N = T := ⟨_, rfl⟩
  rw [hTT] at HL HR ⊢
  have HTT := Lib.hid hTT
  have HT := Lib.hid hT
  have hge : ((0 : Int) ≤ (N : Int)) := by omega
  clear hT hTT
  go_enter Tryz.func10, Tryz.ntmps10
  go_wp2_with fail
  refine (HS.out w).mono ?_
  rintro e w1 ⟨rfl, hw⟩
  obtain rfl := hw.symm
  go_wp2_with fail
  refine (HBg.out w).mono ?_
  rintro e w1 ⟨rfl, d1, b1⟩
  have H1 := Lib.hid (And.intro d1 b1)
  clear d1 b1
  go_wp2_with fail
  refine (HPt.out w1 (HT.out.below H1.out.2)).mono ?_
  rintro e w2 ⟨rfl, b2⟩
  obtain ⟨W2, hW2⟩ : ∃ W2, w2.alloc (.cells #[.bool ng, .int .u64 (m : Int), .int .i64 (N : Int)] 60) = W2 := ⟨_, rfl⟩
  have hk2 : Below w2.heap.size w2 W2 := by rw [← hW2]; exact (Below.refl _ _).alloc (Nat.le_refl _) _
  have q1 : W2.cell? ⟨w2.heap.size, 1, none⟩ = some (.int .u64 (m : Int)) := by rw [← hW2]; simp [go_sem]
  have q2 : W2.cell? ⟨w2.heap.size, 2, none⟩ = some (.int .i64 (N : Int)) := by rw [← hW2]; simp [go_sem]
  have ql : w2.heap.size < W2.heap.size := by rw [← hW2]; simp
  obtain ⟨pb, hpb⟩ : ∃ pb, w2.heap.size = pb := ⟨_, rfl⟩
  have HB2 := Lib.hid (And.intro (H1.out.1.below (b2.trans (hk2.mono b2.size))) (back_of' H1.out.2 (b2.trans (hk2.mono b2.size))))
  clear b2 hk2
  rw [hpb] at q1 q2 ql
  have hA3 := (Below.refl W2.heap.size W2).alloc (Nat.le_refl _) (.cells #[.bool false, .slice none 0 0] 90)
  have HSet := Lib.hid (setUint_any W2.heap.size 0 m _ (ISlot.new W2 90) hm)
  have HA3 := Lib.hid hA3
  have hzl := hA3.size
  have q2' := (hA3.cell (p := ⟨pb, 2, none⟩) ql).trans q2
  clear hA3
  go_wp2_with fail
  refine HSet.out.mono ?_
  rintro e w4 ⟨rfl, n4, s4, b4⟩
  have q4 := (b4.cell (p := ⟨pb, 2, none⟩) ql).trans q2'
  have hb24 : Below W2.heap.size W2 w4 := HA3.out.trans b4
  have H4 := Lib.hid (And.intro hb24 (And.intro n4 s4))
  clear q2' q2 q1 n4 s4 b4 hb24 HSet
  go_wp2_with fail
  refine (lshL _ 0 _ 0 m N 1 w4 H4.out.2.2 (H4.out.2.1.any (Nat.le_refl _)) (by omega)).mono ?_
  rintro e w5 ⟨rfl, n5, s5, b5⟩
  rw [HTT.out] at n5
  have hb5 := H4.out.1.trans b5
  have H5 := Lib.hid (And.intro hb5 n5)
  clear n5 s5 b5 hb5
  go_wp2_with fail
  refine (stringL _ 0 T _ _ w5 H5.out.2 (by omega) (by omega) (by have := HR.out; omega) rfl).mono ?_
  rintro e w6 ⟨rfl, b6⟩
  have hb6 := back_of' H5.out.1 b6
  have H6 := Lib.hid (And.intro (HB2.out.1.below hb6) (back_of' HB2.out.2 hb6))
  clear b6 hb6
  go_wp2_with fail
  refine (wstring w.heap.size w.heap.size sg _ w6 H6.out.1 (by omega) (by have := HL.out; simp [ByteArray.size]; omega) H6.out.2.size).mono ?_
  rintro e w7 ⟨rfl, d7, b7⟩
  have H7 := Lib.hid (And.intro d7 (H6.out.2.trans b7))
  clear d7 b7
  go_wp2_with fail
  refine (bstring w.heap.size w.heap.size _ w7 H7.out.1 H7.out.2.size).mono ?_
  rintro e w8 ⟨rfl, b8⟩
  have HF := Lib.hid (H7.out.2.trans b8)
  clear b8
  go_wp2_with fail
  go_ret
  exact ⟨rfl, HF.out⟩
end Go.Proofs.YtgccfdfbnhldbaaGreatDoor.Nb

namespace Go.Proofs.YtgccfdfbnhldbaaGreatDoor.Nb
open Go Go.RowKit

theorem pntL_short {l : List UInt8} {k : Nat} (h : l.length ≤ k) : pntL l k = 48 :: 46 :: (List.replicate (k - l.length) 48 ++ l) := by
  unfold pntL
  rw [padD_len, show max (k + 1) l.length - k = 1 by omega]
  unfold padD
  rw [show k + 1 - l.length = k - l.length + 1 by omega, List.replicate_succ]
  rfl
theorem repeat_one (c : UInt8) : ∀ n, Lib.repeatL [c] n = List.replicate n c
  | 0 => rfl
  | n + 1 => by
    have := repeat_one c n
    simp [Lib.repeatL, List.replicate_succ, this]
set_option maxRecDepth 8000 in
set_option maxHeartbeats 1000000 in
theorem Full_down (f : Nat) (ng : Bool) (m k : Nat) (sg : List UInt8) (w : World) (hm : m < 18446744073709551616) (hk0 : 0 < k) (hk : k ≤ 1074) (hsg : sg.length ≤ 1)
    (HS : Hid (∀ W, Calls Tryz.prog 25 #[.float .f64 f] W fun e w' => e = .returned (.tuple #[.string ⟨#[]⟩, .bool false]) ∧ w' = W))
    (HBg : Hid (∀ W, Calls Tryz.prog 26 #[.float .f64 f] W fun e w' => e = .returned (.pointer (some ⟨W.heap.size, 0, none⟩)) ∧ Bld w' W.heap.size W.heap.size sg ∧ Below W.heap.size W w'))
    (HPt : Hid (∀ W, Tab64 W → Calls Tryz.prog 27 #[.float .f64 f] W fun e w' => e = .returned (.tuple #[.agg #[.bool ng, .int .u64 (m : Int), .int .i64 (-(k : Int))], .int .i64 0]) ∧ Below W.heap.size W w'))
    (hT : Tab64 w) : Calls Tryz.prog 10 #[.float .f64 f] w fun e w' => e = .returned (.string ⟨(sg ++ pntD (m * 5 ^ k) k).toArray⟩) ∧ Below w.heap.size w w' := by
  have HL := Lib.hid (digN_len (down_lt hm hk) (by omega))
  have HR := Lib.hid (revDig_lenW _ _ (down_lt hm hk))
  obtain ⟨T, hTT⟩ : ∃ T, m * 5 ^ k = T := ⟨_, rfl⟩
  rw [hTT] at HL HR ⊢
  have HTT := Lib.hid hTT
  unfold pntD
  obtain ⟨l, hl⟩ : ∃ l, digN T = l := ⟨_, rfl⟩
  rw [hl] at HL ⊢
  have HDL := Lib.hid hl
  clear hl
  have HT := Lib.hid hT
  have hge : ¬ ((0 : Int) ≤ -(k : Int)) := by omega
  have hng : - -(k : Int) = (k : Int) := by omega
  clear hT hTT
  go_enter Tryz.func10, Tryz.ntmps10
  go_wp2_with fail
  refine (HS.out w).mono ?_
  rintro e w1 ⟨rfl, hw⟩
  obtain rfl := hw.symm
  go_wp2_with fail
  refine (HBg.out w).mono ?_
  rintro e w1 ⟨rfl, d1, b1⟩
  have H1 := Lib.hid (And.intro d1 b1)
  clear d1 b1
  go_wp2_with fail
  refine (HPt.out w1 (HT.out.below H1.out.2)).mono ?_
  rintro e w2 ⟨rfl, b2⟩
  obtain ⟨W2, hW2⟩ : ∃ W2, w2.alloc (.cells #[.bool ng, .int .u64 (m : Int), .int .i64 (-(k : Int))] 60) = W2 := ⟨_, rfl⟩
  have hk2 : Below w2.heap.size w2 W2 := by rw [← hW2]; exact (Below.refl _ _).alloc (Nat.le_refl _) _
  have q1 : W2.cell? ⟨w2.heap.size, 1, none⟩ = some (.int .u64 (m : Int)) := by rw [← hW2]; simp [go_sem]
  have q2 : W2.cell? ⟨w2.heap.size, 2, none⟩ = some (.int .i64 (-(k : Int))) := by rw [← hW2]; simp [go_sem]
  have ql : w2.heap.size < W2.heap.size := by rw [← hW2]; simp
  obtain ⟨pb, hpb⟩ : ∃ pb, w2.heap.size = pb := ⟨_, rfl⟩
  have HB2 := Lib.hid (And.intro (H1.out.1.below (b2.trans (hk2.mono b2.size))) (back_of' H1.out.2 (b2.trans (hk2.mono b2.size))))
  clear b2 hk2
  rw [hpb] at q1 q2 ql
  have hA3 := (Below.refl W2.heap.size W2).alloc (Nat.le_refl _) (.cells #[.bool false, .slice none 0 0] 90)
  have HSet := Lib.hid (setUint_any W2.heap.size 0 m _ (ISlot.new W2 90) hm)
  have HA3 := Lib.hid hA3
  have hzl := hA3.size
  have q2' := (hA3.cell (p := ⟨pb, 2, none⟩) ql).trans q2
  clear hA3
  go_wp2_with fail
  refine HSet.out.mono ?_
  rintro e w4 ⟨rfl, n4, s4, b4⟩
  have q4 := (b4.cell (p := ⟨pb, 2, none⟩) ql).trans q2'
  have hb24 : Below W2.heap.size W2 w4 := HA3.out.trans b4
  have H4 := Lib.hid (And.intro hb24 (And.intro n4 s4))
  clear q2' q2 q1 n4 s4 b4 hb24 HSet
  go_wp2_with fail
  have hX := (Below.refl w4.heap.size w4).alloc (Nat.le_refl _) (.cells #[.bool false, .slice none 0 0] 90)
  have HXS := Lib.hid (ISlot.new w4 90)
  have HX := Lib.hid (And.intro (back_of' H4.out.1 hX) hX)
  have hz4 := H4.out.1.size
  clear hX
  go_wp2_with fail
  refine (newInt_any 5 _ (by omega)).mono ?_
  rintro e w5 ⟨p5, rfl, hp5, n5, -, b5⟩
  have hb5 := HX.out.2.trans (b5.mono HX.out.2.size)
  have H5 := Lib.hid (And.intro hb5 (And.intro n5 (HXS.out.below b5 (Nat.le_refl _))))
  have hp5' : w4.heap.size < p5 := by simp at hp5; omega
  clear n5 b5 hb5 hp5
  go_wp2_with fail
  refine (newInt_any k _ (by omega)).mono ?_
  rintro e w6 ⟨p6, rfl, hp6, n6, -, b6⟩
  have hb6 := back_of' H5.out.1 b6
  have H6 := Lib.hid (And.intro hb6 (And.intro (H5.out.2.1.below b6 (Nat.le_refl _)) (And.intro n6 (H5.out.2.2.below b6 (Nat.le_refl _)))))
  have hp6' : w4.heap.size < p6 := by have := H5.out.2.1.1; omega
  clear n6 b6 hb6 hp6
  go_wp2_with fail
  refine (expL w4.heap.size 0 p5 0 5 p6 0 k 39 w6 H6.out.2.2.2 (H6.out.2.1.any (by omega)) H6.out.2.2.1 (by omega) (five_lt hk).1 (by omega) (by omega) (by omega) (by omega)).mono ?_
  rintro e w7 ⟨rfl, n7, -, b7⟩
  have hb7 := H6.out.1.trans b7
  have H7 := Lib.hid (And.intro (H4.out.1.trans (hb7.mono hz4)) (And.intro n7 (And.intro ((H4.out.2.1.any (Nat.le_refl 1)).below hb7 (Nat.le_refl _)) (H4.out.2.2.below hb7 (Nat.le_refl _)))))
  have hzz : w4.heap.size ≠ W2.heap.size := by have := H4.out.2.1.1; omega
  clear n7 b7 hb7
  go_wp2_with fail
  refine (mul_selfL W2.heap.size 0 w4.heap.size 0 m (5 ^ k) 1 39 w7 H7.out.2.2.2 H7.out.2.2.1 H7.out.2.1 hzz (by omega) (by omega)).mono ?_
  rintro e w8 ⟨rfl, n8, -, b8⟩
  rw [HTT.out] at n8
  have hb8 := H7.out.1.trans b8
  have H8 := Lib.hid (And.intro hb8 n8)
  clear n8 b8 hb8
  go_wp2_with fail
  refine (stringL _ 0 T _ (⟨l.toArray⟩ : ByteArray) w8 H8.out.2 (by omega) (by omega) (by have := HR.out; omega) (by rw [HDL.out])).mono ?_
  rintro e w9 ⟨rfl, b9⟩
  have hb9 := back_of' H8.out.1 b9
  have H9 := Lib.hid (And.intro (HB2.out.1.below hb9) (back_of' HB2.out.2 hb9))
  clear b9 hb9
  have hlen := HL.out
  by_cases hc : l.length ≤ k
  · go_wp2_with fail
    rw [show (k : Int) + 1 - (l.length : Int) = ((k + 1 - l.length : Nat) : Int) by omega]
    refine (Tryz.strings_Repeat ⟨#[48]⟩ (k + 1 - l.length) w9 (by omega) (by show 1 * _ ≤ _; omega)).mono ?_
    rintro e w10 ⟨rfl, b10⟩
    have H10 := Lib.hid (And.intro (H9.out.1.below b10) (back_of' H9.out.2 b10))
    clear b10
    obtain ⟨R, hR⟩ : ∃ R, (⟨(Lib.repeatL (⟨#[48]⟩ : ByteArray).data.toList (k + 1 - l.length)).toArray⟩ : ByteArray) = R := ⟨_, rfl⟩
    have hRl : R.data.toList = List.replicate (k + 1 - l.length) 48 := by rw [← hR]; exact repeat_one 48 _
    have hRs : R.size = k + 1 - l.length := by rw [← size_list, hRl, List.length_replicate]
    rw [hR]
    clear hR
    have hSd : (R ++ ⟨l.toArray⟩ : ByteArray).data.toList = padD (k + 1) l := by rw [ByteArray.data_append, Array.toList_append, hRl]; rfl
    have hSs : (R ++ ⟨l.toArray⟩ : ByteArray).size = k + 1 := by rw [← size_list, hSd, padD_len]; omega
    go_wp2_with fail
    refine (wstring w.heap.size w.heap.size sg _ w10 H10.out.1 (by omega) (by rw [ByteArray.size_extract, hSs]; omega) H10.out.2.size).mono ?_
    rintro e w11 ⟨rfl, d11, b11⟩
    have H11 := Lib.hid (And.intro d11 (H10.out.2.trans b11))
    clear d11 b11
    go_wp2_with fail
    refine (wbyte w.heap.size w.heap.size _ 46 w11 H11.out.1 (by simp; omega) H11.out.2.size 46 rfl).mono ?_
    rintro e w12 ⟨rfl, d12, b12⟩
    have H12 := Lib.hid (And.intro d12 (H11.out.2.trans b12))
    clear d12 b12
    go_wp2_with fail
    refine (wstring w.heap.size w.heap.size _ _ w12 H12.out.1 (by simp; omega) (by rw [ByteArray.size_extract, hSs]; omega) H12.out.2.size).mono ?_
    rintro e w13 ⟨rfl, d13, b13⟩
    have H13 := Lib.hid (And.intro d13 (H12.out.2.trans b13))
    clear d13 b13
    go_wp2_with fail
    refine (bstring w.heap.size w.heap.size _ w13 H13.out.1 H13.out.2.size).mono ?_
    rintro e w14 ⟨rfl, b14⟩
    have HF := Lib.hid (H13.out.2.trans b14)
    clear b14
    go_wp2_with fail
    go_ret
    refine ⟨?_, HF.out⟩
    refine congrArg (fun z => Ending.returned (Value.string ⟨z⟩)) ?_
    rw [pntL_short hc, show k + 1 - l.length = k - l.length + 1 by omega, show k + 1 - (k - l.length + 1) - (1 - (k - l.length + 1)) = l.length by omega, show 1 - (k - l.length + 1) = 0 by omega, show min 1 (k - l.length + 1) = 1 by omega, Nat.add_sub_cancel]
    simp
  · go_wp2_with fail
    refine (wstring w.heap.size w.heap.size sg _ w9 H9.out.1 (by omega) (by simp [ByteArray.size_extract]; simp [ByteArray.size]; omega) H9.out.2.size).mono ?_
    rintro e w10 ⟨rfl, d10, b10⟩
    have H10 := Lib.hid (And.intro d10 (H9.out.2.trans b10))
    clear d10 b10
    go_wp2_with fail
    refine (wbyte w.heap.size w.heap.size _ 46 w10 H10.out.1 (by simp; omega) H10.out.2.size 46 rfl).mono ?_
    rintro e w11 ⟨rfl, d11, b11⟩
    have H11 := Lib.hid (And.intro d11 (H10.out.2.trans b11))
    clear d11 b11
    go_wp2_with fail
    refine (wstring w.heap.size w.heap.size _ _ w11 H11.out.1 (by simp; omega) (by simp [ByteArray.size_extract]; simp [ByteArray.size]; omega) H11.out.2.size).mono ?_
    rintro e w12 ⟨rfl, d12, b12⟩
    have H12 := Lib.hid (And.intro d12 (H11.out.2.trans b12))
    clear d12 b12
    go_wp2_with fail
    refine (bstring w.heap.size w.heap.size _ w12 H12.out.1 H12.out.2.size).mono ?_
    rintro e w13 ⟨rfl, b13⟩
    have HF := Lib.hid (H12.out.2.trans b13)
    clear b13
    go_wp2_with fail
    go_ret
    refine ⟨?_, HF.out⟩
    refine congrArg (fun z => Ending.returned (Value.string ⟨z⟩)) ?_
    unfold pntL
    rw [padD_le (by omega)]
    rw [List.take_of_length_le (l := List.drop _ l) (by rw [List.length_drop]; exact Nat.le_refl _)]
end Go.Proofs.YtgccfdfbnhldbaaGreatDoor.Nb

namespace Go.Proofs.YtgccfdfbnhldbaaGreatDoor.Nb
open Go Nx

theorem lt_tenN (n : Nat) : n < 10 ^ n := Nat.lt_pow_self (by omega)
theorem digN_dig (T : Nat) : IsDig (digN T) ∧ decN (digN T) = T ∧ digN T ≠ [] := by
  have h1 := revDig_dig T T (lt_tenN T)
  have h2 := (digN_len (w := T + 1) (r := T) (Nat.lt_of_lt_of_le (lt_tenN T) (Nat.pow_le_pow_right (by omega) (by omega))) (by omega)).2
  refine ⟨?_, ?_, fun h => by rw [h] at h2; simp at h2⟩
  · unfold digN
    split
    · intro x hx
      simp at hx
      subst hx
      decide
    · exact h1.1
  · unfold digN
    split
    · rename_i h; subst h; rfl
    · exact h1.2
theorem pad_dig {n : Nat} {l : List UInt8} (h : IsDig l) : IsDig (padD n l) ∧ decN (padD n l) = decN l := by
  unfold padD
  refine ⟨IsDig.append (fun x hx => ?_) h, ?_⟩
  · obtain ⟨-, rfl⟩ := List.mem_replicate.1 hx
    decide
  · induction n - l.length with
    | zero => rfl
    | succ z ih => rw [List.replicate_succ, List.cons_append, ← ih]; rfl
/-- Full's text by its parts -/
def fuT (neg : Bool) (T k : Nat) : DTxt := if k = 0 then ⟨neg, digN T, none, none⟩ else ⟨neg, (padD (k + 1) (digN T)).take ((padD (k + 1) (digN T)).length - k), some ((padD (k + 1) (digN T)).drop ((padD (k + 1) (digN T)).length - k)), none⟩
def fuD (T k : Nat) : List UInt8 := if k = 0 then digN T else pntD T k
theorem fuT_list (neg : Bool) (T k : Nat) : (fuT neg T k).list = sgn neg ++ fuD T k := by
  unfold fuT fuD DTxt.list pntD pntL
  split
  · simp [fracT, expT]
  · simp [fracT, expT]
theorem fuT_neg (neg : Bool) (T k : Nat) : (fuT neg T k).neg = neg := by unfold fuT; split <;> rfl
theorem fuT_all (neg : Bool) (T k : Nat) : (fuT neg T k).Ok ∧ decN (fuT neg T k).digs = T ∧ (fuT neg T k).exp = -(k : Int) := by
  obtain ⟨h1, h2, h3⟩ := digN_dig T
  unfold fuT DTxt.digs DTxt.exp
  split
  · rename_i h
    subst h
    refine ⟨⟨h1, h3, fun l hl => (by cases hl), fun b l hl => (by cases hl)⟩, ?_, by rfl⟩
    simpa using h2
  · rename_i h
    obtain ⟨g1, g2⟩ := pad_dig (n := k + 1) h1
    have hl := padD_len (k + 1) (digN T)
    obtain ⟨P, hP⟩ : ∃ P, padD (k + 1) (digN T) = P := ⟨_, rfl⟩
    rw [hP] at g1 g2 hl ⊢
    refine ⟨⟨fun x hx => g1 x (List.take_subset _ _ hx), fun e => ?_, fun l hl => ?_, fun b l hl => (by cases hl)⟩, ?_, ?_⟩
    · have := congrArg List.length e
      have h4 : min (P.length - k) P.length = 0 := by rw [← List.length_take]; exact this
      omega
    · injection hl with hl
      subst hl
      refine ⟨fun x hx => g1 x (List.drop_subset _ _ hx), fun e => ?_⟩
      have := congrArg List.length e
      simp at this
      omega
    · show decN (P.take _ ++ P.drop _) = T
      rw [List.take_append_drop, g2, h2]
    · show -((P.drop (P.length - k)).length : Int) + 0 = -(k : Int)
      rw [List.length_drop]
      omega
theorem full_txt {X t T N k : Nat} (hX : X < 9218868437227405312) (h0 : 0 < X) (h : FinN X t) (hN : (oddX X).toNat = N) (hk : (-oddX X).toNat = k) (hT : oddM X * 2 ^ N * 5 ^ k = T) (neg : Bool) :
    (fuT neg T k).Ok ∧ ¬ (fuT neg T k).low ∧ ¬ (fuT neg T k).high ∧ Hits (decN (fuT neg T k).digs) (fuT neg T k).exp X := by
  obtain ⟨h1, h2, h3⟩ := fuT_all neg T k
  have hq : 0 < 2 ^ k := Nat.two_pow_pos _
  have hv : oddM X * 2 ^ N * 2 ^ 1074 = amt64 X * 2 ^ k := parts_val (r := 2 ^ N) (s := 2 ^ k) hX h (by rw [hN]) (by rw [hk]) rfl
  have hin := val_in hX h0 hq hv
  have e10 : (10 : Nat) ^ k = 5 ^ k * 2 ^ k := by rw [← Nat.mul_pow]
  have ek : (- -(k : Int)).toNat = k := by omega
  have ek' : (-(k : Int)).toNat = 0 := by omega
  have hm := mid_of (t := fuT neg T k) (p := oddM X * 2 ^ N) (q := 2 ^ k) h1 (by
    rw [h2, h3, ek, ek', Nat.pow_zero, Nat.mul_one, e10, ← hT, ← Nat.mul_assoc]) hin.2.1 hin.2.2 hq
  refine ⟨h1, hm.1, hm.2, ?_⟩
  rw [h2, h3]
  unfold Hits
  rw [ek, ek', Nat.pow_zero, Nat.mul_one]
  refine rnd_move (Nat.two_pow_pos _) (Nat.pow_pos (by omega)) ?_ (rnd_self X)
  rw [e10, ← hT, Nat.mul_comm (5 ^ k), ← Nat.mul_assoc, ← hv]
  exact Nat.mul_right_comm _ _ _
end Go.Proofs.YtgccfdfbnhldbaaGreatDoor.Nb

namespace Go.Proofs.YtgccfdfbnhldbaaGreatDoor.Nb
open Go Go.RowKit Nx

set_option maxRecDepth 8000 in
theorem Full_spec (f : Nat) (w : World) (hf : f < 18446744073709551616) (h : specL f ≠ []) : Calls Tryz.prog 10 #[.float .f64 f] w fun e w' => e = .returned (.string ⟨(specL f).toArray⟩) ∧ Below w.heap.size w w' := by
  have HS := Lib.hid (special_any f w hf)
  rw [decide_eq_true h] at HS
  obtain ⟨S, hS⟩ : ∃ S : ByteArray, (⟨(specL f).toArray⟩ : ByteArray) = S := ⟨_, rfl⟩
  rw [hS] at HS ⊢
  clear h hS hf
  go_enter Tryz.func10, Tryz.ntmps10
  go_wp2_with fail
  refine HS.out.mono ?_
  rintro e w1 ⟨rfl, hw⟩
  obtain rfl := hw.symm
  go_wp2_with fail
  go_ret
  exact ⟨rfl, Below.refl _ _⟩
theorem zero_read (f : Nat) (hf : f < 18446744073709551616) (h0 : f % 9223372036854775808 = 0) (W : World) : Calls Tryz.prog 8 #[.string ⟨(sgL f ++ [48]).toArray⟩] W fun e' W' => e' = .returned (.tuple #[.float .f64 f, .int .i64 0]) ∧ Below W.heap.size W W' := by
  have hsg : sgL f = sgn (decide (9223372036854775808 ≤ f)) := by unfold sgL sgn; by_cases c : 9223372036854775808 ≤ f <;> simp [c]
  have hok : (⟨decide (9223372036854775808 ≤ f), [48], none, none⟩ : DTxt).Ok := ⟨fun x hx => by simp at hx; subst hx; decide, by simp, fun l hl => (by cases hl), fun b l hl => (by cases hl)⟩
  refine (parse_any _ ⟨decide (9223372036854775808 ≤ f), [48], none, none⟩ W ?_ hok ?_).mono ?_
  · rw [hsg]; unfold DTxt.list; simp [fracT, expT]
  · unfold sgL; split <;> simp [ByteArray.size]
  · rintro e' W' ⟨g, c, rfl, hs, hb'⟩
    refine ⟨?_, hb'⟩
    have hlow : (⟨decide (9223372036854775808 ≤ f), [48], none, none⟩ : DTxt).low := .inl rfl
    rcases hs with ⟨-, -, h1 | ⟨Y, hY, hi⟩⟩ | ⟨rfl, Y, hY, -, hg⟩
    · exact absurd hlow h1.1
    · rcases hY with ⟨-, rfl⟩ | ⟨h1, -⟩
      · omega
      · exact absurd hlow h1
    · rcases hY with ⟨-, rfl⟩ | ⟨h1, -⟩
      · have : g = f := by
          rw [hg]
          by_cases c : 9223372036854775808 ≤ f
          · simp [c]; omega
          · simp [c]; omega
        rw [this]
      · exact absurd hlow h1
theorem fuD_len {m N k : Nat} (hm : m < 18446744073709551616) (hN : N ≤ 1024) (hk : k ≤ 1074) (hz : N = 0 ∨ k = 0) : (fuD (m * 2 ^ N * 5 ^ k) k).length ≤ 1990 := by
  unfold fuD
  split
  · rename_i h
    subst h
    rw [Nat.pow_zero, Nat.mul_one]
    have := (digN_len (up_lt hm hN) (by omega)).1
    omega
  · rename_i h
    have h0 : N = 0 := by omega
    subst h0
    rw [Nat.pow_zero, Nat.mul_one]
    have h1 := (digN_len (down_lt hm hk) (by omega)).1
    have h2 := padD_len (k + 1) (digN (m * 5 ^ k))
    unfold pntD pntL
    rw [List.length_append, List.length_cons, List.length_take, List.length_drop, h2]
    omega
/-- Full's text, read -/
theorem full_back (f : Nat) (w : World) (hf : f < 18446744073709551616) (hT : Tab64 w) : Calls Tryz.prog 10 #[.float .f64 f] w fun e w' => ∃ s : ByteArray, e = .returned (.string s) ∧ Below w.heap.size w w' ∧ ∀ W, Calls Tryz.prog 8 #[.string s] W fun e' W' => e' = .returned (.tuple #[.float .f64 (cnN f), .int .i64 0]) ∧ Below W.heap.size W W' := by
  by_cases h : specL f ≠ []
  · refine (Full_spec f w hf h).mono ?_
    rintro e w' ⟨rfl, hb⟩
    exact ⟨_, rfl, hb, fun W => parse_spec f _ W rfl h⟩
  · have hfin := (spec_fin hf).1 (by simpa using h)
    have hcn : cnN f = f := by unfold cnN nanN; rw [if_neg (by simp; omega)]
    have hsg : sgL f = sgn (decide (9223372036854775808 ≤ f)) := by unfold sgL sgn; by_cases c : 9223372036854775808 ≤ f <;> simp [c]
    have hsgl : (sgL f).length ≤ 1 := by unfold sgL; split <;> simp
    have hsp : specL f = [] := (spec_fin hf).2 hfin
    have HS := Lib.hid (fun W => special_any f W hf)
    rw [hsp, show decide (([] : List UInt8) ≠ []) = false by simp] at HS
    have HBg := Lib.hid (fun W => begun_any f W hf)
    rw [hcn]
    by_cases h0 : f % 9223372036854775808 = 0
    · refine (Full_up f _ 0 0 (sgL f) w (by omega) (by omega) hsgl HS HBg (Lib.hid (fun W (hW : Tab64 W) => Parts_zero f W hW hf h0)) hT).mono ?_
      rintro e w' ⟨rfl, hb⟩
      exact ⟨_, rfl, hb, fun W => zero_read f hf h0 W⟩
    · obtain ⟨X, hfX⟩ : ∃ X, f % 9223372036854775808 = X := ⟨_, rfl⟩
      rw [hfX] at hfin h0
      obtain ⟨t, ht⟩ := finN (f := f) hf (by omega) (by omega)
      obtain ⟨tX, htX⟩ := finN (f := X) (by omega) (by omega) (by omega)
      have hoM : oddM f = oddM X := by unfold oddM bigM; rw [show f / 4503599627370496 % 2048 = X / 4503599627370496 % 2048 by omega, show f % 4503599627370496 = X % 4503599627370496 by omega]
      have hoX : oddX f = oddX X := by unfold oddX bigX bigM; rw [show f / 4503599627370496 % 2048 = X / 4503599627370496 % 2048 by omega, show f % 4503599627370496 = X % 4503599627370496 by omega]
      have hm : oddM X < 18446744073709551616 := by have := htX.up; omega
      have hx0 := htX.x0
      have hx1 := htX.x1
      obtain ⟨N, hN⟩ : ∃ N, (oddX X).toNat = N := ⟨_, rfl⟩
      obtain ⟨k, hk⟩ : ∃ k, (-oddX X).toNat = k := ⟨_, rfl⟩
      have HPt := fun W (hW : Tab64 W) => Parts_any f t W hW ht
      rw [hoM, hoX] at HPt
      have hgo : Calls Tryz.prog 10 #[.float .f64 f] w fun e w' => e = .returned (.string ⟨(sgL f ++ fuD (oddM X * 2 ^ N * 5 ^ k) k).toArray⟩) ∧ Below w.heap.size w w' := by
        by_cases hk0 : k = 0
        · subst hk0
          have hz : oddX X = (N : Int) := by omega
          rw [hz] at HPt
          rw [Nat.pow_zero, Nat.mul_one]
          exact Full_up f _ (oddM X) N (sgL f) w hm (by omega) hsgl HS HBg (Lib.hid HPt) hT
        · obtain rfl : N = 0 := by omega
          have hz : oddX X = -(k : Int) := by omega
          rw [hz] at HPt
          rw [Nat.pow_zero, Nat.mul_one]
          unfold fuD
          rw [if_neg hk0]
          exact Full_down f _ (oddM X) k (sgL f) w hm (Nat.pos_of_ne_zero hk0) (by omega) hsgl HS HBg (Lib.hid HPt) hT
      refine hgo.mono ?_
      rintro e w' ⟨rfl, hb⟩
      refine ⟨_, rfl, hb, fun W => ?_⟩
      obtain ⟨hok, hl, hh, hr⟩ := full_txt hfin (by omega) htX hN hk rfl (decide (9223372036854775808 ≤ f))
      have hlen := fuD_len (m := oddM X) (N := N) (k := k) hm (by omega) (by omega) (by omega)
      obtain ⟨T, hTT⟩ : ∃ T, oddM X * 2 ^ N * 5 ^ k = T := ⟨_, rfl⟩
      rw [hTT] at hok hl hh hr hlen ⊢
      refine (parse_any _ (fuT (decide (9223372036854775808 ≤ f)) T k) W ?_ hok ?_).mono ?_
      · rw [hsg, fuT_list]
      · show (sgL f ++ fuD T k).toArray.size ≤ 2000
        simp
        omega
      · rintro e' W' ⟨g, c, rfl, hsay, hb'⟩
        obtain ⟨rfl, hg⟩ := says_of hl hh hfin hr hsay
        refine ⟨?_, hb'⟩
        have : g = f := by
          rw [hg, fuT_neg]
          by_cases c : 9223372036854775808 ≤ f
          · simp [c]; omega
          · simp [c]; omega
        rw [this]
end Go.Proofs.YtgccfdfbnhldbaaGreatDoor.Nb

namespace Go.Proofs.YtgccfdfbnhldbaaGreatDoor.Nb
open Go Go.RowKit Nx

theorem dims_law {k R : Nat} (hk : k ≤ 144) : ∃ C K : Nat, min (wrap64 ((k : Int) / (R : Int))) 12 = (C : Int) ∧ wrap64 ((R : Int) * (C : Int)) = (K : Int) ∧ K ≤ k ∧ C ≤ 12 ∧ R * C = K := by
  obtain ⟨q, hq⟩ : ∃ q : Nat, k / R = q := ⟨_, rfl⟩
  have h2 : (k : Int) / (R : Int) = (q : Int) := by rw [← hq, Int.natCast_ediv]
  have h3 : q ≤ k := by rw [← hq]; exact Nat.div_le_self k R
  have h4 : R * q ≤ k := by rw [← hq]; exact Nat.mul_div_le k R
  obtain ⟨C, hC⟩ : ∃ C : Nat, min q 12 = C := ⟨_, rfl⟩
  have h5 : C ≤ q := by omega
  have h6 : R * C ≤ k := Nat.le_trans (Nat.mul_le_mul_left R h5) h4
  refine ⟨C, R * C, ?_, ?_, h6, by omega, rfl⟩
  · rw [h2]
    unfold wrap64
    omega
  · rw [← Int.natCast_mul]
    generalize R * C = K at h6
    unfold wrap64
    omega
theorem fl_take {w : World} {A : Option Addr} {n K : Nat} {bs : List Nat} (h : FlAt w A n bs) (hK : K ≤ n) : FlAt w A K (bs.take K) := by
  refine ⟨by rw [List.length_take]; have := h.1; omega, ?_⟩
  rcases h.2 with ⟨h1, h2⟩ | ⟨b, off, h1, h2, h3⟩
  · exact .inl ⟨h1, by omega⟩
  · refine .inr ⟨b, off, h1, h2, fun i hi => ?_⟩
    rw [h3 i (by omega), List.getD_eq_getElem?_getD, List.getD_eq_getElem?_getD, List.getElem?_take_of_lt hi]
theorem take_data {bs : List Nat} {K : Nat} (h : ∀ x ∈ bs, x < 18446744073709551616) (hK : K ≤ bs.length) : (∀ x ∈ bs.take K, x < 18446744073709551616) ∧ (bs.take K).length = K :=
  ⟨fun x hx => h x (List.mem_of_mem_take hx), by rw [List.length_take]; omega⟩
theorem own_cap {w : World} {B n : Nat} {v : Value} {bs : List Nat} (h : w.ownsRow B 25 1 v n (bs.map fun b => .float .f64 b)) (hn : bs.length = n) : ∃ A c, v = .slice A n c ∧ FlAt w A n bs ∧ n ≤ c := by
  obtain ⟨A, c, rfl, h1, -⟩ := own_fl h hn
  refine ⟨A, c, rfl, h1, ?_⟩
  rcases h.2 with ⟨h2, h3⟩ | ⟨g, cap, cur, h2, -, -, h4, -⟩
  · omega
  · injection h2 with _ _ h5
    omega
set_option maxRecDepth 8000 in
set_option maxHeartbeats 4000000 in
theorem back_walk (f y n c : Nat) (A : Option Addr) (ts : List Int) (r m : Int) (w : World) (hT : Tab64 w) (hP : TabP w) (hm : w.cell? ⟨1, 0, none⟩ = some (.int .i64 m)) (h1w : 1 < w.heap.size) (hf : f < 18446744073709551616) (hy : y < 4294967296) (hn : ts.length = n) (hnc : n ≤ c) (hu : ∀ x ∈ ts, 0 ≤ x ∧ x < 18446744073709551616)
    (hc : ∀ i, i < n → ∃ b off, A = some ⟨b, off, none⟩ ∧ b < w.heap.size ∧ w.cell? ⟨b, off + i, none⟩ = some (.int .u64 (ts.getD i 0))) :
    Calls Tryz.prog 3 #[.int .u64 (f : Int), .int .u32 (y : Int), .slice A n c, .int .i64 r] w fun e w' => e = .returned (.bool true) ∧ Below w.heap.size w w' := by
  have hfb := run_frombits (f : Int)
  rw [Int.toNat_natCast] at hfb
  have hfb32 := run_frombits32 (y : Int)
  rw [Int.toNat_natCast] at hfb32
  have HT := Lib.hid (And.intro hT hP)
  have HF := Lib.hid (And.intro hf hy)
  have HM := Lib.hid (And.intro hm h1w)
  have HL := Lib.hid (And.intro hn (And.intro hnc (And.intro hu hc)))
  clear hT hP hf hy hm h1w hn hnc hu hc
  go_enter Tryz.func3, Tryz.ntmps3
  go_wp2_with fail
  refine (hex_back f w HF.out.1 HT.out.1 HT.out.2).mono ?_
  rintro e w1 ⟨s1, rfl, b1, hp1⟩
  have H1 := Lib.hid b1
  have HP1 := Lib.hid hp1
  clear b1 hp1
  go_wp2_with fail
  refine (HP1.out w1 (HT.out.1.below H1.out) (HT.out.2.below H1.out HT.out.2.2)).mono ?_
  rintro e w2 ⟨rfl, b2⟩
  have H2 := Lib.hid (back_of' H1.out b2)
  clear b2 H1 HP1
  go_wp2_with fail
  refine (short_back f w2 HF.out.1 (HT.out.1.below H2.out) (HT.out.2.below H2.out HT.out.2.2)).mono ?_
  rintro e w3 ⟨s3, rfl, b3, hp3⟩
  have H3 := Lib.hid (back_of' H2.out b3)
  have HP3 := Lib.hid hp3
  clear b3 hp3 H2
  go_wp2_with fail
  refine (HP3.out w3).mono ?_
  rintro e w4 ⟨rfl, b4⟩
  have H4 := Lib.hid (back_of' H3.out b4)
  clear b4 H3 HP3
  go_wp2_with fail
  refine (full_back f w4 HF.out.1 (HT.out.1.below H4.out)).mono ?_
  rintro e w5 ⟨s5, rfl, b5, hp5⟩
  have H5 := Lib.hid (back_of' H4.out b5)
  have HP5 := Lib.hid hp5
  clear b5 hp5 H4
  go_wp2_with fail
  refine (HP5.out w5).mono ?_
  rintro e w6 ⟨rfl, b6⟩
  have H6 := Lib.hid (back_of' H5.out b6)
  clear b6 H5 HP5
  go_wp2_with fail
  refine (short32_back y w6 HF.out.2 (HT.out.1.below H6.out) (HT.out.2.below H6.out HT.out.2.2)).mono ?_
  rintro e w7 ⟨s7, rfl, b7, hp7⟩
  have H7 := Lib.hid (back_of' H6.out b7)
  have HP7 := Lib.hid hp7
  clear b7 hp7 H6
  go_wp2_with fail
  refine (HP7.out w7).mono ?_
  rintro e w8 ⟨rfl, b8⟩
  have H8 := Lib.hid (back_of' H7.out b8)
  clear b8 H7 HP7
  go_wp2_with fail
  refine (same_any f w8 HF.out.1).mono ?_
  rintro e w9 ⟨rfl, hw⟩
  obtain rfl := hw.symm
  go_wp2_with fail
  refine (same_any f w8 HF.out.1).mono ?_
  rintro e w9 ⟨rfl, hw⟩
  obtain rfl := hw.symm
  go_wp2_with fail
  refine (same_any f w8 HF.out.1).mono ?_
  rintro e w9 ⟨rfl, hw⟩
  obtain rfl := hw.symm
  go_wp2_with fail
  refine (same32_any y w8).mono ?_
  rintro e w9 ⟨rfl, hw⟩
  obtain rfl := hw.symm
  go_wp2_with fail
  refine (awake_all w8 (HT.out.1.below H8.out) (HT.out.2.below H8.out HT.out.2.2)).mono ?_
  rintro e w9 ⟨rfl, b9⟩
  have H9 := Lib.hid (back_of' H8.out b9)
  clear b9 H8
  obtain ⟨k, hk⟩ : ∃ k, min n 144 = k := ⟨_, rfl⟩
  go_upto_if 98 with fail
  go_cut [2] (fun v wx => v = .slice A k c ∧ w9 = wx)
  case first =>
    by_cases h : 144 < n
    · have h1 : (144 : Int) < (n : Int) := by omega
      have h2 : 144 ≤ c := by have := HL.out.2.1; omega
      obtain rfl : k = 144 := by omega
      have h3 : ¬ c = 0 := by omega
      clear hk
      go_wp2_with fail
      go_meet
      exact ⟨rfl, rfl⟩
    · have h1 : ¬ (144 : Int) < (n : Int) := by omega
      obtain rfl : k = n := by omega
      clear hk
      go_wp2_with fail
      go_meet
      exact ⟨rfl, rfl⟩
  case rest =>
    obtain ⟨rfl, hw⟩ := hcut
    obtain rfl := hw.symm
    have hk1 : k ≤ n ∧ k ≤ 144 := by omega
    have hlen : (ts.take k).length = k := by rw [List.length_take]; have := HL.out.1; omega
    have hcel : ∀ i, i < k → ∃ b off, A = some ⟨b, off, none⟩ ∧ b < wc.heap.size ∧ wc.cell? ⟨b, off + i, none⟩ = some (.int .u64 ((ts.take k).getD i 0)) := fun i hi => by
      obtain ⟨b, off, h1, h2, h3⟩ := HL.out.2.2.2 i (by omega)
      refine ⟨b, off, h1, Nat.lt_of_lt_of_le h2 H9.out.size, ?_⟩
      rw [H9.out.cell (p := ⟨b, off + i, none⟩) h2, h3]
      rw [List.getD_eq_getElem?_getD, List.getD_eq_getElem?_getD, List.getElem?_take_of_lt hi]
    have HO := Lib.hid (of64_fl A k c (ts.take k) wc hlen hcel (by omega))
    have hbs : ∀ x ∈ (ts.take k).map Int.toNat, x < 18446744073709551616 := by
      intro x hx
      obtain ⟨z, hz, rfl⟩ := List.mem_map.1 hx
      have := HL.out.2.2.1 z (List.mem_of_mem_take hz)
      omega
    have hl : ((ts.take k).map Int.toNat).length = k := by rw [List.length_map, hlen]
    obtain ⟨bs, hb⟩ : ∃ bs, (ts.take k).map Int.toNat = bs := ⟨_, rfl⟩
    rw [hb] at hbs hl HO
    have HX := Lib.hid (And.intro hbs (And.intro hl hk1.2))
    clear hbs hl hb hcel hlen hk1 hk HL HF hfb hfb32
    go_wp2_with fail
    refine HO.out.mono ?_
    rintro e w10 ⟨⟨v, rfl, hr⟩, b10⟩
    obtain ⟨A1, c1, rfl, hfl, hkc⟩ := own_cap hr HX.out.2.1
    have H10 := Lib.hid (And.intro hfl (And.intro (back_of' H9.out b10) hkc))
    clear hr hfl b10 HO H9 hkc
    have hS : ∃ S : ByteArray, S = ⟨(listL [] bs).toArray⟩ := ⟨_, rfl⟩
    obtain ⟨S, hS⟩ := hS
    have HLi := Lib.hid (list_any A1 k c1 bs w10 (HT.out.1.below H10.out.2.1) (HT.out.2.below H10.out.2.1 HT.out.2.2) H10.out.1 HX.out.1 (by have := HX.out.2.2; omega))
    have hSz : S.size < 4294967281 := by
      have h1 := listL_len bs [] HX.out.1
      have h2 := HX.out.2
      rw [hS]
      show (listL [] bs).toArray.size < _
      simp only [List.size_toArray, List.length_nil] at h1 ⊢
      omega
    have HPL := Lib.hid (fun (W : World) (hW : Below w.heap.size w W) => ParseList_any bs S m W (HT.out.1.below hW) (HT.out.2.below hW HT.out.2.2) ((hW.cell (p := ⟨1, 0, none⟩) HM.out.2).trans HM.out.1) hS hSz (by have := HX.out.2; omega) HX.out.1)
    rw [← hS] at HLi
    clear hS hSz
    go_wp2_with fail
    refine HLi.out.mono ?_
    rintro e w11 ⟨rfl, b11⟩
    have H11 := Lib.hid (And.intro (H10.out.1.below b11) (And.intro (back_of' H10.out.2.1 b11) H10.out.2.2))
    clear b11 HLi H10
    go_wp2_with fail
    refine (HPL.out w11 H11.out.2.1).mono ?_
    rintro e w12 ⟨⟨A2, c2, rfl, hfl2⟩, b12⟩
    have H12 := Lib.hid (And.intro (H11.out.1.below b12) (And.intro (back_of' H11.out.2.1 b12) (And.intro H11.out.2.2 hfl2)))
    have hbk := HX.out.2.1
    clear b12 HPL H11 hfl2
    rw [hbk]
    go_wp2_with fail
    refine (lsame_any A2 A1 k c2 c1 bs w12 (by have := H12.out.2.2.2; rwa [hbk] at this) H12.out.1 HX.out.1 (by have := HX.out.2.2; omega)).mono ?_
    rintro e w13 ⟨rfl, b13⟩
    have H13 := Lib.hid (And.intro (H12.out.1.below b13) (And.intro (back_of' H12.out.2.1 b13) H12.out.2.2.1))
    clear b13 H12
    obtain ⟨R, hR⟩ : ∃ R : Nat, (1 ≤ R ∧ R ≤ 12) ∧ (((r < 1 ∨ 12 < r) ∧ R = 2) ∨ (1 ≤ r ∧ r ≤ 12 ∧ r = (R : Int))) := by
      by_cases h : r < 1 ∨ 12 < r
      · exact ⟨2, by omega, .inl ⟨h, rfl⟩⟩
      · exact ⟨r.toNat, by omega, .inr ⟨by omega, by omega, by omega⟩⟩
    obtain ⟨q, hq⟩ : ∃ q, decide (r < 1 ∨ 12 < r) = q := ⟨_, rfl⟩
    go_upto_region 15 with (fail)
    go_cut [135] (fun v wx => v = .bool q ∧ w13 = wx)
    case first =>
      clear hR
      by_cases h1 : r < 1
      · obtain rfl : q = true := by rw [← hq]; exact decide_eq_true (.inl h1)
        clear hq
        go_wp2_with fail
        go_meet
        exact ⟨rfl, rfl⟩
      · by_cases h2 : 12 < r
        · obtain rfl : q = true := by rw [← hq]; exact decide_eq_true (.inr h2)
          clear hq
          go_wp2_with fail
          go_meet
          exact ⟨rfl, rfl⟩
        · obtain rfl : q = false := by rw [← hq]; exact decide_eq_false (by omega)
          clear hq
          go_wp2_with fail
          go_meet
          exact ⟨rfl, rfl⟩
    case rest =>
      obtain ⟨rfl, hw⟩ := hcut
      obtain rfl := hw
      go_upto_if 135 with fail
      go_cut [3] (fun v wx => v = .int .i64 (R : Int) ∧ w13 = wx)
      case first =>
        cases q
        · have h1 : ¬ (r < 1 ∨ 12 < r) := by simpa using hq
          obtain rfl : r = (R : Int) := by omega
          clear hq hR h1
          go_wp2_with fail
          go_meet
          exact ⟨rfl, rfl⟩
        · have h1 : r < 1 ∨ 12 < r := by simpa using hq
          obtain rfl : R = 2 := by omega
          clear hq hR h1
          go_wp2_with fail
          go_meet
          exact ⟨rfl, rfl⟩
      case rest =>
        obtain ⟨rfl, hw⟩ := hcut
        obtain rfl := hw
        have HR := Lib.hid hR.1
        clear hq hR
        have hk144 := HX.out.2.2
        have hkc := H13.out.2.2
        obtain ⟨C, K, hmin, hmul, hKk, hC12, hRC⟩ := dims_law (k := k) (R := R) hk144
        have hKc : (K : Int) ≤ (c1 : Int) := by have := hKk; omega
        have hR0 : ¬ R = 0 := by have := HR.out.1; omega
        have HK := Lib.hid (And.intro hKk (And.intro hC12 hRC))
        clear hKk hC12 hRC hk144 hkc
        go_wp2_with fail
        have hA := (Below.refl w13.heap.size w13).alloc (Nat.le_refl _) (.cells #[.int .i64 (R : Int), .int .i64 (C : Int), .slice A1 K c1] 47)
        have hG := mat_new w13 (R : Int) (C : Int) (.slice A1 K c1) 47
        have hlt : w13.heap.size < (w13.alloc (.cells #[.int .i64 (R : Int), .int .i64 (C : Int), .slice A1 K c1] 47)).heap.size := by simp
        generalize w13.alloc (.cells #[.int .i64 (R : Int), .int .i64 (C : Int), .slice A1 K c1] 47) = W14 at *
        have hfl := fl_take H13.out.1 HK.out.1
        have hds := take_data (K := K) HX.out.1 (by have := HX.out.2.1; have := HK.out.1; omega)
        generalize bs.take K = ds at hfl hds
        have H14 := Lib.hid (And.intro (hfl.below hA) (And.intro (back_of' H13.out.2.1 hA) (And.intro hG hlt)))
        have HD := Lib.hid hds
        have hOk : OkDim (R : Int) (C : Int) := ⟨by omega, by have := HR.out.2; omega, by omega, by have := HK.out.2.1; omega⟩
        have hRC : (R : Int) * (C : Int) = (K : Int) := by rw [← Int.natCast_mul, HK.out.2.2]
        have HMt := Lib.hid (mat_ok (R : Int) (C : Int) A1 K c1 ds W14 (HT.out.1.below H14.out.2.1) (HT.out.2.below H14.out.2.1 HT.out.2.2) H14.out.1 HD.out.1 hOk hRC)
        obtain ⟨Z, hZ⟩ : ∃ Z : ByteArray, Z = ⟨(listL (shapeL (R : Int) (C : Int)) ds).toArray⟩ := ⟨_, rfl⟩
        rw [← hZ] at HMt
        have hZs : Z.size < 4294967281 := by
          have h1 := listL_len ds (shapeL (R : Int) (C : Int)) HD.out.1
          have h2 := shape_len hOk.r0 hOk.r1 hOk.c0 hOk.c1
          have h3 := HD.out.2
          have h4 := HK.out.1
          have h5 := HX.out.2.2
          rw [hZ]
          show (listL (shapeL (R : Int) (C : Int)) ds).toArray.size < _
          simp only [List.size_toArray]
          omega
        have HPM := Lib.hid (fun (W : World) (hW : Below w.heap.size w W) => ParseMat_join R C ds Z m W (HT.out.1.below hW) (HT.out.2.below hW HT.out.2.2) ((hW.cell (p := ⟨1, 0, none⟩) HM.out.2).trans HM.out.1) (Nat.lt_of_lt_of_le HM.out.2 hW.size) (by rw [hZ]) hZs HR.out.2 HK.out.2.1 (by rw [HD.out.2, HK.out.2.2]) HD.out.1)
        clear hA hG hlt hfl hds hOk hRC hZ hZs H13 hmin hmul hKc
        refine HMt.out.mono ?_
        rintro e w15 ⟨rfl, b15⟩
        have H15 := Lib.hid (And.intro (H14.out.1.below b15) (And.intro (back_of' H14.out.2.1 b15) (And.intro (H14.out.2.2.1.below b15 H14.out.2.2.2) (Nat.lt_of_lt_of_le H14.out.2.2.2 b15.size))))
        clear b15 HMt H14
        go_wp2_with fail
        refine (HPM.out w15 H15.out.2.1).mono ?_
        rintro e w16 ⟨⟨v, rfl, hv⟩, b16⟩
        obtain ⟨A3, c3, rfl, hfl3, -⟩ := own_fl hv (by simp)
        rw [HD.out.2] at hfl3 ⊢
        have hA := (Below.refl w16.heap.size w16).alloc (Nat.le_refl _) (.cells #[.int .i64 (R : Int), .int .i64 (C : Int), .slice A3 K c3] 47)
        have hb17 := b16.trans (hA.mono b16.size)
        have H17 := Lib.hid (And.intro (H15.out.1.below hb17) (And.intro (back_of' H15.out.2.1 hb17) (hfl3.below hA)))
        obtain ⟨m0, m1, m2⟩ := H15.out.2.2.1.below hb17 H15.out.2.2.2
        clear hv b16 hfl3 hA hb17 HPM H15
        go_wp2_with fail
        refine (msame_any (R : Int) (C : Int) A3 A1 K c3 c1 ds _ H17.out.2.2 H17.out.1 HD.out.1 (by have := HK.out.1; have := HX.out.2.2; omega)).mono ?_
        rintro e w18 ⟨rfl, b18⟩
        have H18 := Lib.hid (back_of' H17.out.2.1 b18)
        clear b18 m0 m1 m2 H17
        go_wp2_with fail
        go_ret
        exact ⟨rfl, H18.out⟩
end Go.Proofs.YtgccfdfbnhldbaaGreatDoor.Nb
