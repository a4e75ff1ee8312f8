/- Y29 E4 E5 E6 E7 E8 E11 in one text. -/
import Derived.Test.YtbidlkmagbjllaaGreatDoorP14
import Derived.Test.YtbidlkmagbjllaaGreatDoorP05
import Derived.Test.YtbidlkmagbjllaaGreatDoorP13
import Derived.WalkSmall

namespace Go.Proofs.YtbidlkmagbjllaaGreatDoor.Nb
open Go Go.RowKit

theorem gcd_one (n : Nat) : Nat.gcd 1 n = 1 := by simp

set_option maxRecDepth 8000 in
set_option maxHeartbeats 1000000 in
/-- the head of power: base to the power of k, in new memory -/
theorem power_pos (base k T : Nat) (w : World) (hb0 : 0 < base) (hb : base ≤ 9223372036854775807) (hk : k ≤ 9223372036854775807) (hT : base ^ k = T) (hT1 : T < 18446744073709551616) :
    Calls Tryz.prog 106 #[.int .i64 (base : Int), .int .i64 (k : Int)] w (NewR w false T 1) := by
  have hA := (Below.refl w.heap.size w).alloc (Nat.le_refl _) (.cells #[.bool false, .slice none 0 0] 102)
  have HZ := Lib.hid (ISlot.new w 102)
  have HA := Lib.hid hA
  have HT := Lib.hid (And.intro hT hT1)
  have hw1 : max (k : Int) (-(k : Int)) = (k : Int) := by omega
  have hk0 : ¬ (k : Int) < 0 := by omega
  obtain ⟨W, hW⟩ : ∃ W, w.alloc (.cells #[.bool false, .slice none 0 0] 102) = W := ⟨_, rfl⟩
  have hws : w.heap.size < W.heap.size := by rw [← hW]; simp
  rw [hW] at HZ HA
  clear hA hT hT1
  go_enter Tryz.func106, Tryz.ntmps106
  go_wp2_with fail
  refine (newInt_any base W hb).mono ?_
  rintro e w1 ⟨b1, rfl, hb1, i1, -, c1⟩
  have H1 := Lib.hid (And.intro i1 c1)
  clear i1 c1
  go_wp2_with fail
  refine (newInt_any k w1 hk).mono ?_
  rintro e w2 ⟨b2, rfl, hb2, i2, -, c2⟩
  have H2 := Lib.hid (And.intro (H1.out.1.below c2 (Nat.le_refl _)) (And.intro i2 (back_of' H1.out.2 c2)))
  have hs1 := H1.out.2.size
  clear i2 c2
  go_wp2_with fail
  refine (exp_any w.heap.size 0 b1 0 base b2 0 k w2 (HZ.out.below H2.out.2.2 (Nat.le_refl _)) H2.out.1 H2.out.2.1 hb0 (by rw [HT.out.1]; exact HT.out.2) (by omega) (by omega)).mono ?_
  rintro e w3 ⟨rfl, i3, s3, c3⟩
  rw [HT.out.1] at i3
  have HB3 := Lib.hid ((HA.out.trans (H2.out.2.2.mono HA.out.size)).trans c3)
  have HI := Lib.hid i3
  clear i3 s3 c3 H1 H2 HZ HA
  go_wp2_with fail
  have hA2 := (Below.refl w3.heap.size w3).alloc (Nat.le_refl _) (.cells #[.bool false, .slice none 0 0, .bool false, .slice none 0 0] 104)
  refine (setint_any w3.heap.size w.heap.size 0 T _ (RSlot.new w3 104) (HI.out.below hA2 (Nat.le_refl _)) (Nat.ne_of_lt HI.out.1)).mono ?_
  rintro e w4 ⟨rfl, r4, s4, c4⟩
  have HF := Lib.hid (And.intro HB3.out.size (And.intro r4 (And.intro s4 (back_of' HB3.out (hA2.trans c4)))))
  clear r4 s4 c4 hA2
  go_wp2_with fail
  go_ret
  exact ⟨_, rfl, HF.out⟩

set_option maxRecDepth 8000 in
set_option maxHeartbeats 1000000 in
theorem power_neg (base k T : Nat) (E : Int) (w : World) (hb0 : 0 < base) (hb : base ≤ 9223372036854775807) (hk : k ≤ 9223372036854775807) (hk0 : 0 < k) (hE : E = -(k : Int)) (hT : base ^ k = T) (hT1 : T < 18446744073709551616) :
    Calls Tryz.prog 106 #[.int .i64 (base : Int), .int .i64 E] w (NewR w false 1 T) := by
  have hA := (Below.refl w.heap.size w).alloc (Nat.le_refl _) (.cells #[.bool false, .slice none 0 0] 102)
  have HZ := Lib.hid (ISlot.new w 102)
  have HA := Lib.hid hA
  have HT := Lib.hid (And.intro hT hT1)
  have hT0 : 0 < T := by rw [← hT]; exact Nat.pow_pos hb0
  have hw0 : wrap64 (-E) = (k : Int) := by unfold wrap64; omega
  have hw1 : max E (k : Int) = (k : Int) := by omega
  have hlt : E < 0 := by omega
  obtain ⟨W, hW⟩ : ∃ W, w.alloc (.cells #[.bool false, .slice none 0 0] 102) = W := ⟨_, rfl⟩
  have hws : w.heap.size < W.heap.size := by rw [← hW]; simp
  rw [hW] at HZ HA
  clear hA hT hT1 hE
  go_enter Tryz.func106, Tryz.ntmps106
  go_wp2_with fail
  refine (newInt_any base W hb).mono ?_
  rintro e w1 ⟨b1, rfl, hb1, i1, -, c1⟩
  have H1 := Lib.hid (And.intro i1 c1)
  clear i1 c1
  go_wp2_with fail
  refine (newInt_any k w1 hk).mono ?_
  rintro e w2 ⟨b2, rfl, hb2, i2, -, c2⟩
  have H2 := Lib.hid (And.intro (H1.out.1.below c2 (Nat.le_refl _)) (And.intro i2 (back_of' H1.out.2 c2)))
  have hs1 := H1.out.2.size
  clear i2 c2
  go_wp2_with fail
  refine (exp_any w.heap.size 0 b1 0 base b2 0 k w2 (HZ.out.below H2.out.2.2 (Nat.le_refl _)) H2.out.1 H2.out.2.1 hb0 (by rw [HT.out.1]; exact HT.out.2) (by omega) (by omega)).mono ?_
  rintro e w3 ⟨rfl, i3, s3, c3⟩
  rw [HT.out.1] at i3
  have HB3 := Lib.hid ((HA.out.trans (H2.out.2.2.mono HA.out.size)).trans c3)
  have HI := Lib.hid i3
  clear i3 s3 c3 H1 H2 HZ HA
  go_wp2_with fail
  have hA2 := (Below.refl w3.heap.size w3).alloc (Nat.le_refl _) (.cells #[.bool false, .slice none 0 0, .bool false, .slice none 0 0] 104)
  have HA2 := Lib.hid (And.intro hA2 (And.intro (RSlot.new w3 104) (HI.out.below hA2 (Nat.le_refl _))))
  clear hA2
  refine (newInt_any 1 _ (by omega)).mono ?_
  rintro e w4 ⟨b4, rfl, hb4, i4, -, c4⟩
  have H4 := Lib.hid (And.intro i4 c4)
  clear i4 c4
  go_wp2_with fail
  refine (setfrac_any w3.heap.size b4 0 w.heap.size 0 1 T false w4 (HA2.out.2.1.below H4.out.2 (Nat.le_refl _)) H4.out.1 (HA2.out.2.2.below H4.out.2 (Nat.le_refl _)) (gcd_one T) (by simp) hT0).mono ?_
  rintro e w5 ⟨rfl, r5, s5, c5⟩
  have HF := Lib.hid (And.intro HB3.out.size (And.intro r5 (And.intro s5 (back_of' HB3.out ((HA2.out.1.trans (H4.out.2.mono HA2.out.1.size)).trans c5)))))
  clear r5 s5 c5
  go_wp2_with fail
  go_ret
  exact ⟨_, rfl, HF.out⟩

set_option maxRecDepth 8000 in
theorem ten_pos (k T : Nat) (w : World) (hk : k ≤ 9223372036854775807) (hT : 10 ^ k = T) (hT1 : T < 18446744073709551616) :
    Calls Tryz.prog 51 #[.int .i64 (k : Int)] w (NewR w false T 1) := by
  have HP := Lib.hid (power_pos 10 k T w (by omega) (by omega) hk hT hT1)
  clear hT hT1
  go_enter Tryz.func51, Tryz.ntmps51
  go_wp2_with fail
  refine HP.out.mono ?_
  rintro e w1 ⟨b, rfl, h⟩
  have HF := Lib.hid h
  clear h
  go_wp2_with fail
  go_ret
  exact ⟨b, rfl, HF.out⟩
set_option maxRecDepth 8000 in
theorem ten_neg (k T : Nat) (E : Int) (w : World) (hk : k ≤ 9223372036854775807) (hk0 : 0 < k) (hE : E = -(k : Int)) (hT : 10 ^ k = T) (hT1 : T < 18446744073709551616) :
    Calls Tryz.prog 51 #[.int .i64 E] w (NewR w false 1 T) := by
  have HP := Lib.hid (power_neg 10 k T E w (by omega) (by omega) hk hk0 hE hT hT1)
  clear hT hT1 hE
  go_enter Tryz.func51, Tryz.ntmps51
  go_wp2_with fail
  refine HP.out.mono ?_
  rintro e w1 ⟨b, rfl, h⟩
  have HF := Lib.hid h
  clear h
  go_wp2_with fail
  go_ret
  exact ⟨b, rfl, HF.out⟩
set_option maxRecDepth 8000 in
theorem two_neg (k T : Nat) (E : Int) (w : World) (hk : k ≤ 9223372036854775807) (hk0 : 0 < k) (hE : E = -(k : Int)) (hT : 2 ^ k = T) (hT1 : T < 18446744073709551616) :
    Calls Tryz.prog 90 #[.int .i64 E] w (NewR w false 1 T) := by
  have HP := Lib.hid (power_neg 2 k T E w (by omega) (by omega) hk hk0 hE hT hT1)
  clear hT hT1 hE
  go_enter Tryz.func90, Tryz.ntmps90
  go_wp2_with fail
  refine HP.out.mono ?_
  rintro e w1 ⟨b, rfl, h⟩
  have HF := Lib.hid h
  clear h
  go_wp2_with fail
  go_ret
  exact ⟨b, rfl, HF.out⟩
end Go.Proofs.YtbidlkmagbjllaaGreatDoor.Nb

namespace Go.Proofs.YtbidlkmagbjllaaGreatDoor.Nb
open Go Go.RowKit

theorem Kept.put2 {w w' : World} {z : Nat} (h : Kept w w' z) (neg : Bool) (v v' : Value) : Kept w (Nb.put2 w' z neg v v') z := by
  unfold Nb.put2 Nb.put
  exact (((h.setCell _).setCell _).setCell _).setCell _
theorem ISlot.kept {w w' : World} {b o c : Nat} (h : ISlot w b o) (k : Kept w w' c) (hne : b ≠ c) : ISlot w' b o := by
  obtain ⟨h1, ⟨neg, h2⟩, ⟨A, l, d, h3⟩, h4, h5⟩ := h
  exact ⟨Nat.lt_of_lt_of_le h1 k.size, ⟨neg, (k.cell (p := ⟨b, o, none⟩) h1 hne).trans h2⟩, ⟨A, l, d, (k.cell (p := ⟨b, o + 1, none⟩) h1 hne).trans h3⟩, (k.frozen (p := ⟨b, o, none⟩) h1 hne).trans h4, (k.frozen (p := ⟨b, o + 1, none⟩) h1 hne).trans h5⟩
theorem RSlot.kept {w w' : World} {b c : Nat} (h : RSlot w b) (k : Kept w w' c) (hne : b ≠ c) : RSlot w' b := ⟨h.1.kept k hne, h.2.kept k hne⟩

set_option maxRecDepth 8000 in
set_option maxHeartbeats 300000 in
theorem setint_kept (z b o n : Nat) (w : World) (h : RSlot w z) (hx : IntN w b o false n) (hne : b ≠ z) :
    Calls Tryz.prog 50 #[.pointer (some ⟨z, 0, none⟩), .pointer (some ⟨b, o, none⟩)] w fun e w' => e = .returned (.pointer (some ⟨z, 0, none⟩)) ∧ RatN w' z false n 1 ∧ RSlot w' z ∧ Below z w w' ∧ Kept w w' z := by
  obtain ⟨hb, h2, A, k, c, h3, h4⟩ := hx
  have HS := Lib.hid (fun (W : World) (hW : Below w.heap.size w W) => (show W.cell? ⟨b, o, none⟩ = some (.bool false) ∧ W.cell? ⟨b, o + 1, none⟩ = some (.slice A k c) from ⟨(hW.cell (p := ⟨b, o, none⟩) (by exact hb)).trans h2, (hW.cell (p := ⟨b, o + 1, none⟩) (by exact hb)).trans h3⟩))
  have HS2 := Lib.hid (fun (W : World) (hW : Below w.heap.size w W) (neg : Bool) (v v' : Value) => (show (put2 W z neg v v').cell? ⟨b, o, none⟩ = some (.bool false) ∧ (put2 W z neg v v').cell? ⟨b, o + 1, none⟩ = some (.slice A k c) from ⟨(put2_cell _ _ _ hne).trans (HS.out W hW).1, (put2_cell _ _ _ hne).trans (HS.out W hW).2⟩))
  have HC := Lib.hid (fun (W : World) (hW : Below w.heap.size w W) => clone_any _ n 1 W (h4.below hW) (by omega))
  have H := Lib.hid h
  have hz : z ≤ w.heap.size := Nat.le_of_lt h.1.1
  clear h4 h
  have hcur : Below w.heap.size w w.drew := (Below.refl _ _).drew
  go_enter Tryz.func50, Tryz.ntmps50
  go_wp2_with fail
  go_region_held3 (fun w' => w'.cell? ⟨b, o, none⟩ = some (.bool false) ∧ w'.cell? ⟨b, o + 1, none⟩ = some (.slice A k c)) (first | exact hk4 | exact HS.out _ (by first | exact hcur3 | exact hcur3.alloc hcur3.size _ | exact hcur | exact hcur.alloc hcur.size _)) (first | (go_at_call 105; refine (HC.out _ (by first | exact hcur | exact hcur.alloc hcur.size _)).mono ?_; rintro e w3 ⟨x, rfl, hm, hb3⟩; obtain ⟨A1, k1, c1, rfl⟩ := hm.slice; have hcur3 : Below w.heap.size w w3 := (by first | exact back_of' hcur hb3 | exact back_of' (hcur.alloc hcur.size (.cells #[.int .u64 1] 74)) hb3); (first | (have HA : Hid (Below w.drew.heap.size w.drew w3) := Lib.hid hb3) | (have HB : Hid (Below (w.drew.alloc (.cells #[.int .u64 1] 74)).heap.size (w.drew.alloc (.cells #[.int .u64 1] 74)) w3) := Lib.hid hb3)); have HM := Lib.hid hm; clear hm hb3) | (go_at_call 104; refine (raw_put z n false A1 _ k1 c1 1 1 _ (by first | exact H.out.below hcur3 (Nat.le_refl _) | exact H.out.below (hcur3.alloc hcur3.size _) (Nat.le_refl _)) (by first | exact HM.out | exact HM.out.below ((Below.refl _ _).alloc (Nat.le_refl _) _)) (by simp)).mono ?_; rintro e w4 ⟨rfl, hw4⟩; have hk4 : w4.cell? ⟨b, o, none⟩ = some (.bool false) ∧ w4.cell? ⟨b, o + 1, none⟩ = some (.slice A k c) := (by rw [hw4]; exact HS2.out _ (by first | exact hcur3 | exact hcur3.alloc hcur3.size _) _ _ _); have HW4 := Lib.hid hw4; clear hw4))
  all_goals go_wp2_with fail
  all_goals go_ret
  · have h := put2_wrote (neg := false) (H.out.below (hcur3.alloc hcur3.size (.cells #[.int .u64 1] 74)) (Nat.le_refl _)) (HM.out.below ((Below.refl _ _).alloc (Nat.le_refl _) (.cells #[.int .u64 1] 74))) (one_new w3 74) (by omega)
    have hw := HW4.out
    subst hw
    exact ⟨rfl, h.1, h.2.1, ((hcur3.alloc hcur3.size (.cells #[.int .u64 1] 74)).mono hz).trans h.2.2, (Kept.of_below (hcur3.alloc hcur3.size (.cells #[.int .u64 1] 74))).put2 _ _ _⟩
  · have h := put2_wrote (neg := false) (H.out.below hcur3 (Nat.le_refl _)) HM.out ((one_new w.drew 74).below HB.out) (by omega)
    have hw := HW4.out
    subst hw
    exact ⟨rfl, h.1, h.2.1, (hcur3.mono hz).trans h.2.2, (Kept.of_below hcur3).put2 _ _ _⟩

theorem ex_dig : decN (⟨#[55, 53, 48]⟩ : ByteArray).data.toList = 750 := by decide

set_option maxRecDepth 8000 in
set_option maxHeartbeats 2000000 in
theorem value_ex (w : World) : Calls Tryz.prog 15 #[.agg #[.bool false, .string ⟨#[55, 53, 48]⟩, .int .i64 (-2)]] w fun e w' => ∃ z, e = .returned (.tuple #[.pointer (some ⟨z, 0, none⟩), .bool true]) ∧ RatN w' z false 15 2 ∧ w.heap.size ≤ z ∧ Below w.heap.size w w' := by
  have HN0 := Lib.hid (setString_any (w.heap.size + 1) 0 ⟨#[55, 53, 48]⟩ ((w.alloc (.cells #[.bool false, .string ⟨#[55, 53, 48]⟩, .int .i64 (-2)] 46)).alloc (.cells #[.bool false, .slice none 0 0] 102)) (by have := ISlot.new (w.alloc (.cells #[.bool false, .string ⟨#[55, 53, 48]⟩, .int .i64 (-2)] 46)) 102; simpa using this) (by decide) (by decide) (by decide))
  rw [ex_dig] at HN0
  have hb0 : Below w.heap.size w ((w.alloc (.cells #[.bool false, .string ⟨#[55, 53, 48]⟩, .int .i64 (-2)] 46)).alloc (.cells #[.bool false, .slice none 0 0] 102)) := ((Below.refl _ _).alloc (Nat.le_refl _) _).alloc (by simp) _
  have c0 : ((w.alloc (.cells #[.bool false, .string ⟨#[55, 53, 48]⟩, .int .i64 (-2)] 46)).alloc (.cells #[.bool false, .slice none 0 0] 102)).cell? ⟨w.heap.size, 2, none⟩ = some (.int .i64 (-2)) := by simp [go_sem]
  have HB0 := Lib.hid (And.intro hb0 c0)
  clear hb0 c0
  go_enter Tryz.func15, Tryz.ntmps15
  go_wp2_with fail
  refine HN0.out.mono ?_
  rintro e W ⟨rfl, i1, s1, b1⟩
  have hc2 := (b1.cell (p := ⟨w.heap.size, 2, none⟩) (by show w.heap.size < w.heap.size + 1; omega)).trans HB0.out.2
  have hs : w.heap.size + 1 < W.heap.size := i1.1
  have HW := Lib.hid (HB0.out.1.trans (b1.mono (by omega)))
  have HN := Lib.hid i1
  clear i1 s1 b1 HN0 HB0
  go_wp2_with fail
  have hcur : Below W.heap.size W W.drew := (Below.refl _ _).drew
  have HS := Lib.hid (fun (V : World) (hV : Below W.heap.size W V) => (show V.cell? ⟨w.heap.size, 2, none⟩ = some (.int .i64 (-2)) from (hV.cell (p := ⟨w.heap.size, 2, none⟩) (by show w.heap.size < W.heap.size; omega)).trans hc2))
  have H1 : Hid (RSlot ((W.drew.alloc (.cells #[.bool false, .slice none 0 0, .bool false, .slice none 0 0] 104)).alloc (.cells #[.bool false, .slice none 0 0, .bool false, .slice none 0 0] 104)) (W.heap.size + 1)) := Lib.hid (by have := RSlot.new (W.drew.alloc (.cells #[.bool false, .slice none 0 0, .bool false, .slice none 0 0] 104)) 104; simpa using this)
  have H2 : Hid (RSlot ((W.drew.alloc (.cells #[.bool false, .slice none 0 0, .bool false, .slice none 0 0] 104)).alloc (.cells #[.bool false, .slice none 0 0, .bool false, .slice none 0 0] 104)) W.heap.size) := Lib.hid ((RSlot.new W.drew 104).below ((Below.refl _ _).alloc (Nat.le_refl _) _) (Nat.le_refl _))
  have H3 : Hid (RSlot (W.drew.alloc (.cells #[.bool false, .slice none 0 0, .bool false, .slice none 0 0] 104)) W.heap.size) := Lib.hid (RSlot.new W.drew 104)
  have HZ := Lib.hid hs
  go_region_held3 (fun w' => w'.cell? ⟨w.heap.size, 2, none⟩ = some (.int .i64 (-2))) (first | exact HS.out _ (by first | exact hcur6 | exact hcur5 | exact hcur5.alloc hcur5.size _ | exact hcur3 | exact hcur3.alloc hcur3.size _ | exact hcur | exact hcur.alloc hcur.size _ | exact (hcur.alloc hcur.size _).alloc (hcur.alloc hcur.size _).size _)) (first | (go_at_call 50; refine (setint_kept _ (w.heap.size + 1) 0 750 _ (by first | exact H3.out | exact H1.out | exact H2.out) (HN.out.below (by first | exact hcur.alloc hcur.size _ | exact (hcur.alloc hcur.size _).alloc (hcur.alloc hcur.size _).size _) (Nat.le_refl _)) (by have := HZ.out; omega)).mono ?_; rintro e w3 ⟨rfl, r3, s3, b3, k3⟩; have hcur3 : Below W.heap.size W w3 := (by first | exact (hcur.alloc hcur.size (.cells #[.bool false, .slice none 0 0, .bool false, .slice none 0 0] 104)).trans (b3.mono (by omega)) | exact ((hcur.alloc hcur.size (.cells #[.bool false, .slice none 0 0, .bool false, .slice none 0 0] 104)).alloc (hcur.alloc hcur.size (.cells #[.bool false, .slice none 0 0, .bool false, .slice none 0 0] 104)).size (.cells #[.bool false, .slice none 0 0, .bool false, .slice none 0 0] 104)).trans (b3.mono (by omega))); (first | (have HRa : Hid (RatN w3 W.heap.size false 750 1) := Lib.hid r3) | (have HRb : Hid (RatN w3 (W.heap.size + 1) false 750 1) := Lib.hid r3)); have HK := Lib.hid k3; clear r3 s3 b3 k3) | (go_at_call 51; refine (ten_neg 2 100 (-2) _ (by omega) (by omega) (by omega) (by decide) (by omega)).mono ?_; rintro e w5 ⟨b5, rfl, hb5, r5, s5, c5⟩; have hcur5 : Below W.heap.size W w5 := (by first | exact back_of' hcur3 c5 | exact back_of' (hcur3.alloc hcur3.size (.cells #[.bool false, .slice none 0 0, .bool false, .slice none 0 0] 104)) c5); (first | (have HRa5 := Lib.hid (HRa.out.below c5 (Nat.le_refl _))) | (have HRb5 := Lib.hid (HRb.out.below c5 (Nat.le_refl _))) | (have HRa5 := Lib.hid ((HRa.out.below ((Below.refl _ _).alloc (Nat.le_refl _) (.cells #[.bool false, .slice none 0 0, .bool false, .slice none 0 0] 104)) (Nat.le_refl _)).below c5 (Nat.le_refl _)))); have H5 := Lib.hid r5; have HC5 := Lib.hid c5; clear r5 s5 c5) | (go_at_call 49; refine (ratmul_any _ _ b5 750 1 1 100 15 2 _ (by first | exact (H2.out.kept HK.out (by omega)).below HC5.out (Nat.le_refl _) | exact (H1.out.kept HK.out (by omega)).below HC5.out (Nat.le_refl _) | exact (RSlot.new w3 104).below HC5.out (Nat.le_refl _) | exact RSlot.new w5 104) (by first | exact HRa5.out | exact HRb5.out | exact HRa5.out.below ((Below.refl _ _).alloc (Nat.le_refl _) _) (Nat.le_refl _)) (by first | exact H5.out | exact H5.out.below ((Below.refl _ _).alloc (Nat.le_refl _) _) (Nat.le_refl _)) (by decide) (by decide) (by omega) (by omega) (by omega)).mono ?_; rintro e w6 ⟨rfl, r6, s6, b6⟩; have hcur6 : Below W.heap.size W w6 := (by have z3 := hcur3.size; have z5 := hcur5.size; first | exact hcur5.trans (b6.mono (by omega)) | exact (hcur5.alloc hcur5.size (.cells #[.bool false, .slice none 0 0, .bool false, .slice none 0 0] 104)).trans (b6.mono (by omega))); have HF := Lib.hid r6; clear r6 s6 b6))
  all_goals go_wp2_with fail
  all_goals go_ret2
  all_goals exact ⟨_, rfl, HF.out, (by have z0 := HW.out.size; have z3 := hcur3.size; have z5 := hcur5.size; omega), back_of' HW.out hcur6⟩
end Go.Proofs.YtbidlkmagbjllaaGreatDoor.Nb

namespace Go.Proofs.YtbidlkmagbjllaaGreatDoor.Nb
open Go Go.RowKit

theorem run_bits (n : Nat) (w : World) : Sem.run Tryz.prog (callFunc 72 #[.float .f64 n]) w = .ok (.value (.int .u64 (n : Int))) w :=
  (run_callFunc_extern (e := Extern.MathFloatBits.float64bits) Tryz.func72 (by kernel_rfl) (by kernel_rfl) (by kernel_rfl) (by kernel_rfl) _ _).trans rfl
set_option maxRecDepth 8000 in
theorem abs_pos (n : Nat) (w : World) (h : bits .andNot .u64 (n : Int) 9223372036854775808 = (n : Int)) : Calls Tryz.prog 34 #[.float .f64 n] w fun e w' => e = .returned (.float .f64 n) ∧ w' = w := by
  have hb := run_bits n w
  have hf := run_frombits (n : Int) w
  go_enter Tryz.func34, Tryz.ntmps34
  go_wp2_with fail
  go_ret
  exact ⟨rfl, rfl⟩
set_option maxRecDepth 8000 in
theorem isinf_75 (w : World) : Calls Tryz.prog 17 #[.float .f64 4620130267728707584, .int .i64 0] w fun e w' => e = .returned (.bool false) ∧ w' = w := by
  go_enter Tryz.func17, Tryz.ntmps17
  go_wp2_with fail
  refine (abs_pos 4620130267728707584 w (by decide)).mono ?_
  rintro e w1 ⟨rfl, hw⟩
  obtain rfl := hw.symm
  go_wp2_with fail
  go_ret
  exact ⟨rfl, rfl⟩
theorem ex_u1 : (exS.toList == [110, 97, 110]) = false := by rw [Lib.toList_data]; decide
theorem ex_u2 : (exS.toList == [43, 105, 110, 102]) = false := by rw [Lib.toList_data]; decide
theorem ex_u3 : (exS.toList == [45, 105, 110, 102]) = false := by rw [Lib.toList_data]; decide
set_option maxRecDepth 8000 in
theorem unspecial_ex (w : World) : Calls Tryz.prog 13 #[.string exS] w fun e w' => e = .returned (.tuple #[.float .f64 0, .bool false]) ∧ w' = w := by
  have u1 := ex_u1
  have u2 := ex_u2
  have u3 := ex_u3
  go_enter Tryz.func13, Tryz.ntmps13
  go_wp2_with fail
  go_ret2
  exact ⟨rfl, rfl⟩
set_option maxRecDepth 8000 in
set_option maxHeartbeats 1000000 in
theorem parse_ex (w : World) : Calls Tryz.prog 6 #[.string exS] w fun e w' => e = .returned (.tuple #[.float .f64 4620130267728707584, .int .i64 0]) ∧ Below w.heap.size w w' := by
  have hs : exS.size = 9 := by decide
  go_enter Tryz.func6, Tryz.ntmps6
  go_wp2_with fail
  refine (unspecial_ex w).mono ?_
  rintro e w1 ⟨rfl, hw⟩
  obtain rfl := hw.symm
  go_wp2_with fail
  refine (undecimal_ex w).mono ?_
  rintro e w1 ⟨rfl, b1⟩
  have hb1 := b1.alloc b1.size (.cells #[.bool false, .string ⟨#[55, 53, 48]⟩, .int .i64 (-2)] 46)
  have c1 : (w1.alloc (.cells #[.bool false, .string ⟨#[55, 53, 48]⟩, .int .i64 (-2)] 46)).cell? ⟨w1.heap.size, 0, none⟩ = some (.bool false) := by simp [go_sem]
  have hl : w1.heap.size < (w1.alloc (.cells #[.bool false, .string ⟨#[55, 53, 48]⟩, .int .i64 (-2)] 46)).heap.size := by simp
  have HB1 := Lib.hid (And.intro hb1 (And.intro c1 hl))
  clear b1 hb1 c1 hl
  go_wp2_with fail
  refine (value_ex _).mono ?_
  rintro e w2 ⟨z, rfl, r2, z2, b2⟩
  have HR := Lib.hid (And.intro r2 (back_of' HB1.out.1 b2))
  have c2 := (b2.cell (p := ⟨w1.heap.size, 0, none⟩) HB1.out.2.2).trans HB1.out.2.1
  have hl2 := Nat.lt_of_lt_of_le HB1.out.2.2 b2.size
  clear r2 b2 z2
  go_wp2_with fail
  refine (float_75 z w2 HR.out.1).mono ?_
  rintro e w3 ⟨rfl, b3⟩
  have HB3 := Lib.hid (back_of' HR.out.2 b3)
  have c3 := (b3.cell (p := ⟨w1.heap.size, 0, none⟩) hl2).trans c2
  clear b3 c2
  go_wp2_with fail
  refine (isinf_75 w3).mono ?_
  rintro e w4 ⟨rfl, hw⟩
  obtain rfl := hw.symm
  go_wp2_with fail
  go_ret2
  exact ⟨rfl, HB3.out⟩
end Go.Proofs.YtbidlkmagbjllaaGreatDoor.Nb

namespace Go.Proofs.YtbidlkmagbjllaaGreatDoor.Nb
open Go Go.RowKit

set_option maxRecDepth 8000 in
set_option maxHeartbeats 1000000 in
theorem amount_ex (w : World) : Calls Tryz.prog 32 #[.agg #[.bool false, .int .u64 3602879701896397, .int .i64 (-55)]] w (NewR w false 3602879701896397 36028797018963968) := by
  have hA1 := (Below.refl w.heap.size w).alloc (Nat.le_refl _) (.cells #[.bool false, .int .u64 3602879701896397, .int .i64 (-55)] 76)
  have hA2 := hA1.alloc hA1.size (.cells #[.bool false, .slice none 0 0, .bool false, .slice none 0 0] 104)
  have hA3 := hA2.alloc hA2.size (.cells #[.bool false, .slice none 0 0] 102)
  have h1 : RSlot ((((w.alloc (.cells #[.bool false, .int .u64 3602879701896397, .int .i64 (-55)] 76)).alloc (.cells #[.bool false, .slice none 0 0, .bool false, .slice none 0 0] 104)).alloc (.cells #[.bool false, .slice none 0 0] 102))) (w.heap.size + 1) := by
    have := (RSlot.new (w.alloc (.cells #[.bool false, .int .u64 3602879701896397, .int .i64 (-55)] 76)) 104).below ((Below.refl _ _).alloc (Nat.le_refl _) (.cells #[.bool false, .slice none 0 0] 102)) (Nat.le_refl _)
    simpa using this
  have h2 : ISlot ((((w.alloc (.cells #[.bool false, .int .u64 3602879701896397, .int .i64 (-55)] 76)).alloc (.cells #[.bool false, .slice none 0 0, .bool false, .slice none 0 0] 104)).alloc (.cells #[.bool false, .slice none 0 0] 102))) (w.heap.size + 2) 0 := by
    have := ISlot.new ((w.alloc (.cells #[.bool false, .int .u64 3602879701896397, .int .i64 (-55)] 76)).alloc (.cells #[.bool false, .slice none 0 0, .bool false, .slice none 0 0] 104)) 102
    simpa using this
  have h3 : ((((w.alloc (.cells #[.bool false, .int .u64 3602879701896397, .int .i64 (-55)] 76)).alloc (.cells #[.bool false, .slice none 0 0, .bool false, .slice none 0 0] 104)).alloc (.cells #[.bool false, .slice none 0 0] 102))).cell? ⟨w.heap.size, 2, none⟩ = some (.int .i64 (-55)) := by simp [go_sem]
  have HU := Lib.hid (setUint_any (w.heap.size + 2) 0 3602879701896397 _ h2 (by omega))
  have HA := Lib.hid (And.intro hA3 (And.intro h1 h3))
  clear hA1 hA2 hA3 h1 h2 h3
  go_enter Tryz.func32, Tryz.ntmps32
  go_wp2_with fail
  refine HU.out.mono ?_
  rintro e w1 ⟨rfl, i1, s1, b1⟩
  have H1 := Lib.hid (And.intro i1 (And.intro (HA.out.1.trans (b1.mono (by omega))) (And.intro ((show RSlot w1 (w.heap.size + 1) from ⟨⟨Nat.lt_of_lt_of_le HA.out.2.1.1.1 b1.size, by
      obtain ⟨-, ⟨n, h2⟩, -, -, -⟩ := HA.out.2.1.1; exact ⟨n, (b1.cell (p := ⟨w.heap.size + 1, 0, none⟩) (by show w.heap.size + 1 < w.heap.size + 2; omega)).trans h2⟩, by
      obtain ⟨-, -, ⟨A, k, c, h3⟩, -, -⟩ := HA.out.2.1.1; exact ⟨A, k, c, (b1.cell (p := ⟨w.heap.size + 1, 0 + 1, none⟩) (by show w.heap.size + 1 < w.heap.size + 2; omega)).trans h3⟩, (b1.frozen (p := ⟨w.heap.size + 1, 0, none⟩) (by show w.heap.size + 1 < w.heap.size + 2; omega)).trans HA.out.2.1.1.2.2.2.1, (b1.frozen (p := ⟨w.heap.size + 1, 0 + 1, none⟩) (by show w.heap.size + 1 < w.heap.size + 2; omega)).trans HA.out.2.1.1.2.2.2.2⟩, ⟨Nat.lt_of_lt_of_le HA.out.2.1.1.1 b1.size, by
      obtain ⟨-, ⟨n, h2⟩, -, -, -⟩ := HA.out.2.1.2; exact ⟨n, (b1.cell (p := ⟨w.heap.size + 1, 2, none⟩) (by show w.heap.size + 1 < w.heap.size + 2; omega)).trans h2⟩, by
      obtain ⟨-, -, ⟨A, k, c, h3⟩, -, -⟩ := HA.out.2.1.2; exact ⟨A, k, c, (b1.cell (p := ⟨w.heap.size + 1, 2 + 1, none⟩) (by show w.heap.size + 1 < w.heap.size + 2; omega)).trans h3⟩, (b1.frozen (p := ⟨w.heap.size + 1, 2, none⟩) (by show w.heap.size + 1 < w.heap.size + 2; omega)).trans HA.out.2.1.2.2.2.2.1, (b1.frozen (p := ⟨w.heap.size + 1, 2 + 1, none⟩) (by show w.heap.size + 1 < w.heap.size + 2; omega)).trans HA.out.2.1.2.2.2.2.2⟩⟩)) ((b1.cell (p := ⟨w.heap.size, 2, none⟩) (by show w.heap.size < w.heap.size + 2; omega)).trans HA.out.2.2))))
  clear i1 s1 b1 HA HU
  go_wp2_with fail
  refine (setint_any (w.heap.size + 1) (w.heap.size + 2) 0 3602879701896397 w1 H1.out.2.2.1 H1.out.1 (by omega)).mono ?_
  rintro e w2 ⟨rfl, r2, s2, b2⟩
  have c2 := (b2.cell (p := ⟨w.heap.size, 2, none⟩) (by show w.heap.size < w.heap.size + 1; omega)).trans H1.out.2.2.2
  have H2 := Lib.hid (And.intro r2 (And.intro s2 (H1.out.2.1.trans (b2.mono (by omega)))))
  clear r2 s2 b2 H1
  go_wp2_with fail
  refine (two_neg 55 36028797018963968 (-55) w2 (by omega) (by omega) (by omega) (by decide) (by omega)).mono ?_
  rintro e w3 ⟨b3, rfl, hb3, r3, s3, c3⟩
  have H3 := Lib.hid (And.intro (H2.out.1.below c3 (Nat.le_refl _)) (And.intro (H2.out.2.1.below c3 (Nat.le_refl _)) (And.intro (back_of' H2.out.2.2 c3) r3)))
  clear r3 s3 c3
  go_wp2_with fail
  refine (ratmul_any (w.heap.size + 1) (w.heap.size + 1) b3 3602879701896397 1 1 36028797018963968 3602879701896397 36028797018963968 w3 H3.out.2.1 H3.out.1 H3.out.2.2.2 (by decide) (by decide) (by omega) (by omega) (by omega)).mono ?_
  rintro e w4 ⟨rfl, r4, s4, b4⟩
  have HF := Lib.hid (And.intro r4 (And.intro s4 (H3.out.2.2.1.trans (b4.mono (by omega)))))
  clear r4 s4 b4
  go_wp2_with fail
  go_ret
  exact ⟨_, rfl, Nat.le_succ _, HF.out⟩

set_option maxRecDepth 8000 in
set_option maxHeartbeats 1000000 in
theorem decade_ex (x : Nat) (w : World) (hx : RatN w x false 3602879701896397 36028797018963968) : Calls Tryz.prog 75 #[.pointer (some ⟨x, 0, none⟩)] w fun e w' => e = .returned (.int .i64 (-1)) ∧ Below w.heap.size w w' := by
  have HX := Lib.hid (fun (W : World) (hW : Below w.heap.size w W) => hx.below hW (Nat.le_refl _))
  have HN := Lib.hid (num_any x _ _ w hx)
  clear hx
  go_enter Tryz.func75, Tryz.ntmps75
  go_wp2_with fail
  refine HN.out.mono ?_
  rintro e w1 ⟨b1, rfl, hb1, i1, s1, c1⟩
  have HL1 := Lib.hid (bitlen_any b1 0 _ false w1 i1)
  rw [show Lib.bitLen 3602879701896397 = 52 by decide] at HL1
  have HB1 := Lib.hid c1
  clear i1 s1 c1
  go_wp2_with fail
  refine HL1.out.mono ?_
  rintro e w2 ⟨rfl, hw⟩
  obtain rfl := hw.symm
  go_wp2_with fail
  refine (denom_any x _ _ w1 (HX.out _ HB1.out)).mono ?_
  rintro e w2 ⟨b2, rfl, hb2, i2, s2, c2⟩
  have HL2 := Lib.hid (bitlen_any b2 0 _ false w2 i2)
  rw [show Lib.bitLen 36028797018963968 = 56 by decide] at HL2
  have HB2 := Lib.hid (back_of' HB1.out c2)
  clear i2 s2 c2
  go_wp2_with fail
  refine HL2.out.mono ?_
  rintro e w3 ⟨rfl, hw⟩
  obtain rfl := hw.symm
  go_wp2_with fail
  go_loopw [3] (fun v wr => v = .int .i64 (-1) ∧ Hid (Below w.heap.size w wr)) (fun _ _ => 0)
  case atStart => exact ⟨rfl, HB2⟩
  case round =>
    obtain ⟨rfl, hbr⟩ := hrel
    go_wp2_with fail
    refine (ten_neg 1 10 (-1) wr (by omega) (by omega) (by omega) (by decide) (by omega)).mono ?_
    rintro e w3 ⟨b3, rfl, hb3, r3, s3, c3⟩
    have HC1 := Lib.hid (ratcmp_any x b3 3602879701896397 36028797018963968 1 10 36028797018963970 36028797018963968 w3 (HX.out _ (back_of' hbr.out c3)) r3 (by decide) (by decide) (by omega) (by omega))
    rw [show cmpN 36028797018963970 36028797018963968 = 1 by decide] at HC1
    have HB3 := Lib.hid (back_of' hbr.out c3)
    clear r3 s3 c3
    go_wp2_with fail
    refine HC1.out.mono ?_
    rintro e w4 ⟨rfl, c4⟩
    have HB4 := Lib.hid (back_of' HB3.out c4)
    clear c4
    go_wp2_with fail
    go_loopw [3] (fun v wr => v = .int .i64 (-1) ∧ Hid (Below w.heap.size w wr)) (fun _ _ => 0)
    case atStart => exact ⟨rfl, HB4⟩
    case round =>
      obtain ⟨rfl, hbr2⟩ := hrel
      go_wp2_with fail
      refine (ten_pos 0 1 _ (by omega) (by decide) (by omega)).mono ?_
      rintro e w5 ⟨b5, rfl, hb5, r5, s5, c5⟩
      have HC2 := Lib.hid (ratcmp_any x b5 3602879701896397 36028797018963968 1 1 3602879701896397 36028797018963968 w5 (HX.out _ (back_of' hbr2.out c5)) r5 (by decide) (by decide) (by omega) (by omega))
      rw [show cmpN 3602879701896397 36028797018963968 = -1 by decide] at HC2
      have HB5 := Lib.hid (back_of' hbr2.out c5)
      clear r5 s5 c5
      go_wp2_with fail
      refine HC2.out.mono ?_
      rintro e w6 ⟨rfl, c6⟩
      have HB6 := Lib.hid (back_of' HB5.out c6)
      clear c6
      go_wp2_with fail
      go_ret
      exact ⟨rfl, HB6.out⟩
end Go.Proofs.YtbidlkmagbjllaaGreatDoor.Nb

namespace Go.Proofs.YtbidlkmagbjllaaGreatDoor.Nb
open Go Go.RowKit

set_option maxRecDepth 8000 in
theorem again_tenth (z xv : Nat) (w : World) (hx : RatN w z false 1 10) (hv : w.cell? ⟨xv, 0, none⟩ = some (.float .f64 4591870180066957722)) (hb : xv < w.heap.size) :
    Calls Tryz.prog 33 #[.pointer (some ⟨z, 0, none⟩), .pointer (some ⟨xv, 0, none⟩)] w fun e w' => e = .returned (.bool true) ∧ Below w.heap.size w w' := by
  have HF := Lib.hid (float_tenth z w hx)
  clear hx
  go_enter Tryz.func33, Tryz.ntmps33
  go_wp2_with fail
  refine HF.out.mono ?_
  rintro e w1 ⟨rfl, b1⟩
  have c1 := (b1.cell (p := ⟨xv, 0, none⟩) (by exact hb)).trans hv
  have HB1 := Lib.hid b1
  clear b1
  go_wp2_with fail
  refine (abs_pos 4591870180066957722 w1 (by decide)).mono ?_
  rintro e w2 ⟨rfl, hw⟩
  obtain rfl := hw.symm
  go_wp2_with fail
  go_ret
  exact ⟨rfl, HB1.out⟩
set_option maxRecDepth 8000 in
theorem again_fifth (z xv : Nat) (w : World) (hx : RatN w z false 1 5) (hv : w.cell? ⟨xv, 0, none⟩ = some (.float .f64 4591870180066957722)) (hb : xv < w.heap.size) :
    Calls Tryz.prog 33 #[.pointer (some ⟨z, 0, none⟩), .pointer (some ⟨xv, 0, none⟩)] w fun e w' => e = .returned (.bool false) ∧ Below w.heap.size w w' := by
  have HF := Lib.hid (float_fifth z w hx)
  clear hx
  go_enter Tryz.func33, Tryz.ntmps33
  go_wp2_with fail
  refine HF.out.mono ?_
  rintro e w1 ⟨rfl, b1⟩
  have c1 := (b1.cell (p := ⟨xv, 0, none⟩) (by exact hb)).trans hv
  have HB1 := Lib.hid b1
  clear b1
  go_wp2_with fail
  refine (abs_pos 4591870180066957722 w1 (by decide)).mono ?_
  rintro e w2 ⟨rfl, hw⟩
  obtain rfl := hw.symm
  go_wp2_with fail
  go_ret
  exact ⟨rfl, HB1.out⟩

set_option maxRecDepth 8000 in
set_option maxHeartbeats 2000000 in
/-- the closure read: a digit string's number, times the unit, is read again as the number -/
theorem read_ex (b n P Q ca cu u xv : Nat) (bb : Bool) (w : World) (hn : IntN w b 0 false n) (h0 : 0 < n) (ha : w.cell? ⟨ca, 0, none⟩ = some (.func (.func 33) #[] #[.pointer (some ⟨xv, 0, none⟩)])) (hca : ca < w.heap.size)
    (hc : w.cell? ⟨cu, 0, none⟩ = some (.pointer (some ⟨u, 0, none⟩))) (hcu : cu < w.heap.size) (hu : RatN w u false 1 10)
    (hP : n / Nat.gcd n 10 * (1 / Nat.gcd 1 1) = P) (hQ : 1 / Nat.gcd 1 1 * (10 / Nat.gcd n 10) = Q) (hPl : P < 18446744073709551616) (hQl : Q < 18446744073709551616) (hQ0 : 0 < Q)
    (HG : Hid (∀ (z : Nat) (W : World), Below w.heap.size w W → RatN W z false P Q → Calls Tryz.prog 33 #[.pointer (some ⟨z, 0, none⟩), .pointer (some ⟨xv, 0, none⟩)] W fun e w' => e = .returned (.bool bb) ∧ Below W.heap.size W w')) :
    Calls Tryz.prog 82 #[.pointer (some ⟨b, 0, none⟩), .pointer (some ⟨ca, 0, none⟩), .pointer (some ⟨cu, 0, none⟩)] w fun e w' => e = .returned (.bool bb) ∧ Below w.heap.size w w' := by
  have HS := Lib.hid (sign_pos b 0 n w hn h0)
  have HE := Lib.hid (And.intro hP (And.intro hQ (And.intro hPl (And.intro hQl hQ0))))
  have HN := Lib.hid (And.intro hn hu)
  clear hn hu hP hQ hPl hQl hQ0
  go_enter Tryz.func82, Tryz.ntmps82
  go_wp2_with fail
  have hcur : Below w.heap.size w w.drew := (Below.refl _ _).drew
  have HSC := Lib.hid (fun (V : World) (hV : Below w.heap.size w V) => (show V.cell? ⟨ca, 0, none⟩ = some (.func (.func 33) #[] #[.pointer (some ⟨xv, 0, none⟩)]) ∧ V.cell? ⟨cu, 0, none⟩ = some (.pointer (some ⟨u, 0, none⟩)) from ⟨(hV.cell (p := ⟨ca, 0, none⟩) (by exact hca)).trans ha, (hV.cell (p := ⟨cu, 0, none⟩) (by exact hcu)).trans hc⟩))
  have H1 : Hid (RSlot ((w.drew.alloc (.cells #[.bool false, .slice none 0 0, .bool false, .slice none 0 0] 104)).alloc (.cells #[.bool false, .slice none 0 0, .bool false, .slice none 0 0] 104)) (w.heap.size + 1)) := Lib.hid (by have := RSlot.new (w.drew.alloc (.cells #[.bool false, .slice none 0 0, .bool false, .slice none 0 0] 104)) 104; simpa using this)
  have H2 : Hid (RSlot ((w.drew.alloc (.cells #[.bool false, .slice none 0 0, .bool false, .slice none 0 0] 104)).alloc (.cells #[.bool false, .slice none 0 0, .bool false, .slice none 0 0] 104)) w.heap.size) := Lib.hid ((RSlot.new w.drew 104).below ((Below.refl _ _).alloc (Nat.le_refl _) _) (Nat.le_refl _))
  have H3 : Hid (RSlot (w.drew.alloc (.cells #[.bool false, .slice none 0 0, .bool false, .slice none 0 0] 104)) w.heap.size) := Lib.hid (RSlot.new w.drew 104)
  go_region_held3 (fun w' => w'.cell? ⟨ca, 0, none⟩ = some (.func (.func 33) #[] #[.pointer (some ⟨xv, 0, none⟩)]) ∧ w'.cell? ⟨cu, 0, none⟩ = some (.pointer (some ⟨u, 0, none⟩))) (first | exact HSC.out _ (by first | exact hcur7 | exact hcur6 | exact hcur3 | exact hcur3.alloc hcur3.size _ | exact hcur | exact hcur.alloc hcur.size _ | exact (hcur.alloc hcur.size _).alloc (hcur.alloc hcur.size _).size _)) (first | (go_at_call 83; refine (sign_pos b 0 n w.drew HN.out.1 h0).mono ?_; rintro e w2 ⟨rfl, rfl⟩) | (go_at_call 50; refine (setint_kept _ b 0 n _ (by first | exact H3.out | exact H1.out | exact H2.out) (HN.out.1.below (by first | exact hcur.alloc hcur.size _ | exact (hcur.alloc hcur.size _).alloc (hcur.alloc hcur.size _).size _) (Nat.le_refl _)) (by have := HN.out.1.1; omega)).mono ?_; rintro e w3 ⟨rfl, r3, s3, b3, k3⟩; have hcur3 : Below w.heap.size w w3 := (by first | exact (hcur.alloc hcur.size (.cells #[.bool false, .slice none 0 0, .bool false, .slice none 0 0] 104)).trans (b3.mono (by omega)) | exact ((hcur.alloc hcur.size (.cells #[.bool false, .slice none 0 0, .bool false, .slice none 0 0] 104)).alloc (hcur.alloc hcur.size (.cells #[.bool false, .slice none 0 0, .bool false, .slice none 0 0] 104)).size (.cells #[.bool false, .slice none 0 0, .bool false, .slice none 0 0] 104)).trans (b3.mono (by omega))); (first | (have HRa : Hid (RatN w3 w.heap.size false n 1) := Lib.hid r3) | (have HRb : Hid (RatN w3 (w.heap.size + 1) false n 1) := Lib.hid r3)); have HK := Lib.hid k3; clear r3 s3 b3 k3) | (go_at_call 49; refine (ratmul_any _ _ u n 1 1 10 P Q _ (by first | exact H2.out.kept HK.out (by omega) | exact H1.out.kept HK.out (by omega) | exact RSlot.new w3 104) (by first | exact HRa.out | exact HRb.out | exact HRa.out.below ((Below.refl _ _).alloc (Nat.le_refl _) _) (Nat.le_refl _)) (by first | exact HN.out.2.below hcur3 (Nat.le_refl _) | exact HN.out.2.below (hcur3.alloc hcur3.size _) (Nat.le_refl _)) HE.out.1 HE.out.2.1 HE.out.2.2.1 HE.out.2.2.2.1 HE.out.2.2.2.2).mono ?_; rintro e w6 ⟨rfl, r6, s6, b6⟩; have hcur6 : Below w.heap.size w w6 := (by have z3 := hcur3.size; first | exact hcur3.trans (b6.mono (by omega)) | exact (hcur3.alloc hcur3.size (.cells #[.bool false, .slice none 0 0, .bool false, .slice none 0 0] 104)).trans (b6.mono (by omega))); have HG6 := Lib.hid (HG.out _ _ hcur6 r6); clear r6 s6 b6) | (go_at_call 33; refine HG6.out.mono ?_; rintro e w7 ⟨rfl, b7⟩; have hcur7 := back_of' hcur6 b7; clear b7))
  all_goals go_wp2_with fail
  all_goals go_ret
  all_goals exact ⟨rfl, hcur7⟩
end Go.Proofs.YtbidlkmagbjllaaGreatDoor.Nb

namespace Go.Proofs.YtbidlkmagbjllaaGreatDoor.Nb
open Go Go.RowKit

structure FewC (w W : World) (x xv cu u z3 : Nat) : Prop where
  b : Below w.heap.size w W
  rx : RatN W x false 3602879701896397 36028797018963968
  cx : W.cell? ⟨xv, 0, none⟩ = some (.float .f64 4591870180066957722) ∧ xv < w.heap.size
  ca : W.cell? ⟨w.heap.size, 0, none⟩ = some (.func (.func 33) #[] #[.pointer (some ⟨xv, 0, none⟩)]) ∧ w.heap.size < W.heap.size
  cc : W.cell? ⟨cu, 0, none⟩ = some (.pointer (some ⟨u, 0, none⟩)) ∧ cu < W.heap.size
  ru : RatN W u false 1 10
  rz : RatN W z3 false 18014398509481985 18014398509481984
theorem FewC.below {w W W' : World} {x xv cu u z3 : Nat} (h : FewC w W x xv cu u z3) (k : Below W.heap.size W W') : FewC w W' x xv cu u z3 :=
  ⟨back_of' h.b k, h.rx.below k (Nat.le_refl _), ⟨(k.cell (p := ⟨xv, 0, none⟩) (Nat.lt_of_lt_of_le h.cx.2 h.b.size)).trans h.cx.1, h.cx.2⟩, ⟨(k.cell (p := ⟨w.heap.size, 0, none⟩) h.ca.2).trans h.ca.1, Nat.lt_of_lt_of_le h.ca.2 k.size⟩, ⟨(k.cell (p := ⟨cu, 0, none⟩) h.cc.2).trans h.cc.1, Nat.lt_of_lt_of_le h.cc.2 k.size⟩, h.ru.below k (Nat.le_refl _), h.rz.below k (Nat.le_refl _)⟩

set_option maxRecDepth 8000 in
set_option maxHeartbeats 4000000 in
theorem fewest_ex (x xv : Nat) (w : World) (hx : RatN w x false 3602879701896397 36028797018963968) (hv : w.cell? ⟨xv, 0, none⟩ = some (.float .f64 4591870180066957722)) (hxv : xv < w.heap.size) :
    Calls Tryz.prog 31 #[.pointer (some ⟨x, 0, none⟩), .func (.func 33) #[] #[.pointer (some ⟨xv, 0, none⟩)]] w fun e w' => e = .returned (.tuple #[.string ⟨#[49]⟩, .int .i64 (-1)]) ∧ Below w.heap.size w w' := by
  have hmf : ∀ (fn : Fn) (first cap : Array Value) (w : World), (Instr.makeFunc fn first cap).run Tryz.prog w = .ok (.func fn first cap) w := fun _ _ _ _ => rfl
  have hA := (Below.refl w.heap.size w).alloc (Nat.le_refl _) (.cells #[.func (.func 33) #[] #[.pointer (some ⟨xv, 0, none⟩)]] 86)
  have hca : (w.alloc (.cells #[.func (.func 33) #[] #[.pointer (some ⟨xv, 0, none⟩)]] 86)).cell? ⟨w.heap.size, 0, none⟩ = some (.func (.func 33) #[] #[.pointer (some ⟨xv, 0, none⟩)]) := by simp [go_sem]
  have hcs : w.heap.size < (w.alloc (.cells #[.func (.func 33) #[] #[.pointer (some ⟨xv, 0, none⟩)]] 86)).heap.size := by simp
  have HD := Lib.hid (decade_ex x _ (hx.below hA (Nat.le_refl _)))
  have H0 := Lib.hid (And.intro hA (And.intro hca hcs))
  have HX := Lib.hid (And.intro hx hv)
  clear hA hca hcs hx hv
  go_enter Tryz.func31, Tryz.ntmps31
  go_wp2_with fail
  refine HD.out.mono ?_
  rintro e w1 ⟨rfl, b1⟩
  have H1 := Lib.hid (And.intro (H0.out.1.trans (b1.mono H0.out.1.size)) (And.intro ((b1.cell (p := ⟨w.heap.size, 0, none⟩) H0.out.2.2).trans H0.out.2.1) (Nat.lt_of_lt_of_le H0.out.2.2 b1.size)))
  clear b1 H0 HD
  go_wp2_with fail
  go_loopw [7] (fun v wr => v = .int .i64 1 ∧ w1 = wr) (fun _ _ => 0)
  case atStart => exact ⟨rfl, rfl⟩
  case round =>
    obtain ⟨rfl, rfl⟩ := hrel
    go_wp2_with fail
    refine (ten_neg 1 10 (-1) w1 (by omega) (by omega) (by omega) (by decide) (by omega)).mono ?_
    rintro e w2 ⟨u, rfl, hu0, r2, s2, c2⟩
    have hB := (back_of' H1.out.1 c2)
    have hb2 := (Below.refl w2.heap.size w2).alloc (Nat.le_refl _) (.cells #[.pointer (some ⟨u, 0, none⟩)] 49)
    have hb3 := hb2.alloc hb2.size (.cells #[.bool false, .slice none 0 0, .bool false, .slice none 0 0] 104)
    have hs3 : RSlot ((w2.alloc (.cells #[.pointer (some ⟨u, 0, none⟩)] 49)).alloc (.cells #[.bool false, .slice none 0 0, .bool false, .slice none 0 0] 104)) (w2.heap.size + 1) := by
      have := RSlot.new (w2.alloc (.cells #[.pointer (some ⟨u, 0, none⟩)] 49)) 104
      simpa using this
    have hc3 : ((w2.alloc (.cells #[.pointer (some ⟨u, 0, none⟩)] 49)).alloc (.cells #[.bool false, .slice none 0 0, .bool false, .slice none 0 0] 104)).cell? ⟨w2.heap.size, 0, none⟩ = some (.pointer (some ⟨u, 0, none⟩)) := by simp [go_sem]
    have HQ := Lib.hid (ratquo_any (w2.heap.size + 1) x u 3602879701896397 36028797018963968 1 10 18014398509481985 18014398509481984 _ hs3 (HX.out.1.below (back_of' hB hb3) (Nat.le_refl _)) (r2.below hb3 (Nat.le_refl _)) (by omega) (by decide) (by decide) (by omega) (by omega) (by omega))
    have HC0 := Lib.hid (And.intro hB (And.intro hb3 (And.intro hc3 (And.intro r2 (And.intro ((c2.cell (p := ⟨w.heap.size, 0, none⟩) H1.out.2.2).trans H1.out.2.1) (Nat.lt_of_lt_of_le H1.out.2.2 c2.size))))))
    clear r2 s2 c2 hb2 hb3 hs3 hc3 hB H1
    go_wp2_with fail
    refine HQ.out.mono ?_
    rintro e w3 ⟨rfl, r3, s3, b3⟩
    have HC : Hid (FewC w w3 x xv w2.heap.size u (w2.heap.size + 1)) := Lib.hid (by
      obtain ⟨g1, g2, g3, g4, g5, g6⟩ := HC0.out
      have k := g2.trans (b3.mono (Nat.le_succ _))
      have kk := back_of' g1 k
      exact ⟨kk, HX.out.1.below kk (Nat.le_refl _), ⟨(kk.cell (p := ⟨xv, 0, none⟩) hxv).trans HX.out.2, hxv⟩, ⟨(k.cell (p := ⟨w.heap.size, 0, none⟩) g6).trans g5, Nat.lt_of_lt_of_le g6 k.size⟩, ⟨(b3.cell (p := ⟨w2.heap.size, 0, none⟩) (Nat.lt_succ_self _)).trans g3, Nat.lt_of_lt_of_le (by simp; omega) b3.size⟩, g4.below k (Nat.le_refl _), r3⟩)
    clear r3 s3 b3 HC0 HQ HX
    go_wp2_with fail
    have hA4 := (Below.refl w3.heap.size w3).alloc (Nat.le_refl _) (.cells #[.bool false, .slice none 0 0] 102)
    have HN4 := Lib.hid (num_any (w2.heap.size + 1) _ _ _ (HC.out.below hA4).rz)
    have HA4 := Lib.hid (And.intro hA4 (ISlot.new w3 102))
    clear hA4
    refine HN4.out.mono ?_
    rintro e w4 ⟨b4, rfl, hb4, i4, s4, c4⟩
    have H4 := Lib.hid (And.intro (back_of' HA4.out.1 c4) (And.intro i4 (HA4.out.2.below c4 (Nat.le_refl _))))
    clear i4 s4 c4 HN4 HA4
    go_wp2_with fail
    refine (denom_any (w2.heap.size + 1) _ _ w4 (HC.out.below H4.out.1).rz).mono ?_
    rintro e w5 ⟨b5, rfl, hb5, i5, s5, c5⟩
    have H5 := Lib.hid (And.intro (back_of' H4.out.1 c5) (And.intro (H4.out.2.1.below c5 (Nat.le_refl _)) (And.intro (H4.out.2.2.below c5 (Nat.le_refl _)) i5)))
    clear i5 s5 c5 H4
    go_wp2_with fail
    refine (quo_any w3.heap.size 0 b4 0 18014398509481985 b5 0 18014398509481984 w5 H5.out.2.2.1 H5.out.2.1 H5.out.2.2.2 (by omega)).mono ?_
    rintro e w6 ⟨rfl, i6, s6, b6⟩
    rw [show 18014398509481985 / 18014398509481984 = 1 by decide] at i6
    have HC := Lib.hid (HC.out.below (H5.out.1.trans b6))
    have HL := Lib.hid i6
    have hl6 : w3.heap.size < w6.heap.size := i6.1
    clear i6 s6 b6 H5
    go_wp2_with fail
    have hA7 := (Below.refl w6.heap.size w6).alloc (Nat.le_refl _) (.cells #[.bool false, .slice none 0 0] 102)
    have HA7 := Lib.hid (And.intro hA7 (ISlot.new w6 102))
    clear hA7
    refine (newInt_any 1 _ (by omega)).mono ?_
    rintro e w7 ⟨b7, rfl, hb7, i7, s7, c7⟩
    have H7 := Lib.hid (And.intro (back_of' HA7.out.1 c7) (And.intro i7 (HA7.out.2.below c7 (Nat.le_refl _))))
    clear i7 s7 c7 HA7
    go_wp2_with fail
    refine (add_pos w6.heap.size 0 w3.heap.size 0 1 b7 0 1 w7 H7.out.2.2 (HL.out.below H7.out.1 (Nat.le_refl _)) H7.out.2.1 (by omega)).mono ?_
    rintro e w8 ⟨rfl, i8, s8, b8⟩
    have HC := Lib.hid (HC.out.below (H7.out.1.trans b8))
    have HL := Lib.hid (HL.out.below (H7.out.1.trans b8) (Nat.le_refl _))
    have HH : Hid (IntN w8 w6.heap.size 0 false 2) := Lib.hid i8
    clear i8 s8 b8 H7
    go_wp2_with fail
    refine (read_ex w3.heap.size 1 1 10 w.heap.size w2.heap.size u xv true w8 HL.out (by omega) HC.out.ca.1 HC.out.ca.2 HC.out.cc.1 HC.out.cc.2 HC.out.ru (by decide) (by decide) (by omega) (by omega) (by omega) (Lib.hid (fun z W hW hr => again_tenth z xv W hr (HC.out.below hW).cx.1 (Nat.lt_of_lt_of_le HC.out.cx.2 (HC.out.below hW).b.size)))).mono ?_
    rintro e w9 ⟨rfl, b9⟩
    have HC := Lib.hid (HC.out.below b9)
    have HL := Lib.hid (HL.out.below b9 (Nat.le_refl _))
    have HH := Lib.hid (HH.out.below b9 (Nat.le_refl _))
    clear b9
    go_wp2_with fail
    refine (read_ex w6.heap.size 2 1 5 w.heap.size w2.heap.size u xv false w9 HH.out (by omega) HC.out.ca.1 HC.out.ca.2 HC.out.cc.1 HC.out.cc.2 HC.out.ru (by decide) (by decide) (by omega) (by omega) (by omega) (Lib.hid (fun z W hW hr => again_fifth z xv W hr (HC.out.below hW).cx.1 (Nat.lt_of_lt_of_le HC.out.cx.2 (HC.out.below hW).b.size)))).mono ?_
    rintro e w10 ⟨rfl, b10⟩
    have HC := Lib.hid (HC.out.below b10)
    have HL := Lib.hid (HL.out.below b10 (Nat.le_refl _))
    have hl10 : w3.heap.size < w10.heap.size := HL.out.1
    clear b10 HH
    go_wp2_with fail
    have hA11 := ((Below.refl w10.heap.size w10).alloc (Nat.le_refl _) (.cells #[.bool false, .slice none 0 0, .bool false, .slice none 0 0] 104))
    have hA12 := hA11.alloc hA11.size (.cells #[.bool false, .slice none 0 0, .bool false, .slice none 0 0] 104)
    have hs56 : RSlot ((w10.alloc (.cells #[.bool false, .slice none 0 0, .bool false, .slice none 0 0] 104)).alloc (.cells #[.bool false, .slice none 0 0, .bool false, .slice none 0 0] 104)) (w10.heap.size + 1) := by
      have := RSlot.new (w10.alloc (.cells #[.bool false, .slice none 0 0, .bool false, .slice none 0 0] 104)) 104
      simpa using this
    have hs54 := (RSlot.new w10 104).below ((Below.refl _ _).alloc (Nat.le_refl _) (.cells #[.bool false, .slice none 0 0, .bool false, .slice none 0 0] 104)) (Nat.le_refl _)
    have HI := Lib.hid (setint_kept (w10.heap.size + 1) w3.heap.size 0 1 _ hs56 (HL.out.below hA12 (Nat.le_refl _)) (by omega))
    have HA := Lib.hid (And.intro hA12 hs54)
    clear hA11 hA12 hs56 hs54
    refine HI.out.mono ?_
    rintro e w11 ⟨rfl, r11, s11, b11, k11⟩
    have hb11 := HA.out.1.trans (b11.mono (Nat.le_succ _))
    have HCx := Lib.hid (HC.out.below hb11)
    have HBx := Lib.hid hb11
    have H11 := Lib.hid (And.intro r11 (HA.out.2.kept k11 (by omega)))
    clear r11 s11 b11 k11 hb11 HI HA
    go_wp2_with fail
    refine (ratsub_any w10.heap.size (w2.heap.size + 1) (w10.heap.size + 1) 18014398509481985 18014398509481984 1 1 1 18014398509481984 1 18014398509481985 18014398509481984 1 1 1 1 18014398509481984 w11 H11.out.2 HCx.out.rz H11.out.1 (by omega) (by decide) (by decide) (by decide) (by decide) (by decide) (by omega) (by decide) (by decide) (by decide) (by decide) (by decide) (by omega) (by omega) (by omega)).mono ?_
    rintro e w12 ⟨rfl, r12, s12, b12⟩
    have H12 := Lib.hid (And.intro r12 (And.intro (HBx.out.trans b12) (HL.out.below (HBx.out.trans b12) (Nat.le_refl _))))
    clear r12 s12 b12 HCx HBx H11
    go_wp2_with fail
    refine (newrat_any 1 2 w12 (by omega) (by omega) (by decide) (by omega)).mono ?_
    rintro e w13 ⟨b13, rfl, hb13, r13, s13, c13⟩
    have HCm := Lib.hid (ratcmp_any w10.heap.size b13 1 18014398509481984 1 2 2 18014398509481984 w13 (H12.out.1.below c13 (Nat.le_refl _)) r13 (by decide) (by decide) (by omega) (by omega))
    rw [show cmpN 2 18014398509481984 = -1 by decide] at HCm
    have H13 := Lib.hid (And.intro (H12.out.2.1.trans (c13.mono H12.out.2.1.size)) (H12.out.2.2.below c13 (Nat.le_refl _)))
    clear r13 s13 c13 H12
    go_wp2_with fail
    refine HCm.out.mono ?_
    rintro e w14 ⟨rfl, b14⟩
    have H14 := Lib.hid (And.intro (back_of' HC.out.b (H13.out.1.trans (b14.mono H13.out.1.size))) (H13.out.2.below b14 (Nat.le_refl _)))
    clear b14 H13 HCm HC HL
    go_wp2_with fail
    refine (string_one w3.heap.size 0 w14 H14.out.2).mono ?_
    rintro e w15 ⟨rfl, b15⟩
    have H15 := Lib.hid (back_of' H14.out.1 b15)
    clear b15 H14
    go_wp2_with fail
    go_ret2
    exact ⟨rfl, H15.out⟩
end Go.Proofs.YtbidlkmagbjllaaGreatDoor.Nb

namespace Go.Proofs.YtbidlkmagbjllaaGreatDoor.Nb
open Go Go.RowKit

/-- the builder in block b, of a base B, holds these bytes -/
def Bld (w : World) (B b : Nat) (l : List UInt8) : Prop := Lib.IsBuilder 63 5 B b (Lib.byteCells l) w
theorem bat_below {w w' : World} {B b : Nat} {p : Value} {bs : List Value} (h : Lib.BuilderAt 63 5 B b p bs w) (k : Below w.heap.size w w') : Lib.BuilderAt 63 5 B b p bs w' := by
  have hl := h.lt
  obtain ⟨hB, v, hb, hown, hne⟩ := h
  exact ⟨hB, v, (k.block b hl).trans hb, hown.kept (row := none) ⟨k.os, k.tape, k.output, k.size, fun i hi _ => k.block i hi⟩ (Classical.em _), hne⟩
theorem Bld.below {w w' : World} {B b : Nat} {l : List UInt8} (h : Bld w B b l) (k : Below w.heap.size w w') : Bld w' B b l := by
  rcases h with h | h
  · exact .inl (bat_below h k)
  · exact .inr (bat_below h k)
theorem Bld.lt {w : World} {B b : Nat} {l : List UInt8} (h : Bld w B b l) : b < w.heap.size := by
  rcases h with h | h
  · exact h.lt
  · exact h.lt
theorem Bld.new (w : World) : Bld (w.alloc (.cells #[.pointer none, .slice none 0 0] 63)) w.heap.size w.heap.size [] := Lib.fresh_isBuilder _ _ w
theorem cells_app (l m : List UInt8) : Lib.byteCells l ++ Lib.byteCells m = Lib.byteCells (l ++ m) := by simp [Lib.byteCells]
/-- WriteByte, WriteString, String by the bytes -/
theorem wbyte (B b : Nat) (l : List UInt8) (c : UInt8) (w : World) (h : Bld w B b l) (hl : l.length ≤ 100000) (hB : B ≤ w.heap.size) (x : Int) (hx : x = (c.toNat : Int)) :
    Calls Tryz.prog 22 #[.pointer (some ⟨b, 0, none⟩), .int .u8 x] w fun e w' => e = .returned .nilIface ∧ Bld w' B b (l ++ [c]) ∧ Below B w w' := by
  subst hx
  refine (writeByte_any B b _ _ w h (by rw [Lib.byteCells_length]; omega) hB).mono ?_
  rintro e w' ⟨rfl, h1, h2⟩
  refine ⟨rfl, .inr ?_, h2⟩
  rw [← cells_app]
  exact h1
theorem wstring (B b : Nat) (l : List UInt8) (s : ByteArray) (w : World) (h : Bld w B b l) (hl : l.length ≤ 100000) (hs : s.size ≤ 1000000) (hB : B ≤ w.heap.size) :
    Calls Tryz.prog 23 #[.pointer (some ⟨b, 0, none⟩), .string s] w fun e w' => e = .returned (.tuple #[.int .i64 s.size, .nilIface]) ∧ Bld w' B b (l ++ s.data.toList) ∧ Below B w w' := by
  refine (writeString_any B b _ s w h (by rw [Lib.byteCells_length]; omega) hB).mono ?_
  rintro e w' ⟨rfl, h1, h2⟩
  refine ⟨rfl, .inr ?_, h2⟩
  rw [← cells_app]
  exact h1
theorem bstring (B b : Nat) (l : List UInt8) (w : World) (h : Bld w B b l) (hB : B ≤ w.heap.size) :
    Calls Tryz.prog 25 #[.pointer (some ⟨b, 0, none⟩)] w fun e w' => e = .returned (.string ⟨l.toArray⟩) ∧ Below B w w' := Tryz.Builder_String_any B b l w h hB

/-- the table of powers of 10 lies in its variable -/
def TabP (w : World) : Prop := Lib.TabIs Tryz.prog w "internal/strconv.uint64pow10" .u64 Lib.pow10Tab ∧ 1 < w.heap.size
theorem gPow : Tryz.prog.globalNamed "internal/strconv.uint64pow10" = some 1 := by kernel_rfl
theorem TabP.below {w w' : World} {B : Nat} (h : TabP w) (k : Below B w w') (hB : 1 < B) : TabP w' :=
  ⟨var?_below k gPow hB h.1, Nat.lt_of_lt_of_le h.2 k.size⟩
theorem below_grow (w : World) (k : Nat) (os : Array Obj) : Below w.heap.size w (Go.Sort.grow (w.drewN k) os) :=
  ⟨rfl, rfl, rfl, by show w.heap.size ≤ (w.heap ++ os).size; rw [Array.size_append]; omega, fun j hj => by
    show (w.heap ++ os)[j]? = w.heap[j]?
    rw [Array.getElem?_append_left hj]⟩
theorem itoa_any (n : Int) (w : World) (h0 : -9223372036854775808 ≤ n) (h1 : n ≤ 9223372036854775807) (hP : TabP w) :
    Calls Tryz.prog 30 #[.int .i64 n] w fun e w' => e = .returned (.string ⟨(Lib.itoa n).toArray⟩) ∧ Below w.heap.size w w' := by
  refine (Tryz.strconv_Itoa n h0 h1 w hP.1).mono ?_
  rintro e w' ⟨rfl, k, os, rfl⟩
  exact ⟨rfl, below_grow w k os⟩
theorem formatInt_any (n : Int) (w : World) (h0 : -9223372036854775808 ≤ n) (h1 : n ≤ 9223372036854775807) (hP : TabP w) :
    Calls Tryz.prog 24 #[.int .i64 n, .int .i64 10] w fun e w' => e = .returned (.string ⟨(Lib.itoa n).toArray⟩) ∧ Below w.heap.size w w' := by
  refine (Tryz.strconv_FormatInt_10 n h0 h1 w hP.1).mono ?_
  rintro e w' ⟨rfl, k, os, rfl⟩
  exact ⟨rfl, below_grow w k os⟩
end Go.Proofs.YtbidlkmagbjllaaGreatDoor.Nb
