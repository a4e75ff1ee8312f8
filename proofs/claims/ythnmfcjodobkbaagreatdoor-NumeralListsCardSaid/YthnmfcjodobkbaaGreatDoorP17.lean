/- E4 in one text. -/
import Derived.Test.YthnmfcjodobkbaaGreatDoorP06
import Derived.Test.YthnmfcjodobkbaaGreatDoorP16

namespace Go.Proofs.YthnmfcjodobkbaaGreatDoor.Nb
open Go Go.RowKit

theorem Kept.put2 {w w' : World} {z : Nat} (h : Kept w w' z) (neg : Bool) (v v' : Value) : Kept w (Nb.put2 w' z neg v v') z := by
  unfold Nb.put2 Nb.put
  exact (((h.setCell _).setCell _).setCell _).setCell _
theorem ISlot.kept {w w' : World} {b o c : Nat} (h : ISlot w b o) (k : Kept w w' c) (hne : b ≠ c) : ISlot w' b o := by
  obtain ⟨h1, ⟨neg, h2⟩, ⟨A, l, d, h3⟩, h4, h5⟩ := h
  exact ⟨Nat.lt_of_lt_of_le h1 k.size, ⟨neg, (k.cell (p := ⟨b, o, none⟩) h1 hne).trans h2⟩, ⟨A, l, d, (k.cell (p := ⟨b, o + 1, none⟩) h1 hne).trans h3⟩, (k.frozen (p := ⟨b, o, none⟩) h1 hne).trans h4, (k.frozen (p := ⟨b, o + 1, none⟩) h1 hne).trans h5⟩
theorem RSlot.kept {w w' : World} {b c : Nat} (h : RSlot w b) (k : Kept w w' c) (hne : b ≠ c) : RSlot w' b := ⟨h.1.kept k hne, h.2.kept k hne⟩

set_option maxRecDepth 8000 in
set_option maxHeartbeats 300000 in
theorem setint_kept (z b o n : Nat) (w : World) (h : RSlot w z) (hx : IntN w b o false n) (hne : b ≠ z) :
    Calls Tryz.prog 66 #[.pointer (some ⟨z, 0, none⟩), .pointer (some ⟨b, o, none⟩)] w fun e w' => e = .returned (.pointer (some ⟨z, 0, none⟩)) ∧ RatN w' z false n 1 ∧ RSlot w' z ∧ Below z w w' ∧ Kept w w' z := by
  obtain ⟨hb, h2, A, k, c, h3, h4⟩ := hx
  have HS := Lib.hid (fun (W : World) (hW : Below w.heap.size w W) => (show W.cell? ⟨b, o, none⟩ = some (.bool false) ∧ W.cell? ⟨b, o + 1, none⟩ = some (.slice A k c) from ⟨(hW.cell (p := ⟨b, o, none⟩) (by exact hb)).trans h2, (hW.cell (p := ⟨b, o + 1, none⟩) (by exact hb)).trans h3⟩))
  have HS2 := Lib.hid (fun (W : World) (hW : Below w.heap.size w W) (neg : Bool) (v v' : Value) => (show (put2 W z neg v v').cell? ⟨b, o, none⟩ = some (.bool false) ∧ (put2 W z neg v v').cell? ⟨b, o + 1, none⟩ = some (.slice A k c) from ⟨(put2_cell _ _ _ hne).trans (HS.out W hW).1, (put2_cell _ _ _ hne).trans (HS.out W hW).2⟩))
  have HC := Lib.hid (fun (W : World) (hW : Below w.heap.size w W) => clone_any _ n 1 W (h4.below hW) (by omega))
  have H := Lib.hid h
  have hz : z ≤ w.heap.size := Nat.le_of_lt h.1.1
  clear h4 h
  have hcur : Below w.heap.size w w.drew := (Below.refl _ _).drew
  go_enter Tryz.func66, Tryz.ntmps66
  go_wp2_with fail
  go_region_held3 (fun w' => w'.cell? ⟨b, o, none⟩ = some (.bool false) ∧ w'.cell? ⟨b, o + 1, none⟩ = some (.slice A k c)) (first | exact hk4 | exact HS.out _ (by first | exact hcur3 | exact hcur3.alloc hcur3.size _ | exact hcur | exact hcur.alloc hcur.size _)) (first | (go_at_call 113; refine (HC.out _ (by first | exact hcur | exact hcur.alloc hcur.size _)).mono ?_; rintro e w3 ⟨x, rfl, hm, hb3⟩; obtain ⟨A1, k1, c1, rfl⟩ := hm.slice; have hcur3 : Below w.heap.size w w3 := (by first | exact back_of' hcur hb3 | exact back_of' (hcur.alloc hcur.size (.cells #[.int .u64 1] 63)) hb3); (first | (have HA : Hid (Below w.drew.heap.size w.drew w3) := Lib.hid hb3) | (have HB : Hid (Below (w.drew.alloc (.cells #[.int .u64 1] 63)).heap.size (w.drew.alloc (.cells #[.int .u64 1] 63)) w3) := Lib.hid hb3)); have HM := Lib.hid hm; clear hm hb3) | (go_at_call 112; refine (raw_put z n false A1 _ k1 c1 1 1 _ (by first | exact H.out.below hcur3 (Nat.le_refl _) | exact H.out.below (hcur3.alloc hcur3.size _) (Nat.le_refl _)) (by first | exact HM.out | exact HM.out.below ((Below.refl _ _).alloc (Nat.le_refl _) _)) (by simp)).mono ?_; rintro e w4 ⟨rfl, hw4⟩; have hk4 : w4.cell? ⟨b, o, none⟩ = some (.bool false) ∧ w4.cell? ⟨b, o + 1, none⟩ = some (.slice A k c) := (by rw [hw4]; exact HS2.out _ (by first | exact hcur3 | exact hcur3.alloc hcur3.size _) _ _ _); have HW4 := Lib.hid hw4; clear hw4))
  all_goals go_wp2_with fail
  all_goals go_ret
  · have h := put2_wrote (neg := false) (H.out.below (hcur3.alloc hcur3.size (.cells #[.int .u64 1] 63)) (Nat.le_refl _)) (HM.out.below ((Below.refl _ _).alloc (Nat.le_refl _) (.cells #[.int .u64 1] 63))) (one_new w3 63) (by omega)
    have hw := HW4.out
    subst hw
    exact ⟨rfl, h.1, h.2.1, ((hcur3.alloc hcur3.size (.cells #[.int .u64 1] 63)).mono hz).trans h.2.2, (Kept.of_below (hcur3.alloc hcur3.size (.cells #[.int .u64 1] 63))).put2 _ _ _⟩
  · have h := put2_wrote (neg := false) (H.out.below hcur3 (Nat.le_refl _)) HM.out ((one_new w.drew 63).below HB.out) (by omega)
    have hw := HW4.out
    subst hw
    exact ⟨rfl, h.1, h.2.1, (hcur3.mono hz).trans h.2.2, (Kept.of_below hcur3).put2 _ _ _⟩

theorem ex_dig : decN (⟨#[55, 53, 48]⟩ : ByteArray).data.toList = 750 := by decide

set_option maxRecDepth 8000 in
set_option maxHeartbeats 2000000 in
theorem value_ex (w : World) : Calls Tryz.prog 34 #[.agg #[.bool false, .string ⟨#[55, 53, 48]⟩, .int .i64 (-2)]] w fun e w' => ∃ z, e = .returned (.tuple #[.pointer (some ⟨z, 0, none⟩), .bool true]) ∧ RatN w' z false 15 2 ∧ w.heap.size ≤ z ∧ Below w.heap.size w w' := by
  have HN0 := Lib.hid (setString_any (w.heap.size + 1) 0 ⟨#[55, 53, 48]⟩ ((w.alloc (.cells #[.bool false, .string ⟨#[55, 53, 48]⟩, .int .i64 (-2)] 71)).alloc (.cells #[.bool false, .slice none 0 0] 109)) (by have := ISlot.new (w.alloc (.cells #[.bool false, .string ⟨#[55, 53, 48]⟩, .int .i64 (-2)] 71)) 109; simpa using this) (by decide) (by decide) (by decide))
  rw [ex_dig] at HN0
  have hb0 : Below w.heap.size w ((w.alloc (.cells #[.bool false, .string ⟨#[55, 53, 48]⟩, .int .i64 (-2)] 71)).alloc (.cells #[.bool false, .slice none 0 0] 109)) := ((Below.refl _ _).alloc (Nat.le_refl _) _).alloc (by simp) _
  have c0 : ((w.alloc (.cells #[.bool false, .string ⟨#[55, 53, 48]⟩, .int .i64 (-2)] 71)).alloc (.cells #[.bool false, .slice none 0 0] 109)).cell? ⟨w.heap.size, 2, none⟩ = some (.int .i64 (-2)) := by simp [go_sem]
  have HB0 := Lib.hid (And.intro hb0 c0)
  clear hb0 c0
  go_enter Tryz.func34, Tryz.ntmps34
  go_wp2_with fail
  refine HN0.out.mono ?_
  rintro e W ⟨rfl, i1, s1, b1⟩
  have hc2 := (b1.cell (p := ⟨w.heap.size, 2, none⟩) (by show w.heap.size < w.heap.size + 1; omega)).trans HB0.out.2
  have hs : w.heap.size + 1 < W.heap.size := i1.1
  have HW := Lib.hid (HB0.out.1.trans (b1.mono (by omega)))
  have HN := Lib.hid i1
  clear i1 s1 b1 HN0 HB0
  go_wp2_with fail
  have hcur : Below W.heap.size W W.drew := (Below.refl _ _).drew
  have HS := Lib.hid (fun (V : World) (hV : Below W.heap.size W V) => (show V.cell? ⟨w.heap.size, 2, none⟩ = some (.int .i64 (-2)) from (hV.cell (p := ⟨w.heap.size, 2, none⟩) (by show w.heap.size < W.heap.size; omega)).trans hc2))
  have H1 : Hid (RSlot ((W.drew.alloc (.cells #[.bool false, .slice none 0 0, .bool false, .slice none 0 0] 111)).alloc (.cells #[.bool false, .slice none 0 0, .bool false, .slice none 0 0] 111)) (W.heap.size + 1)) := Lib.hid (by have := RSlot.new (W.drew.alloc (.cells #[.bool false, .slice none 0 0, .bool false, .slice none 0 0] 111)) 111; simpa using this)
  have H2 : Hid (RSlot ((W.drew.alloc (.cells #[.bool false, .slice none 0 0, .bool false, .slice none 0 0] 111)).alloc (.cells #[.bool false, .slice none 0 0, .bool false, .slice none 0 0] 111)) W.heap.size) := Lib.hid ((RSlot.new W.drew 111).below ((Below.refl _ _).alloc (Nat.le_refl _) _) (Nat.le_refl _))
  have H3 : Hid (RSlot (W.drew.alloc (.cells #[.bool false, .slice none 0 0, .bool false, .slice none 0 0] 111)) W.heap.size) := Lib.hid (RSlot.new W.drew 111)
  have HZ := Lib.hid hs
  go_region_held3 (fun w' => w'.cell? ⟨w.heap.size, 2, none⟩ = some (.int .i64 (-2))) (first | exact HS.out _ (by first | exact hcur6 | exact hcur5 | exact hcur5.alloc hcur5.size _ | exact hcur3 | exact hcur3.alloc hcur3.size _ | exact hcur | exact hcur.alloc hcur.size _ | exact (hcur.alloc hcur.size _).alloc (hcur.alloc hcur.size _).size _)) (first | (go_at_call 66; refine (setint_kept _ (w.heap.size + 1) 0 750 _ (by first | exact H3.out | exact H1.out | exact H2.out) (HN.out.below (by first | exact hcur.alloc hcur.size _ | exact (hcur.alloc hcur.size _).alloc (hcur.alloc hcur.size _).size _) (Nat.le_refl _)) (by have := HZ.out; omega)).mono ?_; rintro e w3 ⟨rfl, r3, s3, b3, k3⟩; have hcur3 : Below W.heap.size W w3 := (by first | exact (hcur.alloc hcur.size (.cells #[.bool false, .slice none 0 0, .bool false, .slice none 0 0] 111)).trans (b3.mono (by omega)) | exact ((hcur.alloc hcur.size (.cells #[.bool false, .slice none 0 0, .bool false, .slice none 0 0] 111)).alloc (hcur.alloc hcur.size (.cells #[.bool false, .slice none 0 0, .bool false, .slice none 0 0] 111)).size (.cells #[.bool false, .slice none 0 0, .bool false, .slice none 0 0] 111)).trans (b3.mono (by omega))); (first | (have HRa : Hid (RatN w3 W.heap.size false 750 1) := Lib.hid r3) | (have HRb : Hid (RatN w3 (W.heap.size + 1) false 750 1) := Lib.hid r3)); have HK := Lib.hid k3; clear r3 s3 b3 k3) | (go_at_call 67; refine (ten_neg 2 100 (-2) _ (by omega) (by omega) (by omega) (by decide) (by omega)).mono ?_; rintro e w5 ⟨b5, rfl, hb5, r5, s5, c5⟩; have hcur5 : Below W.heap.size W w5 := (by first | exact back_of' hcur3 c5 | exact back_of' (hcur3.alloc hcur3.size (.cells #[.bool false, .slice none 0 0, .bool false, .slice none 0 0] 111)) c5); (first | (have HRa5 := Lib.hid (HRa.out.below c5 (Nat.le_refl _))) | (have HRb5 := Lib.hid (HRb.out.below c5 (Nat.le_refl _))) | (have HRa5 := Lib.hid ((HRa.out.below ((Below.refl _ _).alloc (Nat.le_refl _) (.cells #[.bool false, .slice none 0 0, .bool false, .slice none 0 0] 111)) (Nat.le_refl _)).below c5 (Nat.le_refl _)))); have H5 := Lib.hid r5; have HC5 := Lib.hid c5; clear r5 s5 c5) | (go_at_call 65; refine (ratmul_any _ _ b5 750 1 1 100 15 2 _ (by first | exact (H2.out.kept HK.out (by omega)).below HC5.out (Nat.le_refl _) | exact (H1.out.kept HK.out (by omega)).below HC5.out (Nat.le_refl _) | exact (RSlot.new w3 111).below HC5.out (Nat.le_refl _) | exact RSlot.new w5 111) (by first | exact HRa5.out | exact HRb5.out | exact HRa5.out.below ((Below.refl _ _).alloc (Nat.le_refl _) _) (Nat.le_refl _)) (by first | exact H5.out | exact H5.out.below ((Below.refl _ _).alloc (Nat.le_refl _) _) (Nat.le_refl _)) (by decide) (by decide) (by omega) (by omega) (by omega)).mono ?_; rintro e w6 ⟨rfl, r6, s6, b6⟩; have hcur6 : Below W.heap.size W w6 := (by have z3 := hcur3.size; have z5 := hcur5.size; first | exact hcur5.trans (b6.mono (by omega)) | exact (hcur5.alloc hcur5.size (.cells #[.bool false, .slice none 0 0, .bool false, .slice none 0 0] 111)).trans (b6.mono (by omega))); have HF := Lib.hid r6; clear r6 s6 b6))
  all_goals go_wp2_with fail
  all_goals go_ret2
  all_goals exact ⟨_, rfl, HF.out, (by have z0 := HW.out.size; have z3 := hcur3.size; have z5 := hcur5.size; omega), back_of' HW.out hcur6⟩
end Go.Proofs.YthnmfcjodobkbaaGreatDoor.Nb
