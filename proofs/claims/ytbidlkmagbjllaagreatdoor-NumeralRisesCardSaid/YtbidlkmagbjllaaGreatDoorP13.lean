/- E3 Y18 Y21 E1 BN2 in one text. -/
import Derived.Test.YtbidlkmagbjllaaGreatDoorP05
import Derived.Test.YtbidlkmagbjllaaGreatDoorP12
import Derived.Test.YtbidlkmagbjllaaGreatDoorP06
import Derived.Lib.MakeNoZero
import Derived.Laws.Externs
import Derived.Test.YtbidlkmagbjllaaGreatDoorP11

namespace Go.Proofs.YtbidlkmagbjllaaGreatDoor.Nb
open Go Go.RowKit

def exS : ByteArray := ⟨#[48, 48, 55, 46, 53, 48, 101, 48, 48]⟩
theorem ex_d1 : ∀ i, i < 3 → 48 ≤ (exS.data.toList.getD (0 + i) 0).toNat ∧ (exS.data.toList.getD (0 + i) 0).toNat ≤ 57 := by decide
theorem ex_d2 : ∀ i, i < 2 → 48 ≤ (exS.data.toList.getD (4 + i) 0).toNat ∧ (exS.data.toList.getD (4 + i) 0).toNat ≤ 57 := by decide
theorem ex_d3 : ∀ i, i < 2 → 48 ≤ (exS.data.toList.getD (7 + i) 0).toNat ∧ (exS.data.toList.getD (7 + i) 0).toNat ≤ 57 := by decide
theorem ex_y1 : exS.extract 3 (3 + 1) = ⟨#[46]⟩ := by decide
theorem ex_y2 : exS.extract 6 (6 + 1) = ⟨#[101]⟩ := by decide
theorem ex_e1 : exS.extract 0 (0 + 3) = ⟨#[48, 48, 55]⟩ := by decide
theorem ex_e2 : exS.extract 4 (4 + 2) = ⟨#[53, 48]⟩ := by decide
theorem ex_e3 : exS.extract 7 (7 + 2) = ⟨#[48, 48]⟩ := by decide
theorem ex_n1 : ¬ (0 + (⟨#[45]⟩ : ByteArray).size ≤ exS.size ∧ (exS.extract 0 (0 + (⟨#[45]⟩ : ByteArray).size)).toList = (⟨#[45]⟩ : ByteArray).toList) := by
  rw [Lib.toList_data, Lib.toList_data]; decide
theorem ex_n2 : ¬ (7 + (⟨#[45]⟩ : ByteArray).size ≤ exS.size ∧ (exS.extract 7 (7 + (⟨#[45]⟩ : ByteArray).size)).toList = (⟨#[45]⟩ : ByteArray).toList) := by
  rw [Lib.toList_data, Lib.toList_data]; decide
theorem ex_t1 : (⟨(Lib.trimLeftB (⟨#[48, 48]⟩ : ByteArray).data.toList 48).toArray⟩ : ByteArray) = ⟨#[]⟩ := by decide
theorem ex_t2 : (⟨(Lib.trimLeftB (⟨#[48, 48, 55, 53, 48]⟩ : ByteArray).data.toList 48).toArray⟩ : ByteArray) = ⟨#[55, 53, 48]⟩ := by decide
theorem ex_a : Lib.atoi (⟨#[48]⟩ : ByteArray).data.toList = some 0 := by decide
theorem ex_idx : ∀ W, (Instr.index 9 (.string exS) (.int .i64 8)).run Tryz.prog W = .ok (.int .u8 48) W := by
  intro W
  rw [run_index_string W 9 exS .i64 8 (by kernel_rfl), dif_pos (by decide)]
  rfl
/-- a decimal lies in block b -/
def DecAt (w : World) (b : Nat) (v0 v1 v2 : Value) : Prop :=
  b < w.heap.size ∧ w.cell? ⟨b, 0, none⟩ = some v0 ∧ w.cell? ⟨b, 1, none⟩ = some v1 ∧ w.cell? ⟨b, 2, none⟩ = some v2 ∧ w.frozen? ⟨b, 0, none⟩ = false ∧ w.frozen? ⟨b, 1, none⟩ = false ∧ w.frozen? ⟨b, 2, none⟩ = false
theorem DecAt.kept {w w' : World} {b c : Nat} {v0 v1 v2 : Value} (h : DecAt w b v0 v1 v2) (k : Kept w w' c) (hne : b ≠ c) : DecAt w' b v0 v1 v2 := by
  obtain ⟨h1, h2, h3, h4, h5, h6, h7⟩ := h
  exact ⟨Nat.lt_of_lt_of_le h1 k.size, (k.cell (p := ⟨b, 0, none⟩) h1 hne).trans h2, (k.cell (p := ⟨b, 1, none⟩) h1 hne).trans h3, (k.cell (p := ⟨b, 2, none⟩) h1 hne).trans h4, (k.frozen (p := ⟨b, 0, none⟩) h1 hne).trans h5, (k.frozen (p := ⟨b, 1, none⟩) h1 hne).trans h6, (k.frozen (p := ⟨b, 2, none⟩) h1 hne).trans h7⟩
theorem DecAt.set1 {w : World} {b : Nat} {v0 v1 v2 : Value} (h : DecAt w b v0 v1 v2) (v : Value) : DecAt (w.setCell ⟨b, 1, none⟩ v) b v0 v v2 := by
  obtain ⟨h1, h2, h3, h4, h5, h6, h7⟩ := h
  refine ⟨by simpa [World.setCell] using h1, ?_, ?_, ?_, ?_, ?_, ?_⟩ <;> simp [go_sem, h2, h3, h4, h5, h6, h7]
theorem DecAt.set2 {w : World} {b : Nat} {v0 v1 v2 : Value} (h : DecAt w b v0 v1 v2) (v : Value) : DecAt (w.setCell ⟨b, 2, none⟩ v) b v0 v1 v := by
  obtain ⟨h1, h2, h3, h4, h5, h6, h7⟩ := h
  refine ⟨by simpa [World.setCell] using h1, ?_, ?_, ?_, ?_, ?_, ?_⟩ <;> simp [go_sem, h2, h3, h4, h5, h6, h7]
theorem DecAt.new (w : World) (v0 v1 v2 : Value) (t : TypeId) : DecAt (w.alloc (.cells #[v0, v1, v2] t)) w.heap.size v0 v1 v2 :=
  ⟨by simp, by simp [go_sem], by simp [go_sem], by simp [go_sem], by simp [go_sem], by simp [go_sem], by simp [go_sem]⟩
theorem CurAt.kept {w w' : World} {b c k : Nat} {s : ByteArray} (h : CurAt w b s k) (q : Kept w w' c) (hne : b ≠ c) : CurAt w' b s k := by
  obtain ⟨h1, h2, h3, h4⟩ := h
  exact ⟨Nat.lt_of_lt_of_le h1 q.size, (q.cell (p := ⟨b, 0, none⟩) h1 hne).trans h2, (q.cell (p := ⟨b, 1, none⟩) h1 hne).trans h3, (q.frozen (p := ⟨b, 1, none⟩) h1 hne).trans h4⟩
theorem below_bytes (w : World) (e : TypeId) (s : ByteArray) : Below w.heap.size w (Lib.bytesWorld w e s) :=
  ⟨rfl, rfl, rfl, by rw [Lib.bytesWorld_size]; omega, fun k hk => Lib.bytesWorld_at_old w e s k hk⟩

/-- the place and the decimals side by side -/
structure Und (w : World) (W : World) (k : Nat) (v1 v2 : Value) : Prop where
  c : CurAt W (w.heap.size + 1) exS k
  r : DecAt W w.heap.size (.bool false) (.string ⟨#[]⟩) (.int .i64 0)
  d : DecAt W (w.heap.size + 2) (.bool false) v1 v2
  b : Below w.heap.size w W
theorem Und.move {w W W' : World} {k k' : Nat} {v1 v2 : Value} (h : Und w W k v1 v2) (q : Kept W W' (w.heap.size + 1)) (c : CurAt W' (w.heap.size + 1) exS k') (b : Below (w.heap.size + 1) W W') : Und w W' k' v1 v2 :=
  ⟨c, h.r.kept q (by omega), h.d.kept q (by omega), h.b.trans (b.mono (by omega))⟩
theorem Und.quiet {w W W' : World} {k : Nat} {v1 v2 : Value} (h : Und w W k v1 v2) (b : Below W.heap.size W W') : Und w W' k v1 v2 :=
  ⟨h.c.below b (Nat.le_refl _), h.r.kept (Kept.of_below b) (c := W.heap.size) (Nat.ne_of_lt h.r.1), h.d.kept (Kept.of_below b) (c := W.heap.size) (Nat.ne_of_lt h.d.1), h.b.trans (b.mono h.b.size)⟩
theorem Und.set1 {w W : World} {k : Nat} {v1 v2 : Value} (h : Und w W k v1 v2) (v : Value) : Und w (W.setCell ⟨w.heap.size + 2, 1, none⟩ v) k v v2 :=
  ⟨h.c.kept ((Kept.refl W (w.heap.size + 2)).setCell v) (by omega), h.r.kept ((Kept.refl W (w.heap.size + 2)).setCell (o := 1) v) (by omega), h.d.set1 v, h.b.setCell (p := ⟨w.heap.size + 2, 1, none⟩) (by show w.heap.size ≤ w.heap.size + 2; omega) v⟩
theorem Und.set2 {w W : World} {k : Nat} {v1 v2 : Value} (h : Und w W k v1 v2) (v : Value) : Und w (W.setCell ⟨w.heap.size + 2, 2, none⟩ v) k v1 v :=
  ⟨h.c.kept ((Kept.refl W (w.heap.size + 2)).setCell v) (by omega), h.r.kept ((Kept.refl W (w.heap.size + 2)).setCell (o := 2) v) (by omega), h.d.set2 v, h.b.setCell (p := ⟨w.heap.size + 2, 2, none⟩) (by show w.heap.size ≤ w.heap.size + 2; omega) v⟩

set_option maxRecDepth 8000 in
set_option maxHeartbeats 4000000 in
theorem undecimal_ex (w : World) : Calls Tryz.prog 14 #[.string exS] w fun e w' => e = .returned (.tuple #[.agg #[.bool false, .string ⟨#[55, 53, 48]⟩, .int .i64 (-2)], .bool true]) ∧ Below w.heap.size w w' := by
  have HC0 := Lib.hid (show CurAt ((w.alloc (.cells #[.bool false, .string ⟨#[]⟩, .int .i64 0] 46)).alloc (.cells #[.string exS, .int .i64 0] 96)) (w.heap.size + 1) exS 0 ∧ DecAt ((w.alloc (.cells #[.bool false, .string ⟨#[]⟩, .int .i64 0] 46)).alloc (.cells #[.string exS, .int .i64 0] 96)) w.heap.size (.bool false) (.string ⟨#[]⟩) (.int .i64 0) ∧ Below w.heap.size w ((w.alloc (.cells #[.bool false, .string ⟨#[]⟩, .int .i64 0] 46)).alloc (.cells #[.string exS, .int .i64 0] 96)) ∧ ((w.alloc (.cells #[.bool false, .string ⟨#[]⟩, .int .i64 0] 46)).alloc (.cells #[.string exS, .int .i64 0] 96)).heap.size = w.heap.size + 2 from by
    refine ⟨⟨by simp, by simp [go_sem], by simp [go_sem], by simp [go_sem]⟩, ⟨by simp; omega, by simp [go_sem], by simp [go_sem], by simp [go_sem], by simp [go_sem], by simp [go_sem], by simp [go_sem]⟩, ?_, by simp⟩
    have h1 := (Below.refl w.heap.size w).alloc (Nat.le_refl _) (.cells #[.bool false, .string ⟨#[]⟩, .int .i64 0] 46)
    exact h1.alloc h1.size _)
  go_enter Tryz.func14, Tryz.ntmps14
  go_wp2_with fail
  obtain ⟨W0, hW0⟩ : ∃ W0, (w.alloc (.cells #[.bool false, .string ⟨#[]⟩, .int .i64 0] 46)).alloc (.cells #[.string exS, .int .i64 0] 96) = W0 := ⟨_, rfl⟩
  rw [hW0] at HC0
  rw [hW0]
  clear hW0
  refine (take_no (w.heap.size + 1) 0 exS ⟨#[45]⟩ W0 HC0.out.1 (by decide) ex_n1).mono ?_
  rintro e w1 ⟨rfl, n1, rfl⟩
  have hsz := HC0.out.2.2.2
  go_wp2_with fail
  have HU0 : Hid (Und w ((W0.drewN n1).alloc (.cells #[.bool false, .string ⟨#[]⟩, .int .i64 0] 46)) 0 (.string ⟨#[]⟩) (.int .i64 0)) := Lib.hid (by
    have hb : Below (W0.drewN n1).heap.size (W0.drewN n1) ((W0.drewN n1).alloc (.cells #[.bool false, .string ⟨#[]⟩, .int .i64 0] 46)) := (Below.refl _ _).alloc (Nat.le_refl _) _
    have hd := DecAt.new (W0.drewN n1) (.bool false) (.string ⟨#[]⟩) (.int .i64 0) 46
    have e : (W0.drewN n1).heap.size = w.heap.size + 2 := hsz
    rw [e] at hd
    exact ⟨(show CurAt (W0.drewN n1) _ _ _ from HC0.out.1).below hb (Nat.le_refl _), (show DecAt (W0.drewN n1) _ _ _ _ from HC0.out.2.1).kept (c := w.heap.size + 5) (Kept.of_below hb) (by omega), hd, (below_dr HC0.out.2.2.1 n1).trans (hb.mono (by omega))⟩)
  clear HC0 hsz
  generalize (W0.drewN n1).alloc (.cells #[.bool false, .string ⟨#[]⟩, .int .i64 0] 46) = W1 at *
  refine (digits_any (w.heap.size + 1) 0 3 exS W1 HU0.out.c (by decide) (by decide) ex_d1 (.inr (.inl (by decide)))).mono ?_
  rw [ex_e1]
  rintro e W2 ⟨rfl, c2, b2, k2⟩
  have HU := Lib.hid (HU0.out.move k2 c2 b2)
  clear HU0 c2 b2 k2
  obtain ⟨-, d0, d1, d2, f0, f1, f2⟩ := id HU.out.d
  go_wp2_with fail
  have HU := Lib.hid (HU.out.set1 (.string ⟨#[48, 48, 55]⟩))
  clear d0 d1 d2 f0 f1 f2
  generalize W2.setCell ⟨w.heap.size + 2, 1, none⟩ (.string ⟨#[48, 48, 55]⟩) = W3 at *
  refine (take_yes (w.heap.size + 1) 3 exS ⟨#[46]⟩ W3 HU.out.c (by decide) (by decide) ex_y1).mono ?_
  rintro e W4 ⟨rfl, c4, b4, k4⟩
  have HU := Lib.hid (HU.out.move k4 c4 b4)
  clear c4 b4 k4
  go_wp2_with fail
  refine (digits_any (w.heap.size + 1) 4 2 exS W4 HU.out.c (by decide) (by decide) ex_d2 (.inr (.inr (by decide)))).mono ?_
  rw [ex_e2]
  rintro e W5 ⟨rfl, c5, b5, k5⟩
  have HU := Lib.hid (HU.out.move k5 c5 b5)
  clear c5 b5 k5
  obtain ⟨-, d0, d1, d2, f0, f1, f2⟩ := id HU.out.d
  go_wp2_with fail
  rw [show ((⟨#[48, 48, 55]⟩ : ByteArray) ++ (⟨#[53, 48]⟩ : ByteArray)) = ⟨#[48, 48, 55, 53, 48]⟩ from by decide]
  have HU := Lib.hid ((HU.out.set1 (.string ⟨#[48, 48, 55, 53, 48]⟩)).set2 (.int .i64 (-2)))
  clear d0 d1 d2 f0 f1 f2
  generalize (W5.setCell ⟨w.heap.size + 2, 1, none⟩ (.string ⟨#[48, 48, 55, 53, 48]⟩)).setCell ⟨w.heap.size + 2, 2, none⟩ (.int .i64 (-2)) = W6 at *
  refine (take_yes (w.heap.size + 1) 6 exS ⟨#[101]⟩ W6 HU.out.c (by decide) (by decide) ex_y2).mono ?_
  rintro e W7 ⟨rfl, c7, b7, k7⟩
  have HU := Lib.hid (HU.out.move k7 c7 b7)
  clear c7 b7 k7
  go_wp2_with fail
  refine (take_no (w.heap.size + 1) 7 exS ⟨#[45]⟩ W7 HU.out.c (by decide) ex_n2).mono ?_
  rintro e w1 ⟨rfl, n8, rfl⟩
  have HU := Lib.hid (HU.out.quiet (below_dr (Below.refl _ _) n8))
  go_wp2_with fail
  refine (digits_any (w.heap.size + 1) 7 2 exS _ HU.out.c (by decide) (by decide) ex_d3 (.inl (by decide))).mono ?_
  rw [ex_e3]
  rintro e W9 ⟨rfl, c9, b9, k9⟩
  have HU := Lib.hid (HU.out.move k9 c9 b9)
  clear c9 b9 k9
  go_wp2_with fail
  refine (Tryz.strings_TrimLeft_one ⟨#[48, 48]⟩ 48 (by decide) W9).mono ?_
  rw [ex_t1]
  rintro e w1 ⟨rfl, hw⟩
  obtain rfl := hw.symm
  obtain ⟨-, a0, a1', -⟩ := id HU.out.c
  have a1 : W9.cell? ⟨w.heap.size + 1, 1, none⟩ = some (.int .i64 9) := a1'
  have hidx := ex_idx
  clear a1'
  go_wp2_with fail
  go_quiet (fail)
  go_wp2_with fail
  rw [show ((⟨#[48]⟩ : ByteArray) ++ (⟨#[]⟩ : ByteArray)) = ⟨#[48]⟩ from by decide]
  have HU := Lib.hid (HU.out.quiet (below_dr (Below.refl _ _) nq))
  clear a0 a1 hidx
  refine (Tryz.strconv_Atoi ⟨#[48]⟩ 0 (by decide) ex_a (W9.drewN nq)).mono ?_
  rintro e W11 ⟨rfl, t, hw⟩
  have HU : Hid (Und w W11 (7 + 2) (.string ⟨#[48, 48, 55, 53, 48]⟩) (.int .i64 (-2))) := Lib.hid (by rw [hw]; exact HU.out.quiet (below_bytes _ _ _))
  clear hw
  obtain ⟨-, d0, d1, d2, f0, f1, f2⟩ := id HU.out.d
  go_wp2_with fail
  have HU := Lib.hid (HU.out.set2 (.int .i64 (-2)))
  clear d0 d1 d2 f0 f1 f2
  generalize W11.setCell ⟨w.heap.size + 2, 2, none⟩ (.int .i64 (-2)) = W12 at *
  refine (Tryz.strings_TrimLeft_one ⟨#[48, 48, 55, 53, 48]⟩ 48 (by decide) W12).mono ?_
  rw [ex_t2]
  rintro e w1 ⟨rfl, hw⟩
  obtain rfl := hw.symm
  obtain ⟨-, d0, d1, d2, f0, f1, f2⟩ := id HU.out.d
  go_wp2_with fail
  have HU := Lib.hid (HU.out.set1 (.string ⟨#[55, 53, 48]⟩))
  clear d0 d1 d2 f0 f1 f2
  generalize W12.setCell ⟨w.heap.size + 2, 1, none⟩ (.string ⟨#[55, 53, 48]⟩) = W13 at *
  obtain ⟨-, d0, d1, d2, -, -, -⟩ := id HU.out.d
  obtain ⟨-, r0, r1, r2, q0, q1, q2⟩ := id HU.out.r
  go_region_with (first | (go_at_call 47; refine (end_any (w.heap.size + 1) 9 exS _ (show CurAt W13.drew (w.heap.size + 1) exS 9 from HU.out.c) true (by decide)).mono ?_; rintro e w5 ⟨rfl, n5, rfl⟩) | fail)
  all_goals go_wp2_with fail
  all_goals exact bodyPost_ret (by simp [results, Tryz.results14, go_sem, r0, r1, r2]) rfl ⟨rfl, (((below_dr HU.out.b _).setCell (p := ⟨w.heap.size, 0, none⟩) (Nat.le_refl _) _).setCell (p := ⟨w.heap.size, 1, none⟩) (Nat.le_refl _) _).setCell (p := ⟨w.heap.size, 2, none⟩) (Nat.le_refl _) _⟩
end Go.Proofs.YtbidlkmagbjllaaGreatDoor.Nb

namespace Go.Proofs.YtbidlkmagbjllaaGreatDoor.Nb
open Go Go.RowKit

theorem back_of {w w1 w2 : World} (h : Below w.heap.size w w1) (h2 : Below w1.heap.size w1 w2) : Below w.heap.size w w2 := h.trans (h2.mono h.size)

set_option maxRecDepth 8000 in
set_option maxHeartbeats 1000000 in
theorem setString_any (b o : Nat) (s : ByteArray) (w : World) (h : ISlot w b o) (h0 : 0 < s.size) (hs : s.size ≤ 18) (hd : ∀ b ∈ s.data.toList, 48 ≤ b.toNat ∧ b.toNat ≤ 57) :
    Calls Tryz.prog 48 #[.pointer (some ⟨b, o, none⟩), .string s, .int .i64 10] w fun e w' => e = .returned (.tuple #[.pointer (some ⟨b, o, none⟩), .bool true]) ∧ IntN w' b o false (decN s.data.toList) ∧ ISlot w' b o ∧ Below b w w' := by
  have HR := Lib.hid (read_digits s w h0 hs hd)
  have H := Lib.hid h
  have hne : s.toList.isEmpty = false := by
    rw [Lib.toList_data]
    have h1 : s.data.toList.length = s.size := by simp
    match hq : s.data.toList with
    | [] => rw [hq] at h1; simp at h1; omega
    | _ :: _ => rfl
  have hd0 := hd s[0] (by simp [ByteArray.getElem_eq_getElem_data])
  have hd1 : ((s[0].toNat : Int) == 45) = false := by simp; omega
  clear h hd hd0
  go_enter Tryz.func48, Tryz.ntmps48
  go_wp2_with fail
  refine HR.out.mono ?_
  rintro e w1 ⟨v, rfl, hm, hb⟩
  obtain ⟨A, k, c, rfl⟩ := hm.slice
  have HM := Lib.hid (made_num b o _ false A k c w1 (H.out.below hb (Nat.le_refl _)) hm (by simp))
  have HB := Lib.hid (hb.mono (Nat.le_of_lt H.out.1))
  clear hm hb
  go_wp2_with fail
  refine HM.out.mono ?_
  rintro e w2 ⟨rfl, h1, h2, h3⟩
  have HF := Lib.hid (And.intro h1 (And.intro h2 (HB.out.trans h3)))
  clear h1 h2 h3
  go_wp2_with fail
  go_ret2
  exact ⟨rfl, HF.out⟩
set_option maxRecDepth 8000 in
set_option maxHeartbeats 1000000 in
theorem exp_any (z zo b o m b' o' n : Nat) (w : World) (h : ISlot w z zo) (hx : IntN w b o false m) (hy : IntN w b' o' false n) (hm : 0 < m) (hT : m ^ n < 18446744073709551616) (hz : b ≠ z) (hz' : b' ≠ z) :
    Calls Tryz.prog 158 #[.pointer (some ⟨z, zo, none⟩), .pointer (some ⟨b, o, none⟩), .pointer (some ⟨b', o', none⟩), .pointer none] w (Wrote1 w z zo false (m ^ n)) := by
  obtain ⟨hb, h2, A, k, c, h3, h4⟩ := hx
  obtain ⟨hb', h2', A', k', c', h3', h4'⟩ := hy
  have HLO := Lib.hid (fun W (hW : Below w.heap.size w W) => low_one _ n W (h4'.below hW))
  have HP := Lib.hid (fun W (hW : Below w.heap.size w W) => power_one _ m n W (h4.below hW) hm (one_lt h4') hT)
  have H := Lib.hid h
  obtain ⟨T, hTe⟩ : ∃ T, m ^ n = T := ⟨_, rfl⟩
  rw [hTe] at HP hT ⊢
  clear h h4 h4' hTe hm hT
  go_enter Tryz.func158, Tryz.ntmps158
  go_wp2_with fail
  have hcur : Below w.heap.size w w.drew := (Below.refl _ _).drew
  have HS := Lib.hid (fun (W : World) (hW : Below w.heap.size w W) => (show W.cell? ⟨b, o, none⟩ = some (.bool false) ∧ W.cell? ⟨b, o + 1, none⟩ = some (.slice A k c) ∧ W.cell? ⟨b', o' + 1, none⟩ = some (.slice A' k' c') from ⟨(hW.cell (p := ⟨b, o, none⟩) (by exact hb)).trans h2, (hW.cell (p := ⟨b, o + 1, none⟩) (by exact hb)).trans h3, (hW.cell (p := ⟨b', o' + 1, none⟩) (by exact hb')).trans h3'⟩))
  have HS2 := Lib.hid (fun (W : World) (hW : Below w.heap.size w W) (neg : Bool) (v : Value) => (show (put W z zo neg v).cell? ⟨b, o, none⟩ = some (.bool false) ∧ (put W z zo neg v).cell? ⟨b, o + 1, none⟩ = some (.slice A k c) ∧ (put W z zo neg v).cell? ⟨b', o' + 1, none⟩ = some (.slice A' k' c') from ⟨(put_cell _ _ (.inl hz)).trans (HS.out W hW).1, (put_cell _ _ (.inl hz)).trans (HS.out W hW).2.1, (put_cell _ _ (.inl hz')).trans (HS.out W hW).2.2⟩))
  refine wp_region_held_drew (S := (fun w' => w'.cell? ⟨b, o, none⟩ = some (.bool false) ∧ w'.cell? ⟨b, o + 1, none⟩ = some (.slice A k c) ∧ w'.cell? ⟨b', o' + 1, none⟩ = some (.slice A' k' c'))) (by kernel_rfl) (HS.out _ hcur) (fun hHeld => ?_)
  show wpAnyH _ _ _ _ _ (21 + 1) _ _ _
  refine wpAnyH_take (i := 0) (oi := _) (v := ?v0) rfl (by kernel_rfl) (by kernel_rfl) (by kernel_rfl) (fun _ _ _ h => h) (Or.inl ⟨by rfl, ?hy0⟩) (by assumption) ?rest0
  case hy0 => (intro w hSw; (try dsimp only at hSw); go_simp; try with_reducible rfl)
  try simp only [Act.put, List.getElem_toArray, List.getElem_cons_zero, List.setIfInBounds_toArray, List.set_cons_zero, List.set_cons_succ]
  show wpAnyH _ _ _ _ _ (20 + 1) _ _ _
  refine wpAnyH_take (i := 1) (oi := _) (v := ?v1) rfl (by kernel_rfl) (by kernel_rfl) (by kernel_rfl) (fun _ _ _ h => h) (Or.inl ⟨by rfl, ?hy1⟩) (by assumption) ?rest1
  case hy1 => (intro w hSw; (try dsimp only at hSw); go_simp; try with_reducible rfl)
  try simp only [Act.put, List.getElem_toArray, List.getElem_cons_zero, List.getElem_cons_succ, List.setIfInBounds_toArray, List.set_cons_zero, List.set_cons_succ]
  show wpAnyH _ _ _ _ _ (19 + 1) _ _ _
  refine wpAnyH_take (i := 2) (oi := _) (v := ?v2) rfl (by kernel_rfl) (by kernel_rfl) (by kernel_rfl) (fun _ _ _ h => h) (Or.inl ⟨by rfl, ?hy2⟩) (by assumption) ?rest2
  case hy2 => (intro w hSw; (try dsimp only at hSw); go_simp; try with_reducible rfl)
  try simp only [Act.put, List.getElem_toArray, List.getElem_cons_zero, List.getElem_cons_succ, List.setIfInBounds_toArray, List.set_cons_zero, List.set_cons_succ]
  show wpAnyH _ _ _ _ _ (18 + 1) _ _ _
  refine wpAnyH_take (i := 3) (oi := _) (v := ?v3) rfl (by kernel_rfl) (by kernel_rfl) (by kernel_rfl) (fun _ _ _ h => h) (Or.inl ⟨by rfl, ?hy3⟩) (by assumption) ?rest3
  case hy3 => (intro w hSw; (try dsimp only at hSw); go_simp; try with_reducible rfl)
  try simp only [Act.put, List.getElem_toArray, List.getElem_cons_zero, List.getElem_cons_succ, List.setIfInBounds_toArray, List.set_cons_zero, List.set_cons_succ]
  show wpAnyH _ _ _ _ _ (17 + 1) _ _ _
  refine wpAnyH_take (i := 4) (oi := _) (v := ?v4) rfl (by kernel_rfl) (by kernel_rfl) (by kernel_rfl) (fun _ _ _ h => h) (Or.inl ⟨by rfl, ?hy4⟩) (by assumption) ?rest4
  case hy4 => (intro w hSw; (try dsimp only at hSw); go_simp; try with_reducible rfl)
  try simp only [Act.put, List.getElem_toArray, List.getElem_cons_zero, List.getElem_cons_succ, List.setIfInBounds_toArray, List.set_cons_zero, List.set_cons_succ]
  show wpAnyH _ _ _ _ _ (16 + 1) _ _ _
  refine wpAnyH_take (i := 5) (oi := _) (v := ?v5) rfl (by kernel_rfl) (by kernel_rfl) (by kernel_rfl) (fun _ _ _ h => h) (Or.inl ⟨by rfl, ?hy5⟩) (by assumption) ?rest5
  case hy5 => (intro w hSw; (try dsimp only at hSw); go_simp; try with_reducible rfl)
  try simp only [Act.put, List.getElem_toArray, List.getElem_cons_zero, List.getElem_cons_succ, List.setIfInBounds_toArray, List.set_cons_zero, List.set_cons_succ]
  show wpAnyH _ _ _ _ _ (15 + 1) _ _ _
  refine wpAnyH_take (i := 6) (oi := _) (v := undef) rfl (by kernel_rfl) (by kernel_rfl) (by kernel_rfl) (fun _ _ _ h => h) (Or.inr ⟨by rfl, rfl⟩) (by assumption) ?_
  try simp only [Act.put, List.getElem_toArray, List.getElem_cons_zero, List.getElem_cons_succ, List.setIfInBounds_toArray, List.set_cons_zero, List.set_cons_succ]
  show wpAnyH _ _ _ _ _ (14 + 1) _ _ _
  refine wpAnyH_take (i := 7) (oi := _) (v := undef) rfl (by kernel_rfl) (by kernel_rfl) (by kernel_rfl) (fun _ _ _ h => h) (Or.inr ⟨by rfl, rfl⟩) (by assumption) ?_
  try simp only [Act.put, List.getElem_toArray, List.getElem_cons_zero, List.getElem_cons_succ, List.setIfInBounds_toArray, List.set_cons_zero, List.set_cons_succ]
  show wpAnyH _ _ _ _ _ (13 + 1) _ _ _
  refine wpAnyH_take (i := 8) (oi := _) (v := undef) rfl (by kernel_rfl) (by kernel_rfl) (by kernel_rfl) (fun _ _ _ h => h) (Or.inr ⟨by rfl, rfl⟩) (by assumption) ?_
  try simp only [Act.put, List.getElem_toArray, List.getElem_cons_zero, List.getElem_cons_succ, List.setIfInBounds_toArray, List.set_cons_zero, List.set_cons_succ]
  show wpAnyH _ _ _ _ _ (12 + 1) _ _ _
  refine wpAnyH_take (i := 9) (oi := _) (v := ?v9) rfl (by kernel_rfl) (by kernel_rfl) (by kernel_rfl) (fun _ _ _ h => h) (Or.inl ⟨by rfl, ?hy9⟩) (by assumption) ?rest9
  case hy9 => (intro w hSw; (try dsimp only at hSw); go_simp; try with_reducible rfl)
  try simp only [Act.put, List.getElem_toArray, List.getElem_cons_zero, List.getElem_cons_succ, List.setIfInBounds_toArray, List.set_cons_zero, List.set_cons_succ]
  show wpAnyH _ _ _ _ _ (11 + 1) _ _ _
  refine wpAnyH_take (i := 10) (oi := _) (v := ?v10) rfl (by kernel_rfl) (by kernel_rfl) (by kernel_rfl) (fun _ _ _ h => h) (Or.inl ⟨by rfl, ?hy10⟩) (by assumption) ?rest10
  case hy10 => (intro w hSw; (try dsimp only at hSw); go_simp; try with_reducible rfl)
  try simp only [Act.put, List.getElem_toArray, List.getElem_cons_zero, List.getElem_cons_succ, List.setIfInBounds_toArray, List.set_cons_zero, List.set_cons_succ]
  show wpAnyH _ _ _ _ _ (10 + 1) _ _ _
  refine wpAnyH_take (i := 11) (oi := _) (v := ?v11) rfl (by kernel_rfl) (by kernel_rfl) (by kernel_rfl) (fun _ _ _ h => h) (Or.inl ⟨by rfl, ?hy11⟩) (by assumption) ?rest11
  case hy11 => (intro w hSw; (try dsimp only at hSw); go_simp; try with_reducible rfl)
  try simp only [Act.put, List.getElem_toArray, List.getElem_cons_zero, List.getElem_cons_succ, List.setIfInBounds_toArray, List.set_cons_zero, List.set_cons_succ]
  show wpAnyH _ _ _ _ _ (9 + 1) _ _ _
  refine wpAnyH_take (i := 12) (oi := _) (v := ?v12) rfl (by kernel_rfl) (by kernel_rfl) (by kernel_rfl) (fun _ _ _ h => h) (Or.inl ⟨by rfl, ?hy12⟩) (by assumption) ?rest12
  case hy12 => (intro w hSw; (try dsimp only at hSw); go_simp; try with_reducible rfl)
  try simp only [Act.put, List.getElem_toArray, List.getElem_cons_zero, List.getElem_cons_succ, List.setIfInBounds_toArray, List.set_cons_zero, List.set_cons_succ]
  show wpAnyH _ _ _ _ _ (8 + 1) _ _ _
  refine wpAnyH_take (i := 13) (oi := _) (v := ?v13) rfl (by kernel_rfl) (by kernel_rfl) (by kernel_rfl) (fun _ _ _ h => h) (Or.inl ⟨by rfl, ?hy13⟩) (by assumption) ?rest13
  case hy13 => (intro w hSw; (try dsimp only at hSw); go_simp; try with_reducible rfl)
  try simp only [Act.put, List.getElem_toArray, List.getElem_cons_zero, List.getElem_cons_succ, List.setIfInBounds_toArray, List.set_cons_zero, List.set_cons_succ]
  show wpAnyH _ _ _ _ _ (7 + 1) _ _ _
  refine wpAnyH_take (i := 14) (oi := _) (v := ?v14) rfl (by kernel_rfl) (by kernel_rfl) (by kernel_rfl) (fun _ _ _ h => h) (Or.inl ⟨by rfl, ?hy14⟩) (by assumption) ?rest14
  case hy14 => (intro w hSw; (try dsimp only at hSw); go_simp; try with_reducible rfl)
  try simp only [Act.put, List.getElem_toArray, List.getElem_cons_zero, List.getElem_cons_succ, List.setIfInBounds_toArray, List.set_cons_zero, List.set_cons_succ]
  show wpAnyH _ _ _ _ _ (6 + 1) _ _ _
  refine wpAnyH_take (i := 15) (oi := _) (v := ?v15) rfl (by kernel_rfl) (by kernel_rfl) (by kernel_rfl) (fun _ _ _ h => h) (Or.inl ⟨by rfl, ?hy15⟩) (by assumption) ?rest15
  case hy15 => (intro w hSw; (try dsimp only at hSw); go_simp; try with_reducible rfl)
  try simp only [Act.put, List.getElem_toArray, List.getElem_cons_zero, List.getElem_cons_succ, List.setIfInBounds_toArray, List.set_cons_zero, List.set_cons_succ]
  show wpAnyH _ _ _ _ _ (5 + 1) _ _ _
  refine wpAnyH_take (i := 16) (oi := _) (v := ?v16) rfl (by kernel_rfl) (by kernel_rfl) (by kernel_rfl) (fun _ _ _ h => h) (Or.inl ⟨by rfl, ?hy16⟩) (by assumption) ?rest16
  case hy16 => (intro w hSw; (try dsimp only at hSw); go_simp; try with_reducible rfl)
  try simp only [Act.put, List.getElem_toArray, List.getElem_cons_zero, List.getElem_cons_succ, List.setIfInBounds_toArray, List.set_cons_zero, List.set_cons_succ]
  show wpAnyH _ _ _ _ _ (4 + 1) _ _ _
  refine wpAnyH_take (i := 17) (oi := _) (v := ?v17) rfl (by kernel_rfl) (by kernel_rfl) (by kernel_rfl) (fun _ _ _ h => h) (Or.inl ⟨by rfl, ?hy17⟩) (by assumption) ?rest17
  case hy17 => (intro w hSw; (try dsimp only at hSw); go_simp; try with_reducible rfl)
  try simp only [Act.put, List.getElem_toArray, List.getElem_cons_zero, List.getElem_cons_succ, List.setIfInBounds_toArray, List.set_cons_zero, List.set_cons_succ]
  show wpAnyH _ _ _ _ _ (3 + 1) _ _ _
  refine wpAnyH_ready (rs := [18]) (by kernel_rfl) (by simp) ?_
  refine AllReadyH.cons (o := _) rfl (fun K hK => ?_) AllReadyH.nil
  go_simp
  refine (HLO.out _ hcur).mono ?_; rintro e w3 ⟨rfl, rfl⟩
  go_wp2_with fail
  refine hK.out _ _ (HS.out _ hcur) (fun hHeld => ?_)
  clear hK K
  try simp only [Act.put, List.getElem_toArray, List.getElem_cons_zero, List.getElem_cons_succ, List.setIfInBounds_toArray, List.set_cons_zero, List.set_cons_succ]
  show wpAnyH _ _ _ _ _ (2 + 1) _ _ _
  refine wpAnyH_ready (rs := [19]) (by kernel_rfl) (by simp) ?_
  refine AllReadyH.cons (o := _) rfl (fun K hK => ?_) AllReadyH.nil
  go_simp
  refine (HP.out _ hcur).mono ?_; rintro e w3 ⟨v, rfl, hm, hb3⟩; obtain ⟨A1, k1, c1, rfl⟩ := hm.slice; have hcur2 := back_of hcur hb3; have HM := Lib.hid (made_any z zo false A1 k1 c1 w3 (H.out.below hcur2 (Nat.le_refl _))); have HF := Lib.hid (And.intro ((H.out.below hcur2 (Nat.le_refl _)).lay hm false) (below_put (o := zo) (hcur2.mono (Nat.le_of_lt H.out.1)) (Nat.le_refl _) false (.slice A1 k1 c1))); clear hm hb3
  go_wp2_with fail
  refine hK.out _ _ (HS.out _ hcur2) (fun hHeld => ?_)
  clear hK K
  try simp only [Act.put, List.getElem_toArray, List.getElem_cons_zero, List.getElem_cons_succ, List.setIfInBounds_toArray, List.set_cons_zero, List.set_cons_succ]
  show wpAnyH _ _ _ _ _ (1 + 1) _ _ _
  refine wpAnyH_ready (rs := [20]) (by kernel_rfl) (by simp) ?_
  refine AllReadyH.cons (o := _) rfl (fun K hK => ?_) AllReadyH.nil
  go_simp
  refine HM.out.mono ?_; rintro e w4 ⟨rfl, rfl⟩
  go_wp2_with fail
  refine hK.out _ _ (HS2.out _ hcur2 _ _) (fun hHeld => ?_)
  clear hK K
  try simp only [Act.put, List.getElem_toArray, List.getElem_cons_zero, List.getElem_cons_succ, List.setIfInBounds_toArray, List.set_cons_zero, List.set_cons_succ]
  show wpAnyH _ _ _ _ _ (0 + 1) _ _ _
  refine wpAnyH_take (i := 21) (oi := _) (v := ?v21) rfl (by kernel_rfl) (by kernel_rfl) (by kernel_rfl) (fun _ _ _ h => h) (Or.inl ⟨by rfl, ?hy21⟩) (by assumption) ?rest21
  case hy21 => (intro w hSw; (try dsimp only at hSw); go_simp; try with_reducible rfl)
  try simp only [Act.put, List.getElem_toArray, List.getElem_cons_zero, List.getElem_cons_succ, List.setIfInBounds_toArray, List.set_cons_zero, List.set_cons_succ]
  refine wpAnyH_done (by kernel_rfl) ?_ _
  go_wp2_with fail
  go_ret
  exact ⟨rfl, HF.out.1.1, HF.out.1.2, HF.out.2⟩
end Go.Proofs.YtbidlkmagbjllaaGreatDoor.Nb

namespace Go.Proofs.YtbidlkmagbjllaaGreatDoor.Nb
open Go Go.RowKit

theorem below_dr2 {B : Nat} {a w : World} (h : Below B a w) (n : Nat) : Below B a (w.drewN n) := ⟨h.os, h.tape, h.output, h.size, h.block⟩

set_option maxRecDepth 8000 in
set_option maxHeartbeats 1000000 in
theorem quorem_any (z zo r ro b o m b' o' d : Nat) (w : World) (hz : ISlot w z zo) (hr : ISlot w r ro) (hx : IntN w b o false m) (hy : IntN w b' o' false d) (hd : 0 < d) (hzr : z < r) :
    Calls Tryz.prog 128 #[.pointer (some ⟨z, zo, none⟩), .pointer (some ⟨b, o, none⟩), .pointer (some ⟨b', o', none⟩), .pointer (some ⟨r, ro, none⟩)] w fun e w' =>
      e = .returned (.tuple #[.pointer (some ⟨z, zo, none⟩), .pointer (some ⟨r, ro, none⟩)]) ∧ IntN w' z zo false (m / d) ∧ ISlot w' z zo ∧ Below z w w' := by
  obtain ⟨hb, h2, A, k, c, h3, h4⟩ := hx
  obtain ⟨hb', h2', A', k', c', h3', h4'⟩ := hy
  have HQ := Lib.hid (fun (W : World) (hW : Below w.heap.size w W) => quotient_one _ _ m d 1 W (h4.below hW) (h4'.below hW) hd (by omega) (by omega))
  have HS := Lib.hid (fun (W : World) (hW : Below w.heap.size w W) => (show W.cell? ⟨b, o + 1, none⟩ = some (.slice A k c) ∧ W.cell? ⟨b', o' + 1, none⟩ = some (.slice A' k' c') from ⟨(hW.cell (p := ⟨b, o + 1, none⟩) (by exact hb)).trans h3, (hW.cell (p := ⟨b', o' + 1, none⟩) (by exact hb')).trans h3'⟩))
  have HZ := Lib.hid (And.intro hz hr)
  clear h4 h4' hz hr
  go_enter Tryz.func128, Tryz.ntmps128
  go_wp2_with fail
  go_quiet (fail)
  go_wp2_with fail
  have hcur : ∀ n, Below w.heap.size w (w.drewN n).drew := fun n => (below_dr2 (Below.refl _ _) n).drew
  go_region_held3 (fun w' => w'.cell? ⟨b, o + 1, none⟩ = some (.slice A k c) ∧ w'.cell? ⟨b', o' + 1, none⟩ = some (.slice A' k' c'))
    (first | exact HS.out _ hcur2 | exact HS.out _ (hcur _))
    ((go_at_call 109; refine (HQ.out _ (hcur _)).mono ?_; rintro e w3 ⟨A1, k1, c1, A2, k2, c2, rfl, hm1, hm2, hb3⟩; have hcur2 := back_of (hcur _) hb3; have HM := Lib.hid (And.intro hm1 hm2); clear hm1 hm2 hb3))
  have s1 := HZ.out.1.below hcur2 (Nat.le_refl _)
  have s2 := HZ.out.2.below hcur2 (Nat.le_refl _)
  have s3 := s2.put (b' := z) (o' := zo) (.inl (by omega)) false (.slice A1 k1 c1)
  have M1 := Lib.hid (made_any z zo false A1 k1 c1 w3 s1)
  have M2 := Lib.hid (made_any r ro false A2 k2 c2 _ s3)
  have HF := Lib.hid (show IntN (put (put w3 z zo false (.slice A1 k1 c1)) r ro false (.slice A2 k2 c2)) z zo false (m / d) ∧ ISlot (put (put w3 z zo false (.slice A1 k1 c1)) r ro false (.slice A2 k2 c2)) z zo ∧ Below z w (put (put w3 z zo false (.slice A1 k1 c1)) r ro false (.slice A2 k2 c2)) from
    ⟨(s1.lay HM.out.1 false).1.put s3 (.inl (by omega)) false _, (s1.lay HM.out.1 false).2.put (.inl (by omega)) false _, below_put (below_put (hcur2.mono (Nat.le_of_lt HZ.out.1.1)) (Nat.le_refl _) _ _) (Nat.le_of_lt hzr) _ _⟩)
  clear s1 s2 s3 hcur2
  go_wp2_with fail
  refine M1.out.mono ?_
  rintro e w4 ⟨rfl, rfl⟩
  go_wp2_with fail
  refine M2.out.mono ?_
  rintro e w5 ⟨rfl, rfl⟩
  go_wp2_with fail
  go_ret2
  exact ⟨rfl, HF.out⟩

set_option maxRecDepth 8000 in
theorem quo_any (z zo b o m b' o' d : Nat) (w : World) (hz : ISlot w z zo) (hx : IntN w b o false m) (hy : IntN w b' o' false d) (hd : 0 < d) :
    Calls Tryz.prog 77 #[.pointer (some ⟨z, zo, none⟩), .pointer (some ⟨b, o, none⟩), .pointer (some ⟨b', o', none⟩)] w (Wrote1 w z zo false (m / d)) := by
  have hA := (Below.refl w.heap.size w).alloc (Nat.le_refl _) (.cells #[.bool false, .slice none 0 0] 102)
  have HQ := Lib.hid (quorem_any z zo w.heap.size 0 b o m b' o' d _ (hz.below hA (Nat.le_refl _)) (ISlot.new w 102) (hx.below hA (Nat.le_refl _)) (hy.below hA (Nat.le_refl _)) hd hz.1)
  have HA := Lib.hid (hA.mono (Nat.le_of_lt hz.1))
  clear hz hx hy hA
  go_enter Tryz.func77, Tryz.ntmps77
  go_wp2_with fail
  refine HQ.out.mono ?_
  rintro e w1 ⟨rfl, h1, h2, h3⟩
  have HF := Lib.hid (And.intro h1 (And.intro h2 (HA.out.trans h3)))
  clear h1 h2 h3
  go_wp2_with fail
  go_ret
  exact ⟨rfl, HF.out⟩

set_option maxRecDepth 8000 in
/-- the sum of numbers from 0 on -/
theorem plus_pos (z zo b o m n : Nat) (v : Value) (w : World) (hz : ISlot w z zo) (hx : IntN w b o false m) (hv : MagN w v n 1) (h : m + n < 18446744073709551616) :
    Calls Tryz.prog 130 #[.pointer (some ⟨z, zo, none⟩), .pointer (some ⟨b, o, none⟩), .bool false, v] w (Wrote1 w z zo false (m + n)) := by
  obtain ⟨hb, h2, A, k, c, h3, h4⟩ := hx
  obtain ⟨A', k', c', rfl⟩ := hv.slice
  have HS := Lib.hid (sum_one _ _ m n w h4 hv h)
  have HZ := Lib.hid hz
  clear h4 hz hv
  go_enter Tryz.func130, Tryz.ntmps130
  go_wp2_with fail
  refine HS.out.mono ?_
  rintro e w1 ⟨x, rfl, hm, hb1⟩
  obtain ⟨A1, k1, c1, rfl⟩ := hm.slice
  have HM := Lib.hid (made_num z zo _ false A1 k1 c1 w1 (HZ.out.below hb1 (Nat.le_refl _)) hm (by simp))
  have HB := Lib.hid (hb1.mono (Nat.le_of_lt HZ.out.1))
  clear hm hb1
  go_wp2_with fail
  refine HM.out.mono ?_
  rintro e w2 h
  have HF := Lib.hid (h.after HB.out)
  obtain ⟨rfl, -⟩ := h
  go_wp2_with fail
  go_ret
  exact HF.out

set_option maxRecDepth 8000 in
set_option maxHeartbeats 1000000 in
/-- a number from 0 on and one below 0, of no greater amount -/
theorem plus_neg (z zo b o m n : Nat) (v : Value) (w : World) (hz : ISlot w z zo) (hx : IntN w b o false m) (hv : MagN w v n 1) (h : n ≤ m) :
    Calls Tryz.prog 130 #[.pointer (some ⟨z, zo, none⟩), .pointer (some ⟨b, o, none⟩), .bool true, v] w (Wrote1 w z zo false (m - n)) := by
  obtain ⟨hb, h2, A, k, c, h3, h4⟩ := hx
  obtain ⟨A', k', c', rfl⟩ := hv.slice
  have HC := Lib.hid (compare_any _ _ m n 1 w h4 hv (by omega))
  have HL := Lib.hid (fun (W : World) (hW : Below w.heap.size w W) => less_one _ _ m n W (h4.below hW) (hv.below hW) h)
  have HS := Lib.hid (fun (W : World) (hW : Below w.heap.size w W) => (show W.cell? ⟨b, o, none⟩ = some (.bool false) ∧ W.cell? ⟨b, o + 1, none⟩ = some (.slice A k c) from ⟨(hW.cell (p := ⟨b, o, none⟩) (by exact hb)).trans h2, (hW.cell (p := ⟨b, o + 1, none⟩) (by exact hb)).trans h3⟩))
  have HZ := Lib.hid hz
  obtain ⟨q, hq⟩ : ∃ q, cmpN m n = q := ⟨_, rfl⟩
  rw [hq] at HC
  have hq0 : (0 : Int) ≤ q := by rw [← hq]; unfold cmpN; split <;> first | omega | (split <;> omega)
  clear h4 hz hv hq
  go_enter Tryz.func130, Tryz.ntmps130
  go_wp2_with fail
  refine HC.out.mono ?_
  rintro e w1 ⟨rfl, j, rfl⟩
  go_wp2_with fail
  have hcur : Below w.heap.size w (w.drewN j).drew := (below_dr2 (Below.refl _ _) j).drew
  go_region_with (first | (go_at_call 178; refine (HL.out _ hcur).mono ?_; rintro e w3 ⟨x, rfl, hm, hb3⟩; obtain ⟨A1, k1, c1, rfl⟩ := hm.slice; have hcur2 := back_of hcur hb3; obtain ⟨y0, -⟩ := HS.out _ hcur2; have HM := Lib.hid (made_num z zo _ false A1 k1 c1 w3 (HZ.out.below hcur2 (Nat.le_refl _)) hm (by simp)); have HB := Lib.hid (hcur2.mono (Nat.le_of_lt HZ.out.1)); clear hm hb3 hcur2) | (go_at_call 101; refine HM.out.mono ?_; rintro e w4 h; have HF := Lib.hid (h.after HB.out); obtain ⟨rfl, -⟩ := h))
  all_goals go_wp2_with fail
  all_goals (go_ret; exact HF.out)

set_option maxRecDepth 8000 in
set_option maxHeartbeats 1000000 in
theorem add_pos (z zo b o m b' o' n : Nat) (w : World) (hz : ISlot w z zo) (hx : IntN w b o false m) (hy : IntN w b' o' false n) (h : m + n < 18446744073709551616) :
    Calls Tryz.prog 80 #[.pointer (some ⟨z, zo, none⟩), .pointer (some ⟨b, o, none⟩), .pointer (some ⟨b', o', none⟩)] w (Wrote1 w z zo false (m + n)) := by
  obtain ⟨hb', h2', A', k', c', h3', h4'⟩ := hy
  have HP := Lib.hid (fun (W : World) (hW : Below w.heap.size w W) => plus_pos z zo b o m n (.slice A' k' c') W (hz.below hW (Nat.le_refl _)) (hx.below hW (Nat.le_refl _)) (h4'.below hW) h)
  have hZ : z ≤ w.heap.size := Nat.le_of_lt hz.1
  clear h4' hz hx
  go_enter Tryz.func80, Tryz.ntmps80
  go_wp2_with fail
  have hcur : Below w.heap.size w w.drew := (Below.refl _ _).drew
  go_region_with (first | (go_at_call 130; refine (HP.out _ hcur).mono ?_; rintro e w4 h; have HF := Lib.hid (h.after (hcur.mono hZ)); obtain ⟨rfl, -⟩ := h) | fail)
  all_goals go_wp2_with fail
  all_goals (go_ret; exact HF.out)
end Go.Proofs.YtbidlkmagbjllaaGreatDoor.Nb

namespace Go.Proofs.YtbidlkmagbjllaaGreatDoor.Nb
open Go Go.RowKit Go.Proofs

theorem sizeBuilder : (Tryz.prog.info? 63).map (·.size) = some 2 := by kernel_rfl
theorem liesBuilder : liesAt Tryz.prog Tryz.prog.depth 63 (2 / Tryz.prog.cellsOf 63) 0 63 1 = true := by kernel_rfl
theorem undPB : Tryz.prog.underlying 60 = some (.pointer 63) := by kernel_rfl
theorem undUP : Tryz.prog.underlying 167 = some .unsafePointer := by kernel_rfl
theorem undBS : Tryz.prog.underlying 61 = some (.slice 5) := by kernel_rfl
theorem undStr : Tryz.prog.underlying 9 = some .string := by kernel_rfl
theorem esc_run (v : Value) (w : World) : (callFunc 118 #[v]).run Tryz.prog w = .ok (.value v) w := by
  rw [run_callFunc_extern Tryz.func118 (by kernel_rfl) (by kernel_rfl) (by kernel_rfl) (e := Extern.AbiNoEscape.same) (by kernel_rfl)]
  rfl

set_option maxHeartbeats 1000000 in
set_option maxRecDepth 100000 in
theorem check_used (b : Nat) (w : World) (h0 : w.cell? ⟨b, 0, none⟩ = some (.pointer (some ⟨b, 0, none⟩))) :
    Calls Tryz.prog 68 #[.pointer (some ⟨b, 0, none⟩)] w fun e w' => e = .returned (.tuple #[]) ∧ w' = w := by
  obtain ⟨j, hj, _⟩ := Option.map_eq_some_iff.1 sizeBuilder
  have hn := Lib.run_neq_ptr_same w ⟨b, 0, none⟩ undPB hj
  go_enter Tryz.func68, Tryz.ntmps68
  go_wp2_with fail
  go_end0
  exact ⟨rfl, rfl⟩

set_option maxHeartbeats 1000000 in
set_option maxRecDepth 100000 in
theorem check_fresh (b : Nat) (w : World) (h0 : w.cell? ⟨b, 0, none⟩ = some (.pointer none)) (hsh : w.shape? b = some (63, 2)) (hfz : w.frozen? ⟨b, 0, none⟩ = false) :
    Calls Tryz.prog 68 #[.pointer (some ⟨b, 0, none⟩)] w fun e w' => e = .returned (.tuple #[]) ∧ w' = w.setCell ⟨b, 0, none⟩ (.pointer (some ⟨b, 0, none⟩)) := by
  obtain ⟨j, hj, hjs⟩ := Option.map_eq_some_iff.1 sizeBuilder
  have h1 := Lib.run_to_unsafe w ⟨b, 0, none⟩ undPB undUP hj (by rw [hjs]; decide) hsh (Nat.zero_lt_succ 1)
  have h2 := Lib.run_from_unsafe w ⟨b, 0, none⟩ undUP undPB hj hsh liesBuilder
  have h3 := esc_run (.pointer (some ⟨b, 0, none⟩)) w
  go_enter Tryz.func68, Tryz.ntmps68
  go_wp2_with fail
  go_end0
  exact ⟨rfl, rfl⟩

theorem check_any (B b : Nat) (bs : List Value) (w : World) (h : Lib.IsBuilder 63 5 B b bs w) :
    Calls Tryz.prog 68 #[.pointer (some ⟨b, 0, none⟩)] w fun e w' => e = .returned (.tuple #[]) ∧ (Lib.BuilderAt 63 5 B b (.pointer (some ⟨b, 0, none⟩)) bs w' ∧ Below B w w') := by
  rcases h with h | h
  · refine (check_fresh b w h.cell0 h.shape h.frozen0).mono ?_
    rintro e w' ⟨rfl, rfl⟩
    exact ⟨rfl, h.used _, (Below.refl B w).setCell (p := ⟨b, 0, none⟩) h.1 _⟩
  · refine (check_used b w h.cell0).mono ?_
    rintro e w' ⟨rfl, rfl⟩
    exact ⟨rfl, h, Below.refl B _⟩

set_option maxHeartbeats 2000000 in
set_option maxRecDepth 100000 in
theorem writeByte_any (B b : Nat) (bs : List Value) (c : Int) (w : World) (h : Lib.IsBuilder 63 5 B b bs w) (hlen : bs.length + 1 ≤ 140737488355328) (hBw : B ≤ w.heap.size) :
    Calls Tryz.prog 22 #[.pointer (some ⟨b, 0, none⟩), .int .u8 c] w fun e w' => e = .returned .nilIface ∧ (Lib.BuilderAt 63 5 B b (.pointer (some ⟨b, 0, none⟩)) (bs ++ [.int .u8 c]) w' ∧ Below B w w') := by
  obtain ⟨i0, hi, hz0, hz1, hz2⟩ := info_parts infoU
  have HK := Lib.hid (check_any B b bs w h)
  clear h
  go_enter Tryz.func22, Tryz.ntmps22
  go_wp2_with fail
  refine HK.out.mono ?_
  rintro e w1 ⟨rfl, h1, hb1⟩
  obtain ⟨hB, v, hbk, hown, hne⟩ := h1
  have c0 : w1.cell? ⟨b, 0, none⟩ = some (.pointer (some ⟨b, 0, none⟩)) := by rw [Lib.cell_of_heap hbk]; rfl
  have c1 : w1.cell? ⟨b, 1, none⟩ = some v := by rw [Lib.cell_of_heap hbk]; rfl
  go_wp2_with (at_builtin; refine wpList_append_own _ rfl _ _ 61 rfl B 5 i0 (.int .u8 0) 1 1 undBS hi hz0 hz1 hz2 rfl (by decide) _ _ _ rfl (hown.alloc _) ⟨w1.heap.size, 0, none⟩ 1 1 [.int .u8 c] rfl rfl ?c1 ?c2 ?c3 ?c4 ?c5 ?_)
  case c1 =>
    intro j u hj
    match j, hj with
    | 0, hj => simp at hj; subst hj; simp [Addr.add]
  case c2 => intro u hu; simp at hu; subst hu; rfl
  case c3 => unfold maxLen; omega
  case c4 => omega
  case c5 => have := hb1.size; simp; omega
  intro v' w2 hown' hgrow _
  have hlt : b < w1.heap.size := by
    rcases Nat.lt_or_ge b w1.heap.size with h' | h'
    · exact h'
    · simp [Array.getElem?_eq_none h'] at hbk
  have hb2 : w2.heap[b]? = some (.cells #[.pointer (some ⟨b, 0, none⟩), v] 63 (0, 0)) := by
    rw [hgrow.block b (by simp; omega) (fun e => hne e.symm), Lib.alloc_old w1 _ b hlt]
    exact hbk
  have d0 : w2.cell? ⟨b, 0, none⟩ = some (.pointer (some ⟨b, 0, none⟩)) := by rw [Lib.cell_of_heap hb2]; rfl
  have d1 : w2.cell? ⟨b, 1, none⟩ = some v := by rw [Lib.cell_of_heap hb2]; rfl
  have f1 : w2.frozen? ⟨b, 1, none⟩ = false := Lib.frozen_of_heap hb2 1
  obtain ⟨g, cap, rfl⟩ : ∃ g cap, v' = .slice (some ⟨g, 0, none⟩) (bs.length + 1) cap := by
    rcases hown'.2 with ⟨_, h0⟩ | ⟨g, cap, cur, hv, _⟩
    · omega
    · exact ⟨g, cap, hv⟩
  go_wp2_with fail
  go_ret
  refine ⟨rfl, ?_, ?_⟩
  · exact Lib.BuilderAt.put (T := 63) (e := 5) hB hb2 (bs' := bs ++ [.int .u8 c]) (by simpa using hown') (by decide)
  · exact ((hb1.alloc (by have := hb1.size; omega) _).grown hgrow (by have := hb1.size; simp; omega) (fun k hk => (hown.lt k hk).1)).setCell (p := ⟨b, 1, none⟩) hB _

set_option maxHeartbeats 2000000 in
set_option maxRecDepth 100000 in
theorem writeString_any (B b : Nat) (bs : List Value) (s : ByteArray) (w : World) (h : Lib.IsBuilder 63 5 B b bs w) (hlen : bs.length + s.size ≤ 140737488355328) (hBw : B ≤ w.heap.size) :
    Calls Tryz.prog 23 #[.pointer (some ⟨b, 0, none⟩), .string s] w fun e w' => e = .returned (.tuple #[.int .i64 s.size, .nilIface]) ∧ (Lib.BuilderAt 63 5 B b (.pointer (some ⟨b, 0, none⟩)) (bs ++ Lib.strCells s) w' ∧ Below B w w') := by
  obtain ⟨i0, hi, hz0, hz1, hz2⟩ := info_parts infoU
  have HK := Lib.hid (check_any B b bs w h)
  clear h
  go_enter Tryz.func23, Tryz.ntmps23
  go_wp2_with fail
  refine HK.out.mono ?_
  rintro e w1 ⟨rfl, h1, hb1⟩
  obtain ⟨hB, v, hbk, hown, hne⟩ := h1
  have c0 : w1.cell? ⟨b, 0, none⟩ = some (.pointer (some ⟨b, 0, none⟩)) := by rw [Lib.cell_of_heap hbk]; rfl
  have c1 : w1.cell? ⟨b, 1, none⟩ = some v := by rw [Lib.cell_of_heap hbk]; rfl
  go_wp2_with (at_builtin; refine Lib.wpList_append_own_string _ rfl _ _ 61 9 rfl B 5 i0 undBS undStr hi hz0 hz1 hz2 _ _ _ rfl hown s rfl ?c3 ?c4 ?c5 ?_)
  case c3 => unfold maxLen; omega
  case c4 => omega
  case c5 => have := hb1.size; omega
  intro v' w2 hown' hgrow _
  have hlt : b < w1.heap.size := by
    rcases Nat.lt_or_ge b w1.heap.size with h' | h'
    · exact h'
    · simp [Array.getElem?_eq_none h'] at hbk
  have hb2 : w2.heap[b]? = some (.cells #[.pointer (some ⟨b, 0, none⟩), v] 63 (0, 0)) := by
    rw [hgrow.block b hlt (fun e => hne e.symm)]
    exact hbk
  have d0 : w2.cell? ⟨b, 0, none⟩ = some (.pointer (some ⟨b, 0, none⟩)) := by rw [Lib.cell_of_heap hb2]; rfl
  have d1 : w2.cell? ⟨b, 1, none⟩ = some v := by rw [Lib.cell_of_heap hb2]; rfl
  have f1 : w2.frozen? ⟨b, 1, none⟩ = false := Lib.frozen_of_heap hb2 1
  obtain ⟨ao, n', cap, rfl⟩ : ∃ ao n' cap, v' = .slice ao n' cap := by
    rcases hown'.2 with ⟨hv, _⟩ | ⟨g, cap, cur, hv, _⟩
    · exact ⟨_, _, _, hv⟩
    · exact ⟨_, _, _, hv⟩
  go_wp2_with fail
  go_ret2
  refine ⟨rfl, ?_, ?_⟩
  · exact Lib.BuilderAt.put (T := 63) (e := 5) hB hb2 (bs' := bs ++ Lib.strCells s) (by simpa [Lib.strCells_length] using hown') (by decide)
  · exact (hb1.grown hgrow (by have := hb1.size; omega) (fun k hk => (hown.lt k hk).1)).setCell (p := ⟨b, 1, none⟩) hB _
end Go.Proofs.YtbidlkmagbjllaaGreatDoor.Nb

namespace Go.Proofs.YtbidlkmagbjllaaGreatDoor.Nb
open Go Go.RowKit

def IsDig (l : List UInt8) : Prop := ∀ x ∈ l, 48 ≤ x.toNat ∧ x.toNat ≤ 57
def sgn (b : Bool) : List UInt8 := if b = true then [45] else []
def fracT : Option (List UInt8) → List UInt8
  | none => []
  | some l => 46 :: l
def expT : Option (Bool × List UInt8) → List UInt8
  | none => []
  | some (b, l) => 101 :: (sgn b ++ l)
/-- a decimal text's parts -/
structure DTxt where
  neg : Bool
  d1 : List UInt8
  d2 : Option (List UInt8)
  ex : Option (Bool × List UInt8)
def DTxt.list (t : DTxt) : List UInt8 := sgn t.neg ++ (t.d1 ++ (fracT t.d2 ++ expT t.ex))
structure DTxt.Ok (t : DTxt) : Prop where
  g1 : IsDig t.d1
  n1 : t.d1 ≠ []
  g2 : ∀ l, t.d2 = some l → IsDig l ∧ l ≠ []
  g3 : ∀ b l, t.ex = some (b, l) → IsDig l ∧ l ≠ []
/-- the digits, one behind the other -/
def DTxt.digs (t : DTxt) : List UInt8 := t.d1 ++ t.d2.getD []
/-- an exponent as undecimal reads it -/
def expZ : Option (Bool × List UInt8) → Int
  | none => 0
  | some (b, l) => if b = true then -(if (Lib.trimLeftB l 48).length < 6 then (decN (Lib.trimLeftB l 48) : Int) else 100000) else (if (Lib.trimLeftB l 48).length < 6 then (decN (Lib.trimLeftB l 48) : Int) else 100000)
def DTxt.exp (t : DTxt) : Int := -((t.d2.getD []).length : Int) + expZ t.ex

theorem IsDig.append {a b : List UInt8} (h : IsDig a) (h' : IsDig b) : IsDig (a ++ b) := fun x hx => by
  rcases List.mem_append.1 hx with q | q
  · exact h x q
  · exact h' x q
theorem IsDig.trim {l : List UInt8} (h : IsDig l) : IsDig (Lib.trimLeftB l 48) := fun x hx => h x (List.dropWhile_suffix _ |>.subset hx)
theorem decN_zero (l : List UInt8) : decN (48 :: l) = decN l := by simp [decN]
theorem decN_trim : ∀ l : List UInt8, decN (Lib.trimLeftB l 48) = decN l
  | [] => rfl
  | a :: l => by
    unfold Lib.trimLeftB
    rw [List.dropWhile_cons]
    by_cases h : (a == 48) = true
    · rw [if_pos h]
      have e : a = 48 := by simpa using h
      subst e
      rw [decN_zero]
      exact decN_trim l
    · rw [if_neg h]
theorem decFrom_dig : ∀ (l : List UInt8) (a : Nat), IsDig l → Lib.decFrom a l = some (l.foldl (fun n b => n * 10 + (b.toNat - 48)) a)
  | [], a, _ => rfl
  | b :: l, a, h => by
    have hb := h b List.mem_cons_self
    have hd : Lib.digitVal b = some (b.toNat - 48) := by
      unfold Lib.digitVal
      rw [if_pos hb]
    simp only [Lib.decFrom, hd, List.foldl_cons]
    exact decFrom_dig l _ (fun x hx => h x (List.mem_cons_of_mem _ hx))
theorem atoi_dig {l : List UInt8} (h : IsDig l) : Lib.atoi (48 :: l) = some (decN l : Int) := by
  have h48 : IsDig (48 :: l) := fun x hx => by
    rcases List.mem_cons.1 hx with rfl | q
    · decide
    · exact h x q
  unfold Lib.atoi
  simp only [show ((48 : UInt8) == 45) = false from rfl, show ((48 : UInt8) == 43) = false from rfl]
  have := decFrom_dig _ 0 h48
  simp only [Bool.false_eq_true, if_false]
  unfold Lib.decNat
  rw [this]
  simp [decN]

/-- the place and the decimals side by side -/
structure UndR (w W : World) (g : Nat) (s : ByteArray) (r : List UInt8) (neg : Bool) (v1 v2 : Value) : Prop where
  c : CurR W (w.heap.size + 1) s r
  r : DecAt W w.heap.size (.bool false) (.string ⟨#[]⟩) (.int .i64 0)
  d : DecAt W g (.bool neg) v1 v2
  g : w.heap.size + 1 < g
  b : Below w.heap.size w W
theorem UndR.move {w W W' : World} {g : Nat} {s : ByteArray} {r r' : List UInt8} {neg : Bool} {v1 v2 : Value} (h : UndR w W g s r neg v1 v2) (q : Kept W W' (w.heap.size + 1)) (c : CurR W' (w.heap.size + 1) s r') (b : Below (w.heap.size + 1) W W') : UndR w W' g s r' neg v1 v2 :=
  ⟨c, h.r.kept q (by omega), h.d.kept q (by have := h.g; omega), h.g, h.b.trans (b.mono (by omega))⟩
theorem UndR.quiet {w W W' : World} {g : Nat} {s : ByteArray} {r : List UInt8} {neg : Bool} {v1 v2 : Value} (h : UndR w W g s r neg v1 v2) (b : Below W.heap.size W W') : UndR w W' g s r neg v1 v2 :=
  ⟨h.c.below b (Nat.le_refl _), h.r.kept (Kept.of_below b) (c := W.heap.size) (Nat.ne_of_lt h.r.1), h.d.kept (Kept.of_below b) (c := W.heap.size) (Nat.ne_of_lt h.d.1), h.g, h.b.trans (b.mono h.b.size)⟩
theorem UndR.set1 {w W : World} {g : Nat} {s : ByteArray} {r : List UInt8} {neg : Bool} {v1 v2 : Value} (h : UndR w W g s r neg v1 v2) (v : Value) : UndR w (W.setCell ⟨g, 1, none⟩ v) g s r neg v v2 :=
  ⟨h.c.kept ((Kept.refl W g).setCell v) (by have := h.g; omega), h.r.kept ((Kept.refl W g).setCell (o := 1) v) (by have := h.g; omega), h.d.set1 v, h.g, h.b.setCell (p := ⟨g, 1, none⟩) (by show w.heap.size ≤ g; have := h.g; omega) v⟩
theorem UndR.set2 {w W : World} {g : Nat} {s : ByteArray} {r : List UInt8} {neg : Bool} {v1 v2 : Value} (h : UndR w W g s r neg v1 v2) (v : Value) : UndR w (W.setCell ⟨g, 2, none⟩ v) g s r neg v1 v :=
  ⟨h.c.kept ((Kept.refl W g).setCell v) (by have := h.g; omega), h.r.kept ((Kept.refl W g).setCell (o := 2) v) (by have := h.g; omega), h.d.set2 v, h.g, h.b.setCell (p := ⟨g, 2, none⟩) (by show w.heap.size ≤ g; have := h.g; omega) v⟩
/-- a sign, there or not -/
theorem takeS (b : Nat) (s : ByteArray) (neg : Bool) (r : List UInt8) (w : World) (h : CurR w b s (sgn neg ++ r)) (hs : s.size ≤ 4611686018427387904) (hn : r.head? ≠ some 45) :
    Calls Tryz.prog 43 #[.pointer (some ⟨b, 0, none⟩), .string ⟨#[45]⟩] w fun e w' => e = .returned (.bool neg) ∧ CurR w' b s r ∧ Below b w w' ∧ Kept w w' b := by
  cases neg
  · refine (takeR_no b s 45 r w h hn).mono ?_
    rintro e w' ⟨rfl, n, rfl⟩
    exact ⟨rfl, h, below_dr (Below.refl _ _) n, (Kept.refl w b).drewN n⟩
  · exact takeR_yes b s 45 r w h hs
end Go.Proofs.YtbidlkmagbjllaaGreatDoor.Nb
