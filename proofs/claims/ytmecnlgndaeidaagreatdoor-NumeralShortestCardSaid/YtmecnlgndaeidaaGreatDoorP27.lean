/- RD7 in one text. -/
import Derived.Test.YtmecnlgndaeidaaGreatDoorP26
import Derived.StillTailTactics

namespace Go.Proofs.YtmecnlgndaeidaaGreatDoor.Bg
open Go Go.RowKit

theorem IntAt.openN {w : World} {p : Addr} {x L : Nat} (h : IntAt w p (x : Int) L) : ∃ (b off : Nat) (A : Option Addr) (k c : Nat), p = ⟨b, off, none⟩ ∧ b < w.heap.size ∧ w.cell? ⟨b, off, none⟩ = some (.bool false) ∧
    w.cell? ⟨b, off + 1, none⟩ = some (.slice A k c) ∧ MagN w (.slice A k c) x L := by
  obtain ⟨b1, o1, s1, A1, k1, c1, m, rfl, hb1, h3, h4, h5, h6, h7⟩ := h.open
  have e1 : s1 = false := by cases s1 with | false => rfl | true => simp at h6 h7; omega
  subst e1
  obtain rfl : m = x := by simp at h6; omega
  exact ⟨b1, o1, A1, k1, c1, rfl, hb1, h3, h4, h5⟩
theorem self_neg {w w' : World} {b1 o1 b2 o2 : Nat} {x L : Nat} {e : Ending} {A2 : Option Addr} {k2 c2 : Nat} (h : Gives w ⟨b1, o1, none⟩ (x : Int) L e w') (hz : Slot w ⟨b1, o1, none⟩) (hne : (⟨b2, o2, none⟩ : Addr) ≠ ⟨b1, o1, none⟩) (hb2 : b2 < w.heap.size)
    (h1 : w.cell? ⟨b2, o2, none⟩ = some (.bool false)) (h2 : w.cell? ⟨b2, o2 + 1, none⟩ = some (.slice A2 k2 c2)) :
    w'.cell? ⟨b1, o1, none⟩ = some (.bool false) ∧ w'.cell? ⟨b2, o2, none⟩ = some (.bool false) ∧ w'.cell? ⟨b2, o2 + 1, none⟩ = some (.slice A2 k2 c2) := by
  obtain ⟨q1, q2⟩ := h.2.1.pair hz hne hb2 h1 h2
  obtain ⟨b, off, A, k, c, e1, -, q3, -, -⟩ := h.2.2.openN
  injection e1 with e1 e2
  subst e1 e2
  exact ⟨q3, q1, q2⟩

set_option maxRecDepth 8000 in
set_option maxHeartbeats 4000000 in
/-- z = z y -/
theorem Mul_self (z q : Addr) (x y L L' : Nat) (w : World) (hz : Slot w z) (hp : IntAt w z (x : Int) L) (hq : IntAt w q (y : Int) L') (hzq : q ≠ z) (hL : L ≤ 536870912) (hL' : L' ≤ 536870912) :
    Calls Tryz.prog 35 #[.pointer (some z), .pointer (some z), .pointer (some q)] w (Gives w z ((x * y : Nat) : Int) (L + L')) := by
  obtain ⟨b1, o1, A1, k1, c1, rfl, hb1, h3, h4, h5⟩ := hp.openN
  obtain ⟨b2, o2, A2, k2, c2, rfl, hb2, g3, g4, g5⟩ := hq.openN
  have H5 := Lib.hid h5
  have G5 := Lib.hid g5
  have HZ := Lib.hid hz
  have HC := Lib.hid (show w.drew.cell? ⟨b1, o1, none⟩ = some (.bool false) ∧ w.drew.cell? ⟨b2, o2, none⟩ = some (.bool false) ∧ w.drew.cell? ⟨b1, o1 + 1, none⟩ = some (.slice A1 k1 c1) ∧ w.drew.cell? ⟨b2, o2 + 1, none⟩ = some (.slice A2 k2 c2) from ⟨h3, g3, h4, g4⟩)
  obtain ⟨m, rfl⟩ : ∃ m, m = x := ⟨_, rfl⟩
  obtain ⟨n, rfl⟩ : ∃ n, n = y := ⟨_, rfl⟩
  clear h5 g5 hz hp hq
  go_enter Tryz.func35, Tryz.ntmps35
  go_wp2_with fail
  refine wp_region_noPanic ?_
  refine wp_region_held_drew (S := (fun w' => w'.cell? ⟨b1, o1, none⟩ = some (.bool false) ∧ w'.cell? ⟨b2, o2, none⟩ = some (.bool false) ∧ w'.cell? ⟨b2, o2 + 1, none⟩ = some (.slice A2 k2 c2))) (by kernel_rfl) ⟨HC.out.1, HC.out.2.1, HC.out.2.2.2⟩ (fun hHeld => ?_)
  show wpAnyH _ _ _ _ _ (20 + 1) _ _ _
  refine wpAnyH_take (i := 0) (oi := _) (v := ?v0) rfl (by kernel_rfl) (by kernel_rfl) (by kernel_rfl) (fun _ _ _ h => h) (Or.inl ⟨by rfl, ?hy0⟩) (by assumption) ?rest0
  case hy0 => (intro w hSw; (try dsimp only at hSw); go_simp; try with_reducible rfl)
  try simp only [Act.put, List.getElem_toArray, List.getElem_cons_zero, List.setIfInBounds_toArray, List.set_cons_zero, List.set_cons_succ]
  show wpAnyH _ _ _ _ _ (19 + 1) _ _ _
  refine wpAnyH_take (i := 1) (oi := _) (v := ?v1) rfl (by kernel_rfl) (by kernel_rfl) (by kernel_rfl) (fun _ _ _ h => h) (Or.inl ⟨by rfl, ?hy1⟩) (by assumption) ?rest1
  case hy1 => (intro w hSw; (try dsimp only at hSw); go_simp; try with_reducible rfl)
  try simp only [Act.put, List.getElem_toArray, List.getElem_cons_zero, List.getElem_cons_succ, List.setIfInBounds_toArray, List.set_cons_zero, List.set_cons_succ]
  show wpAnyH _ _ _ _ _ (18 + 1) _ _ _
  refine wpAnyH_take (i := 2) (oi := _) (v := ?v2) rfl (by kernel_rfl) (by kernel_rfl) (by kernel_rfl) (fun _ _ _ h => h) (Or.inl ⟨by rfl, ?hy2⟩) (by assumption) ?rest2
  case hy2 => (intro w hSw; (try dsimp only at hSw); go_simp; try with_reducible rfl)
  try simp only [Act.put, List.getElem_toArray, List.getElem_cons_zero, List.getElem_cons_succ, List.setIfInBounds_toArray, List.set_cons_zero, List.set_cons_succ]
  show wpAnyH _ _ _ _ _ (17 + 1) _ _ _
  refine wpAnyH_take (i := 3) (oi := _) (v := ?v3) rfl (by kernel_rfl) (by kernel_rfl) (by kernel_rfl) (fun _ _ _ h => h) (Or.inl ⟨by rfl, ?hy3⟩) (by assumption) ?rest3
  case hy3 => (intro w hSw; (try dsimp only at hSw); go_simp; try with_reducible rfl)
  try simp only [Act.put, List.getElem_toArray, List.getElem_cons_zero, List.getElem_cons_succ, List.setIfInBounds_toArray, List.set_cons_zero, List.set_cons_succ]
  show wpAnyH _ _ _ _ _ (16 + 1) _ _ _
  refine wpAnyH_take (i := 4) (oi := _) (v := ?v4) rfl (by kernel_rfl) (by kernel_rfl) (by kernel_rfl) (fun _ _ _ h => h) (Or.inl ⟨by rfl, ?hy4⟩) (by assumption) ?rest4
  case hy4 => (intro w hSw; (try dsimp only at hSw); go_simp; try with_reducible rfl)
  try simp only [Act.put, List.getElem_toArray, List.getElem_cons_zero, List.getElem_cons_succ, List.setIfInBounds_toArray, List.set_cons_zero, List.set_cons_succ]
  show wpAnyH _ _ _ _ _ (15 + 1) _ _ _
  refine wpAnyH_take (i := 5) (oi := _) (v := ?v5) rfl (by kernel_rfl) (by kernel_rfl) (by kernel_rfl) (fun _ _ _ h => h) (Or.inl ⟨by rfl, ?hy5⟩) (by assumption) ?rest5
  case hy5 => (intro w hSw; (try dsimp only at hSw); go_simp; try with_reducible rfl)
  try simp only [Act.put, List.getElem_toArray, List.getElem_cons_zero, List.getElem_cons_succ, List.setIfInBounds_toArray, List.set_cons_zero, List.set_cons_succ]
  show wpAnyH _ _ _ _ _ (14 + 1) _ _ _
  refine wpAnyH_take (i := 6) (oi := _) (v := ?v6) rfl (by kernel_rfl) (by kernel_rfl) (by kernel_rfl) (fun _ _ _ h => h) (Or.inl ⟨by rfl, ?hy6⟩) (by assumption) ?rest6
  case hy6 => (intro w hSw; (try dsimp only at hSw); go_simp; try with_reducible rfl)
  try simp only [Act.put, List.getElem_toArray, List.getElem_cons_zero, List.getElem_cons_succ, List.setIfInBounds_toArray, List.set_cons_zero, List.set_cons_succ]
  show wpAnyH _ _ _ _ _ (13 + 1) _ _ _
  refine wpAnyH_take (i := 7) (oi := _) (v := ?v7) rfl (by kernel_rfl) (by kernel_rfl) (by kernel_rfl) (fun _ _ _ h => h) (Or.inl ⟨by rfl, ?hy7⟩) (by assumption) ?rest7
  case hy7 => (intro w hSw; (try dsimp only at hSw); go_simp; try with_reducible rfl)
  try simp only [Act.put, List.getElem_toArray, List.getElem_cons_zero, List.getElem_cons_succ, List.setIfInBounds_toArray, List.set_cons_zero, List.set_cons_succ]
  show wpAnyH _ _ _ _ _ (12 + 1) _ _ _
  refine wpAnyH_take (i := 8) (oi := _) (v := ?v8) rfl (by kernel_rfl) (by kernel_rfl) (by kernel_rfl) (fun _ _ _ h => h) (Or.inl ⟨by rfl, ?hy8⟩) (by assumption) ?rest8
  case hy8 => (intro w hSw; (try dsimp only at hSw); go_simp; try with_reducible rfl)
  try simp only [Act.put, List.getElem_toArray, List.getElem_cons_zero, List.getElem_cons_succ, List.setIfInBounds_toArray, List.set_cons_zero, List.set_cons_succ]
  show wpAnyH _ _ _ _ _ (11 + 1) _ _ _
  refine wpAnyH_take (i := 9) (oi := _) (v := ?v9) rfl (by kernel_rfl) (by kernel_rfl) (by kernel_rfl) (fun _ _ _ h => h) (Or.inl ⟨by rfl, ?hy9⟩) (by assumption) ?rest9
  case hy9 => (intro w hSw; (try dsimp only at hSw); go_simp; try with_reducible rfl)
  try simp only [Act.put, List.getElem_toArray, List.getElem_cons_zero, List.getElem_cons_succ, List.setIfInBounds_toArray, List.set_cons_zero, List.set_cons_succ]
  show wpAnyH _ _ _ _ _ (10 + 1) _ _ _
  refine wpAnyH_take (i := 10) (oi := _) (v := ?v10) rfl (by kernel_rfl) (by kernel_rfl) (by kernel_rfl) (fun _ _ _ h => h) (Or.inl ⟨by rfl, ?hy10⟩) (by assumption) ?rest10
  case hy10 => (intro w hSw; (try dsimp only at hSw); go_simp; try with_reducible rfl)
  try simp only [Act.put, List.getElem_toArray, List.getElem_cons_zero, List.getElem_cons_succ, List.setIfInBounds_toArray, List.set_cons_zero, List.set_cons_succ]
  show wpAnyH _ _ _ _ _ (9 + 1) _ _ _
  refine wpAnyH_take (i := 11) (oi := _) (v := ?v11) rfl (by kernel_rfl) (by kernel_rfl) (by kernel_rfl) (fun _ _ _ h => h) (Or.inl ⟨by rfl, ?hy11⟩) (by assumption) ?rest11
  case hy11 => (intro w hSw; (try dsimp only at hSw); go_simp; try with_reducible rfl)
  try simp only [Act.put, List.getElem_toArray, List.getElem_cons_zero, List.getElem_cons_succ, List.setIfInBounds_toArray, List.set_cons_zero, List.set_cons_succ]
  show wpAnyH _ _ _ _ _ (8 + 1) _ _ _
  refine wpAnyH_take (i := 12) (oi := _) (v := ?v12) rfl (by kernel_rfl) (by kernel_rfl) (by kernel_rfl) (fun _ _ _ h => h) (Or.inl ⟨by rfl, ?hy12⟩) (by assumption) ?rest12
  case hy12 => (intro w hSw; (try dsimp only at hSw); go_simp; try with_reducible rfl)
  try simp only [Act.put, List.getElem_toArray, List.getElem_cons_zero, List.getElem_cons_succ, List.setIfInBounds_toArray, List.set_cons_zero, List.set_cons_succ]
  show wpAnyH _ _ _ _ _ (7 + 1) _ _ _
  refine wpAnyH_take (i := 14) (oi := _) (v := ?v14) rfl (by kernel_rfl) (by kernel_rfl) (by kernel_rfl) (fun _ _ _ h => h) (Or.inl ⟨by rfl, ?hy14⟩) (by assumption) ?rest14
  case hy14 => (intro w hSw; (try dsimp only at hSw); go_simp; try with_reducible rfl)
  try simp only [Act.put, List.getElem_toArray, List.getElem_cons_zero, List.getElem_cons_succ, List.setIfInBounds_toArray, List.set_cons_zero, List.set_cons_succ]
  show wpAnyH _ _ _ _ _ (6 + 1) _ _ _
  refine wpAnyH_take (i := 15) (oi := _) (v := ?v15) rfl (by kernel_rfl) (by kernel_rfl) (by kernel_rfl) (fun _ _ _ h => h) (Or.inl ⟨by rfl, ?hy15⟩) (by assumption) ?rest15
  case hy15 => (intro w hSw; (try dsimp only at hSw); go_simp; try with_reducible rfl)
  try simp only [Act.put, List.getElem_toArray, List.getElem_cons_zero, List.getElem_cons_succ, List.setIfInBounds_toArray, List.set_cons_zero, List.set_cons_succ]
  show wpAnyH _ _ _ _ _ (5 + 1) _ _ _
  refine wpAnyH_take (i := 16) (oi := _) (v := ?v16) rfl (by kernel_rfl) (by kernel_rfl) (by kernel_rfl) (fun _ _ _ h => h) (Or.inl ⟨by rfl, ?hy16⟩) (by assumption) ?rest16
  case hy16 => (intro w hSw; (try dsimp only at hSw); go_simp; try with_reducible rfl)
  try simp only [Act.put, List.getElem_toArray, List.getElem_cons_zero, List.getElem_cons_succ, List.setIfInBounds_toArray, List.set_cons_zero, List.set_cons_succ]
  show wpAnyH _ _ _ _ _ (4 + 1) _ _ _
  refine wpAnyH_take (i := 17) (oi := _) (v := ?v17) rfl (by kernel_rfl) (by kernel_rfl) (by kernel_rfl) (fun _ _ _ h => h) (Or.inl ⟨by rfl, ?hy17⟩) (by assumption) ?rest17
  case hy17 => (intro w hSw; (try dsimp only at hSw); go_simp; try with_reducible rfl)
  try simp only [Act.put, List.getElem_toArray, List.getElem_cons_zero, List.getElem_cons_succ, List.setIfInBounds_toArray, List.set_cons_zero, List.set_cons_succ]
  show wpAnyH _ _ _ _ _ (3 + 1) _ _ _
  refine wpAnyH_ready (rs := [13]) (by kernel_rfl) (by simp) ?_
  refine AllReadyH.cons (o := _) rfl (fun K hK => ?_) AllReadyH.nil
  go_simp
  refine hK.out _ _ ⟨HC.out.1, HC.out.2.1, HC.out.2.2.2⟩ (fun hHeld => ?_)
  clear hK K
  try simp only [Act.put, List.getElem_toArray, List.getElem_cons_zero, List.getElem_cons_succ, List.setIfInBounds_toArray, List.set_cons_zero, List.set_cons_succ]
  show wpAnyH _ _ _ _ _ (2 + 1) _ _ _
  refine wpAnyH_ready (rs := [18]) (by kernel_rfl) (by simp) ?_
  refine AllReadyH.cons (o := _) rfl (fun K hK => ?_) AllReadyH.nil
  go_simp
  go_at_call 82; refine (times_mag _ _ m n L L' _ (H5.out.below (Below.refl _ _).drew) (G5.out.below (Below.refl _ _).drew) hL hL').mono ?_; rintro e w1 ⟨v, rfl, hm, hb⟩; have HB1 : Hid (Below w.heap.size w w1) := Lib.hid ((Below.refl _ _).drew.trans hb); have HM1 := Lib.hid hm; have HZ1 := Lib.hid (HZ.out.below HB1.out); clear hm hb
  go_wp2_with fail
  refine hK.out _ _ (have h := keep_four HB1.out HC.out hb1 hb2 hb1 hb2; ⟨h.1, h.2.1, h.2.2.2⟩) (fun hHeld => ?_)
  clear hK K
  try simp only [Act.put, List.getElem_toArray, List.getElem_cons_zero, List.getElem_cons_succ, List.setIfInBounds_toArray, List.set_cons_zero, List.set_cons_succ]
  show wpAnyH _ _ _ _ _ (1 + 1) _ _ _
  refine wpAnyH_ready (rs := [19]) (by kernel_rfl) (by simp) ?_
  refine AllReadyH.cons (o := _) rfl (fun K hK => ?_) AllReadyH.nil
  go_simp
  go_at_call 75; refine (put_pos _ v (m * n) (L + L') _ _ HZ1.out HM1.out rfl).mono ?_; rintro e w2 hg; have HG1 := Lib.hid hg; have HG := Lib.hid (hg.of_below HB1.out); obtain ⟨rfl, -⟩ := id hg; clear hg
  go_wp2_with fail
  refine hK.out _ _ (self_neg HG1.out HZ1.out hzq (Nat.lt_of_lt_of_le hb2 HB1.out.size) (keep_four HB1.out HC.out hb1 hb2 hb1 hb2).2.1 (keep_four HB1.out HC.out hb1 hb2 hb1 hb2).2.2.2) (fun hHeld => ?_)
  clear hK K
  try simp only [Act.put, List.getElem_toArray, List.getElem_cons_zero, List.getElem_cons_succ, List.setIfInBounds_toArray, List.set_cons_zero, List.set_cons_succ]
  show wpAnyH _ _ _ _ _ (0 + 1) _ _ _
  refine wpAnyH_take (i := 20) (oi := _) (v := ?v20) rfl (by kernel_rfl) (by kernel_rfl) (by kernel_rfl) (fun _ _ _ h => h) (Or.inl ⟨by rfl, ?hy20⟩) (by assumption) ?rest20
  case hy20 => (intro w hSw; (try dsimp only at hSw); go_simp; try with_reducible rfl)
  try simp only [Act.put, List.getElem_toArray, List.getElem_cons_zero, List.getElem_cons_succ, List.setIfInBounds_toArray, List.set_cons_zero, List.set_cons_succ]
  refine wpAnyH_done (by kernel_rfl) ?_ _
  refine NoPanic.normal ?_
  go_wp2_with fail
  go_ret
  exact HG.out

set_option maxRecDepth 8000 in
set_option maxHeartbeats 4000000 in
/-- Quo: of numbers from 0 on -/
theorem Quo_any (z p q : Addr) (x y L L' : Nat) (w : World) (hz : Slot w z) (hp : IntAt w p (x : Int) L) (hq : IntAt w q (y : Int) L') (hL : L ≤ 268435456) (hL' : L' ≤ 268435456) (hy : 0 < y) (hL1 : 1 ≤ L) :
    Calls Tryz.prog 32 #[.pointer (some z), .pointer (some p), .pointer (some q)] w (Gives w z ((x / y : Nat) : Int) L) := by
  obtain ⟨b1, o1, A1, k1, c1, rfl, hb1, h3, h4, h5⟩ := hp.openN
  obtain ⟨b2, o2, A2, k2, c2, rfl, hb2, g3, g4, g5⟩ := hq.openN
  have HO := Lib.hid (over_any _ _ x y L L' w.drew (h5.below (Below.refl _ _).drew) (g5.below (Below.refl _ _).drew) hL hL' hy hL1)
  have HZ := Lib.hid hz
  have HC := Lib.hid (show w.drew.cell? ⟨b1, o1 + 1, none⟩ = some (.slice A1 k1 c1) ∧ w.drew.cell? ⟨b2, o2 + 1, none⟩ = some (.slice A2 k2 c2) from ⟨h4, g4⟩)
  clear h5 g5 hz hp hq
  go_enter Tryz.func32, Tryz.ntmps32
  go_wp2_with fail
  go_region_held3 (fun w' => w'.cell? ⟨b1, o1 + 1, none⟩ = some (.slice A1 k1 c1) ∧ w'.cell? ⟨b2, o2 + 1, none⟩ = some (.slice A2 k2 c2))
    (first | exact ⟨(HB.out.cell (p := ⟨b1, o1 + 1, none⟩) hb1).trans HC.out.1, (HB.out.cell (p := ⟨b2, o2 + 1, none⟩) hb2).trans HC.out.2⟩ | exact HC.out)
    (first | (go_at_call 79; refine HO.out.mono ?_; rintro e w1 ⟨qv, rv, rfl, hq, hr, hb⟩; have HB := Lib.hid ((Below.refl w.heap.size w).drew.trans hb); have HQ := Lib.hid hq; have HR := Lib.hid hr))
  have f3 := (HB.out.cell (p := ⟨b1, o1, none⟩) hb1).trans h3
  have f4 := (HB.out.cell (p := ⟨b2, o2, none⟩) hb2).trans g3
  obtain ⟨Aq, kq, cq, rfl, -, -⟩ := HQ.out.slice
  clear hq hr hb
  go_wp2_with fail
  go_still_tail 11, (by kernel_rfl)
  change wpList _ _ _ _ _ w1.drew
  go_wp2_with fail
  refine (put_pos z _ (x / y) L _ _ ((HZ.out.below HB.out).below (Below.refl _ _).drew) (HQ.out.below (Below.refl _ _).drew) rfl).mono ?_
  rintro e w2 hg
  have HG := Lib.hid (hg.of_below (HB.out.trans ((Below.refl _ _).drew.mono HB.out.size)))
  obtain ⟨rfl, -⟩ := id hg
  clear hg
  go_wp2_with fail
  go_ret
  exact HG.out

end Go.Proofs.YtmecnlgndaeidaaGreatDoor.Bg
