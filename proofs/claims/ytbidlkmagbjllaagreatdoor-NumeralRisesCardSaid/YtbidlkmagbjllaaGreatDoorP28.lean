/- RD7 RE1 in one text. -/
import Derived.Test.YtbidlkmagbjllaaGreatDoorP27
import Derived.StillTailTactics
import Derived.Test.YtbidlkmagbjllaaGreatDoorP13

namespace Go.Proofs.YtbidlkmagbjllaaGreatDoor.Bg
open Go Go.RowKit

theorem IntAt.openN {w : World} {p : Addr} {x L : Nat} (h : IntAt w p (x : Int) L) : ∃ (b off : Nat) (A : Option Addr) (k c : Nat), p = ⟨b, off, none⟩ ∧ b < w.heap.size ∧ w.cell? ⟨b, off, none⟩ = some (.bool false) ∧
    w.cell? ⟨b, off + 1, none⟩ = some (.slice A k c) ∧ MagN w (.slice A k c) x L := by
  obtain ⟨b1, o1, s1, A1, k1, c1, m, rfl, hb1, h3, h4, h5, h6, h7⟩ := h.open
  have e1 : s1 = false := by cases s1 with | false => rfl | true => simp at h6 h7; omega
  subst e1
  obtain rfl : m = x := by simp at h6; omega
  exact ⟨b1, o1, A1, k1, c1, rfl, hb1, h3, h4, h5⟩
theorem self_neg {w w' : World} {b1 o1 b2 o2 : Nat} {x L : Nat} {e : Ending} {A2 : Option Addr} {k2 c2 : Nat} (h : Gives w ⟨b1, o1, none⟩ (x : Int) L e w') (hz : Slot w ⟨b1, o1, none⟩) (hne : (⟨b2, o2, none⟩ : Addr) ≠ ⟨b1, o1, none⟩) (hb2 : b2 < w.heap.size)
    (h1 : w.cell? ⟨b2, o2, none⟩ = some (.bool false)) (h2 : w.cell? ⟨b2, o2 + 1, none⟩ = some (.slice A2 k2 c2)) :
    w'.cell? ⟨b1, o1, none⟩ = some (.bool false) ∧ w'.cell? ⟨b2, o2, none⟩ = some (.bool false) ∧ w'.cell? ⟨b2, o2 + 1, none⟩ = some (.slice A2 k2 c2) := by
  obtain ⟨q1, q2⟩ := h.2.1.pair hz hne hb2 h1 h2
  obtain ⟨b, off, A, k, c, e1, -, q3, -, -⟩ := h.2.2.openN
  injection e1 with e1 e2
  subst e1 e2
  exact ⟨q3, q1, q2⟩

set_option maxRecDepth 8000 in
set_option maxHeartbeats 4000000 in
/-- z = z y -/
theorem Mul_self (z q : Addr) (x y L L' : Nat) (w : World) (hz : Slot w z) (hp : IntAt w z (x : Int) L) (hq : IntAt w q (y : Int) L') (hzq : q ≠ z) (hL : L ≤ 536870912) (hL' : L' ≤ 536870912) :
    Calls Tryz.prog 59 #[.pointer (some z), .pointer (some z), .pointer (some q)] w (Gives w z ((x * y : Nat) : Int) (L + L')) := by
  obtain ⟨b1, o1, A1, k1, c1, rfl, hb1, h3, h4, h5⟩ := hp.openN
  obtain ⟨b2, o2, A2, k2, c2, rfl, hb2, g3, g4, g5⟩ := hq.openN
  have H5 := Lib.hid h5
  have G5 := Lib.hid g5
  have HZ := Lib.hid hz
  have HC := Lib.hid (show w.drew.cell? ⟨b1, o1, none⟩ = some (.bool false) ∧ w.drew.cell? ⟨b2, o2, none⟩ = some (.bool false) ∧ w.drew.cell? ⟨b1, o1 + 1, none⟩ = some (.slice A1 k1 c1) ∧ w.drew.cell? ⟨b2, o2 + 1, none⟩ = some (.slice A2 k2 c2) from ⟨h3, g3, h4, g4⟩)
  obtain ⟨m, rfl⟩ : ∃ m, m = x := ⟨_, rfl⟩
  obtain ⟨n, rfl⟩ : ∃ n, n = y := ⟨_, rfl⟩
  clear h5 g5 hz hp hq
  go_enter Tryz.func59, Tryz.ntmps59
  go_wp2_with fail
  refine wp_region_noPanic ?_
  refine wp_region_held_drew (S := (fun w' => w'.cell? ⟨b1, o1, none⟩ = some (.bool false) ∧ w'.cell? ⟨b2, o2, none⟩ = some (.bool false) ∧ w'.cell? ⟨b2, o2 + 1, none⟩ = some (.slice A2 k2 c2))) (by kernel_rfl) ⟨HC.out.1, HC.out.2.1, HC.out.2.2.2⟩ (fun hHeld => ?_)
  show wpAnyH _ _ _ _ _ (20 + 1) _ _ _
  refine wpAnyH_take (i := 0) (oi := _) (v := ?v0) rfl (by kernel_rfl) (by kernel_rfl) (by kernel_rfl) (fun _ _ _ h => h) (Or.inl ⟨by rfl, ?hy0⟩) (by assumption) ?rest0
  case hy0 => (intro w hSw; (try dsimp only at hSw); go_simp; try with_reducible rfl)
  try simp only [Act.put, List.getElem_toArray, List.getElem_cons_zero, List.setIfInBounds_toArray, List.set_cons_zero, List.set_cons_succ]
  show wpAnyH _ _ _ _ _ (19 + 1) _ _ _
  refine wpAnyH_take (i := 1) (oi := _) (v := ?v1) rfl (by kernel_rfl) (by kernel_rfl) (by kernel_rfl) (fun _ _ _ h => h) (Or.inl ⟨by rfl, ?hy1⟩) (by assumption) ?rest1
  case hy1 => (intro w hSw; (try dsimp only at hSw); go_simp; try with_reducible rfl)
  try simp only [Act.put, List.getElem_toArray, List.getElem_cons_zero, List.getElem_cons_succ, List.setIfInBounds_toArray, List.set_cons_zero, List.set_cons_succ]
  show wpAnyH _ _ _ _ _ (18 + 1) _ _ _
  refine wpAnyH_take (i := 2) (oi := _) (v := ?v2) rfl (by kernel_rfl) (by kernel_rfl) (by kernel_rfl) (fun _ _ _ h => h) (Or.inl ⟨by rfl, ?hy2⟩) (by assumption) ?rest2
  case hy2 => (intro w hSw; (try dsimp only at hSw); go_simp; try with_reducible rfl)
  try simp only [Act.put, List.getElem_toArray, List.getElem_cons_zero, List.getElem_cons_succ, List.setIfInBounds_toArray, List.set_cons_zero, List.set_cons_succ]
  show wpAnyH _ _ _ _ _ (17 + 1) _ _ _
  refine wpAnyH_take (i := 3) (oi := _) (v := ?v3) rfl (by kernel_rfl) (by kernel_rfl) (by kernel_rfl) (fun _ _ _ h => h) (Or.inl ⟨by rfl, ?hy3⟩) (by assumption) ?rest3
  case hy3 => (intro w hSw; (try dsimp only at hSw); go_simp; try with_reducible rfl)
  try simp only [Act.put, List.getElem_toArray, List.getElem_cons_zero, List.getElem_cons_succ, List.setIfInBounds_toArray, List.set_cons_zero, List.set_cons_succ]
  show wpAnyH _ _ _ _ _ (16 + 1) _ _ _
  refine wpAnyH_take (i := 4) (oi := _) (v := ?v4) rfl (by kernel_rfl) (by kernel_rfl) (by kernel_rfl) (fun _ _ _ h => h) (Or.inl ⟨by rfl, ?hy4⟩) (by assumption) ?rest4
  case hy4 => (intro w hSw; (try dsimp only at hSw); go_simp; try with_reducible rfl)
  try simp only [Act.put, List.getElem_toArray, List.getElem_cons_zero, List.getElem_cons_succ, List.setIfInBounds_toArray, List.set_cons_zero, List.set_cons_succ]
  show wpAnyH _ _ _ _ _ (15 + 1) _ _ _
  refine wpAnyH_take (i := 5) (oi := _) (v := ?v5) rfl (by kernel_rfl) (by kernel_rfl) (by kernel_rfl) (fun _ _ _ h => h) (Or.inl ⟨by rfl, ?hy5⟩) (by assumption) ?rest5
  case hy5 => (intro w hSw; (try dsimp only at hSw); go_simp; try with_reducible rfl)
  try simp only [Act.put, List.getElem_toArray, List.getElem_cons_zero, List.getElem_cons_succ, List.setIfInBounds_toArray, List.set_cons_zero, List.set_cons_succ]
  show wpAnyH _ _ _ _ _ (14 + 1) _ _ _
  refine wpAnyH_take (i := 6) (oi := _) (v := ?v6) rfl (by kernel_rfl) (by kernel_rfl) (by kernel_rfl) (fun _ _ _ h => h) (Or.inl ⟨by rfl, ?hy6⟩) (by assumption) ?rest6
  case hy6 => (intro w hSw; (try dsimp only at hSw); go_simp; try with_reducible rfl)
  try simp only [Act.put, List.getElem_toArray, List.getElem_cons_zero, List.getElem_cons_succ, List.setIfInBounds_toArray, List.set_cons_zero, List.set_cons_succ]
  show wpAnyH _ _ _ _ _ (13 + 1) _ _ _
  refine wpAnyH_take (i := 7) (oi := _) (v := ?v7) rfl (by kernel_rfl) (by kernel_rfl) (by kernel_rfl) (fun _ _ _ h => h) (Or.inl ⟨by rfl, ?hy7⟩) (by assumption) ?rest7
  case hy7 => (intro w hSw; (try dsimp only at hSw); go_simp; try with_reducible rfl)
  try simp only [Act.put, List.getElem_toArray, List.getElem_cons_zero, List.getElem_cons_succ, List.setIfInBounds_toArray, List.set_cons_zero, List.set_cons_succ]
  show wpAnyH _ _ _ _ _ (12 + 1) _ _ _
  refine wpAnyH_take (i := 8) (oi := _) (v := ?v8) rfl (by kernel_rfl) (by kernel_rfl) (by kernel_rfl) (fun _ _ _ h => h) (Or.inl ⟨by rfl, ?hy8⟩) (by assumption) ?rest8
  case hy8 => (intro w hSw; (try dsimp only at hSw); go_simp; try with_reducible rfl)
  try simp only [Act.put, List.getElem_toArray, List.getElem_cons_zero, List.getElem_cons_succ, List.setIfInBounds_toArray, List.set_cons_zero, List.set_cons_succ]
  show wpAnyH _ _ _ _ _ (11 + 1) _ _ _
  refine wpAnyH_take (i := 9) (oi := _) (v := ?v9) rfl (by kernel_rfl) (by kernel_rfl) (by kernel_rfl) (fun _ _ _ h => h) (Or.inl ⟨by rfl, ?hy9⟩) (by assumption) ?rest9
  case hy9 => (intro w hSw; (try dsimp only at hSw); go_simp; try with_reducible rfl)
  try simp only [Act.put, List.getElem_toArray, List.getElem_cons_zero, List.getElem_cons_succ, List.setIfInBounds_toArray, List.set_cons_zero, List.set_cons_succ]
  show wpAnyH _ _ _ _ _ (10 + 1) _ _ _
  refine wpAnyH_take (i := 10) (oi := _) (v := ?v10) rfl (by kernel_rfl) (by kernel_rfl) (by kernel_rfl) (fun _ _ _ h => h) (Or.inl ⟨by rfl, ?hy10⟩) (by assumption) ?rest10
  case hy10 => (intro w hSw; (try dsimp only at hSw); go_simp; try with_reducible rfl)
  try simp only [Act.put, List.getElem_toArray, List.getElem_cons_zero, List.getElem_cons_succ, List.setIfInBounds_toArray, List.set_cons_zero, List.set_cons_succ]
  show wpAnyH _ _ _ _ _ (9 + 1) _ _ _
  refine wpAnyH_take (i := 11) (oi := _) (v := ?v11) rfl (by kernel_rfl) (by kernel_rfl) (by kernel_rfl) (fun _ _ _ h => h) (Or.inl ⟨by rfl, ?hy11⟩) (by assumption) ?rest11
  case hy11 => (intro w hSw; (try dsimp only at hSw); go_simp; try with_reducible rfl)
  try simp only [Act.put, List.getElem_toArray, List.getElem_cons_zero, List.getElem_cons_succ, List.setIfInBounds_toArray, List.set_cons_zero, List.set_cons_succ]
  show wpAnyH _ _ _ _ _ (8 + 1) _ _ _
  refine wpAnyH_take (i := 12) (oi := _) (v := ?v12) rfl (by kernel_rfl) (by kernel_rfl) (by kernel_rfl) (fun _ _ _ h => h) (Or.inl ⟨by rfl, ?hy12⟩) (by assumption) ?rest12
  case hy12 => (intro w hSw; (try dsimp only at hSw); go_simp; try with_reducible rfl)
  try simp only [Act.put, List.getElem_toArray, List.getElem_cons_zero, List.getElem_cons_succ, List.setIfInBounds_toArray, List.set_cons_zero, List.set_cons_succ]
  show wpAnyH _ _ _ _ _ (7 + 1) _ _ _
  refine wpAnyH_take (i := 14) (oi := _) (v := ?v14) rfl (by kernel_rfl) (by kernel_rfl) (by kernel_rfl) (fun _ _ _ h => h) (Or.inl ⟨by rfl, ?hy14⟩) (by assumption) ?rest14
  case hy14 => (intro w hSw; (try dsimp only at hSw); go_simp; try with_reducible rfl)
  try simp only [Act.put, List.getElem_toArray, List.getElem_cons_zero, List.getElem_cons_succ, List.setIfInBounds_toArray, List.set_cons_zero, List.set_cons_succ]
  show wpAnyH _ _ _ _ _ (6 + 1) _ _ _
  refine wpAnyH_take (i := 15) (oi := _) (v := ?v15) rfl (by kernel_rfl) (by kernel_rfl) (by kernel_rfl) (fun _ _ _ h => h) (Or.inl ⟨by rfl, ?hy15⟩) (by assumption) ?rest15
  case hy15 => (intro w hSw; (try dsimp only at hSw); go_simp; try with_reducible rfl)
  try simp only [Act.put, List.getElem_toArray, List.getElem_cons_zero, List.getElem_cons_succ, List.setIfInBounds_toArray, List.set_cons_zero, List.set_cons_succ]
  show wpAnyH _ _ _ _ _ (5 + 1) _ _ _
  refine wpAnyH_take (i := 16) (oi := _) (v := ?v16) rfl (by kernel_rfl) (by kernel_rfl) (by kernel_rfl) (fun _ _ _ h => h) (Or.inl ⟨by rfl, ?hy16⟩) (by assumption) ?rest16
  case hy16 => (intro w hSw; (try dsimp only at hSw); go_simp; try with_reducible rfl)
  try simp only [Act.put, List.getElem_toArray, List.getElem_cons_zero, List.getElem_cons_succ, List.setIfInBounds_toArray, List.set_cons_zero, List.set_cons_succ]
  show wpAnyH _ _ _ _ _ (4 + 1) _ _ _
  refine wpAnyH_take (i := 17) (oi := _) (v := ?v17) rfl (by kernel_rfl) (by kernel_rfl) (by kernel_rfl) (fun _ _ _ h => h) (Or.inl ⟨by rfl, ?hy17⟩) (by assumption) ?rest17
  case hy17 => (intro w hSw; (try dsimp only at hSw); go_simp; try with_reducible rfl)
  try simp only [Act.put, List.getElem_toArray, List.getElem_cons_zero, List.getElem_cons_succ, List.setIfInBounds_toArray, List.set_cons_zero, List.set_cons_succ]
  show wpAnyH _ _ _ _ _ (3 + 1) _ _ _
  refine wpAnyH_ready (rs := [13]) (by kernel_rfl) (by simp) ?_
  refine AllReadyH.cons (o := _) rfl (fun K hK => ?_) AllReadyH.nil
  go_simp
  refine hK.out _ _ ⟨HC.out.1, HC.out.2.1, HC.out.2.2.2⟩ (fun hHeld => ?_)
  clear hK K
  try simp only [Act.put, List.getElem_toArray, List.getElem_cons_zero, List.getElem_cons_succ, List.setIfInBounds_toArray, List.set_cons_zero, List.set_cons_succ]
  show wpAnyH _ _ _ _ _ (2 + 1) _ _ _
  refine wpAnyH_ready (rs := [18]) (by kernel_rfl) (by simp) ?_
  refine AllReadyH.cons (o := _) rfl (fun K hK => ?_) AllReadyH.nil
  go_simp
  go_at_call 37; refine (times_mag _ _ m n L L' _ (H5.out.below (Below.refl _ _).drew) (G5.out.below (Below.refl _ _).drew) hL hL').mono ?_; rintro e w1 ⟨v, rfl, hm, hb⟩; have HB1 : Hid (Below w.heap.size w w1) := Lib.hid ((Below.refl _ _).drew.trans hb); have HM1 := Lib.hid hm; have HZ1 := Lib.hid (HZ.out.below HB1.out); clear hm hb
  go_wp2_with fail
  refine hK.out _ _ (have h := keep_four HB1.out HC.out hb1 hb2 hb1 hb2; ⟨h.1, h.2.1, h.2.2.2⟩) (fun hHeld => ?_)
  clear hK K
  try simp only [Act.put, List.getElem_toArray, List.getElem_cons_zero, List.getElem_cons_succ, List.setIfInBounds_toArray, List.set_cons_zero, List.set_cons_succ]
  show wpAnyH _ _ _ _ _ (1 + 1) _ _ _
  refine wpAnyH_ready (rs := [19]) (by kernel_rfl) (by simp) ?_
  refine AllReadyH.cons (o := _) rfl (fun K hK => ?_) AllReadyH.nil
  go_simp
  go_at_call 39; refine (put_pos _ v (m * n) (L + L') _ _ HZ1.out HM1.out rfl).mono ?_; rintro e w2 hg; have HG1 := Lib.hid hg; have HG := Lib.hid (hg.of_below HB1.out); obtain ⟨rfl, -⟩ := id hg; clear hg
  go_wp2_with fail
  refine hK.out _ _ (self_neg HG1.out HZ1.out hzq (Nat.lt_of_lt_of_le hb2 HB1.out.size) (keep_four HB1.out HC.out hb1 hb2 hb1 hb2).2.1 (keep_four HB1.out HC.out hb1 hb2 hb1 hb2).2.2.2) (fun hHeld => ?_)
  clear hK K
  try simp only [Act.put, List.getElem_toArray, List.getElem_cons_zero, List.getElem_cons_succ, List.setIfInBounds_toArray, List.set_cons_zero, List.set_cons_succ]
  show wpAnyH _ _ _ _ _ (0 + 1) _ _ _
  refine wpAnyH_take (i := 20) (oi := _) (v := ?v20) rfl (by kernel_rfl) (by kernel_rfl) (by kernel_rfl) (fun _ _ _ h => h) (Or.inl ⟨by rfl, ?hy20⟩) (by assumption) ?rest20
  case hy20 => (intro w hSw; (try dsimp only at hSw); go_simp; try with_reducible rfl)
  try simp only [Act.put, List.getElem_toArray, List.getElem_cons_zero, List.getElem_cons_succ, List.setIfInBounds_toArray, List.set_cons_zero, List.set_cons_succ]
  refine wpAnyH_done (by kernel_rfl) ?_ _
  refine NoPanic.normal ?_
  go_wp2_with fail
  go_ret
  exact HG.out

/-- what QuoRem leaves: the quotient and the rest are written into two numbers -/
def Gives2 (w : World) (z r : Addr) (a b L L' : Nat) (e : Ending) (w' : World) : Prop :=
  e = .returned (.tuple #[.pointer (some z), .pointer (some r)]) ∧ (∃ w1, Wrote w w1 r ∧ Wrote w1 w' z) ∧ IntAt w' z (a : Int) L ∧ IntAt w' r (b : Int) L'

set_option maxRecDepth 8000 in
set_option maxHeartbeats 4000000 in
/-- QuoRem: of numbers from 0 on -/
theorem QuoRem_any (z p q r : Addr) (x y L L' : Nat) (w : World) (hz : Slot w z) (hr : Slot w r) (hp : IntAt w p (x : Int) L) (hq : IntAt w q (y : Int) L') (hrz : r ≠ z) (hL : L ≤ 268435456) (hL' : L' ≤ 268435456) (hy : 0 < y) (hL1 : 1 ≤ L) :
    Calls Tryz.prog 61 #[.pointer (some z), .pointer (some p), .pointer (some q), .pointer (some r)] w (Gives2 w z r (x / y) (x % y) L L') := by
  obtain ⟨b1, o1, A1, k1, c1, rfl, hb1, h3, h4, h5⟩ := hp.openN
  obtain ⟨b2, o2, A2, k2, c2, rfl, hb2, g3, g4, g5⟩ := hq.openN
  have HO := Lib.hid (over_any _ _ x y L L' w.drew (h5.below (Below.refl _ _).drew) (g5.below (Below.refl _ _).drew) hL hL' hy hL1)
  have HZ := Lib.hid (And.intro hz hr)
  have HC := Lib.hid (show w.drew.cell? ⟨b1, o1 + 1, none⟩ = some (.slice A1 k1 c1) ∧ w.drew.cell? ⟨b2, o2 + 1, none⟩ = some (.slice A2 k2 c2) from ⟨h4, g4⟩)
  clear h5 g5 hz hp hq hr
  go_enter Tryz.func61, Tryz.ntmps61
  go_wp2_with fail
  go_region_held3 (fun w' => w'.cell? ⟨b1, o1 + 1, none⟩ = some (.slice A1 k1 c1) ∧ w'.cell? ⟨b2, o2 + 1, none⟩ = some (.slice A2 k2 c2))
    (first | exact ⟨(HB.out.cell (p := ⟨b1, o1 + 1, none⟩) hb1).trans HC.out.1, (HB.out.cell (p := ⟨b2, o2 + 1, none⟩) hb2).trans HC.out.2⟩ | exact HC.out)
    (first | (go_at_call 114; refine HO.out.mono ?_; rintro e w1 ⟨qv, rv, rfl, hq, hr, hb⟩; have HB := Lib.hid ((Below.refl w.heap.size w).drew.trans hb); have HQ := Lib.hid hq; have HR := Lib.hid hr))
  have f3 := (HB.out.cell (p := ⟨b1, o1, none⟩) hb1).trans h3
  have f4 := (HB.out.cell (p := ⟨b2, o2, none⟩) hb2).trans g3
  obtain ⟨Aq, kq, cq, rfl, -, -⟩ := HQ.out.slice
  obtain ⟨Ar, kr, cr, rfl, -, -⟩ := HR.out.slice
  clear hq hr hb
  go_wp2_with fail
  go_quiet (fail)
  go_wp2_with fail
  refine (put_pos r _ (x % y) L' _ _ ((HZ.out.2.below HB.out).below (below_dN (Below.refl _ _) _)) (HR.out.below (below_dN (Below.refl _ _) _)) rfl).mono ?_
  rintro e w2 hg
  have HG := Lib.hid hg
  obtain ⟨rfl, -⟩ := id hg
  have HS := Lib.hid (HG.out.2.1.slot ((HZ.out.2.below HB.out).below (below_dN (Below.refl _ _) _)) ((HZ.out.1.below HB.out).below (below_dN (Below.refl _ _) _)))
  have HM := Lib.hid (HG.out.2.1.magN ((HZ.out.2.below HB.out).below (below_dN (Below.refl _ _) _)) (HQ.out.below (below_dN (Below.refl _ _) _)))
  clear hg
  go_wp2_with fail
  refine (put_pos z _ (x / y) L _ _ HS.out HM.out rfl).mono ?_
  rintro e w3 hg
  have HG3 := Lib.hid hg
  obtain ⟨rfl, -⟩ := id hg
  clear hg
  go_wp2_with fail
  go_ret2
  exact ⟨rfl, ⟨w2, HG.out.2.1.of_below (HB.out.trans (below_dN (Below.refl _ _) _ |>.mono HB.out.size)), HG3.out.2.1⟩, HG3.out.2.2, HG3.out.2.1.intAt HS.out HG.out.2.2 hrz⟩
end Go.Proofs.YtbidlkmagbjllaaGreatDoor.Bg

namespace Go.Proofs.YtbidlkmagbjllaaGreatDoor.Bg
open Go Go.RowKit

/-- a byte that is a digit -/
def DigB (b : UInt8) : Prop := 48 ≤ b.toNat ∧ b.toNat ≤ 57
theorem getD_get (s : ByteArray) (k : Nat) (h : k < s.size) : s.data.toList.getD k 0 = s[k] := by
  rw [List.getD_eq_getElem?_getD, List.getElem?_eq_getElem (by simpa using h)]
  rfl

/-- from i to j there are digits, and none stands at j -/
def DigEnd (s : ByteArray) (i j : Nat) : Prop := (∀ k, i ≤ k → k < j → DigB (s.data.toList.getD k 0)) ∧ (j < s.size → ¬ DigB (s.data.toList.getD j 0))
set_option maxHeartbeats 1000000 in
theorem rdigits_any (s : ByteArray) (i : Nat) (w : World) (hi : i ≤ s.size) (hs : s.size ≤ 1000000) :
    Calls Tryz.prog 11 #[.string s, .int .i64 (i : Int)] w fun e w' => ∃ j : Nat, e = .returned (.int .i64 (j : Int)) ∧ i ≤ j ∧ j ≤ s.size ∧ DigEnd s i j ∧ w = w' := by
  have hsi : (s.size : Int) ≤ 1000000 := by omega
  go_enter Tryz.func11, Tryz.ntmps11
  go_wp2_with fail
  go_loop [1] (fun v => ∃ k : Nat, i ≤ k ∧ k ≤ s.size ∧ v = .int .i64 (k : Int) ∧ Hid (∀ m, i ≤ m → m < k → DigB (s.data.toList.getD m 0))) (fun v => s.size - (intOf v).toNat)
  case atStart => exact ⟨i, Nat.le_refl _, hi, rfl, Lib.hid (fun m h1 h2 => by omega)⟩
  case round =>
    obtain ⟨k, hk, hks, rfl, hh⟩ := hrel
    by_cases hlt : k < s.size
    · have hki : (k : Int) < (s.size : Int) := by omega
      have HG := Lib.hid (getD_get s k hlt)
      by_cases c1 : 48 ≤ s[k].toNat
      · have d1 : (48 : Int) ≤ (s[k].toNat : Int) := by omega
        by_cases c2 : s[k].toNat ≤ 57
        · have d2 : (s[k].toNat : Int) ≤ 57 := by omega
          have HX : Hid (∀ m, i ≤ m → m < k + 1 → DigB (s.data.toList.getD m 0)) := Lib.hid (fun m h1 h2 => by
            rcases Nat.lt_or_ge m k with h | h
            · exact hh.out m h1 h
            · rw [show m = k by omega, HG.out]; exact ⟨c1, c2⟩)
          go_wp2_with fail
          go_round
          case rel => exact ⟨k + 1, by omega, by omega, by go_num, HX⟩
          case measure => simp [intOf]; omega
        · have d2 : ¬ (s[k].toNat : Int) ≤ 57 := by omega
          go_wp2_with fail
          go_ret
          exact ⟨k, rfl, hk, hks, ⟨hh.out, fun _ h => by rw [HG.out] at h; exact c2 h.2⟩, rfl⟩
      · have d1 : ¬ (48 : Int) ≤ (s[k].toNat : Int) := by omega
        go_wp2_with fail
        go_ret
        exact ⟨k, rfl, hk, hks, ⟨hh.out, fun _ h => by rw [HG.out] at h; exact c1 h.1⟩, rfl⟩
    · have hki : ¬ (k : Int) < (s.size : Int) := by omega
      go_wp2_with fail
      go_ret
      exact ⟨k, rfl, hk, hks, ⟨hh.out, fun h => absurd h hlt⟩, rfl⟩
end Go.Proofs.YtbidlkmagbjllaaGreatDoor.Bg
