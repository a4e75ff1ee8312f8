/- HB16 HB17 in one text. -/
import Derived.Test.YtgccfdfbnhldbaaGreatDoorP35
import Derived.Test.YtgccfdfbnhldbaaGreatDoorP25
import Derived.StillTailTactics

namespace Go.Proofs.YtgccfdfbnhldbaaGreatDoor.Nb
open Go Go.RowKit

/-- the text of a number, that of nought too -/
def digN (n : Nat) : List UInt8 := if n = 0 then [48] else dig n
set_option maxRecDepth 8000 in
theorem textL (u : Value) (N L : Nat) (w : World) (hu : MagN w u N L) (hL1 : 1 ≤ L) (hL : L ≤ 400) (hlen : (revDig N).length ≤ 1000000) (S : ByteArray) (hS : (⟨(digN N).toArray⟩ : ByteArray) = S) :
    Calls Tryz.prog 156 #[u, .int .i64 10] w fun e w' => e = .returned (.string S) ∧ Below w.heap.size w w' := by
  by_cases h0 : N = 0
  · subst h0
    obtain ⟨A, k, c, rfl⟩ := hu.slice
    obtain rfl := hu.zeroLen
    subst hS
    clear hu
    go_enter Tryz.func156, Tryz.ntmps156
    go_wp2_with fail
    go_ret
    exact ⟨rfl, Below.refl _ _⟩
  · exact text_any u N L w hu (Nat.pos_of_ne_zero h0) hL1 hL hlen S (by rw [← hS]; unfold digN; rw [if_neg h0])
set_option maxRecDepth 8000 in
theorem stringL (b o N L : Nat) (S : ByteArray) (w : World) (hx : IntL w b o false N L) (hL1 : 1 ≤ L) (hL : L ≤ 400) (hlen : (revDig N).length ≤ 1000000) (hS : (⟨(digN N).toArray⟩ : ByteArray) = S) :
    Calls Tryz.prog 44 #[.pointer (some ⟨b, o, none⟩)] w fun e w' => e = .returned (.string S) ∧ Below w.heap.size w w' := by
  have HT : Hid (Calls Tryz.prog 102 #[.pointer (some ⟨b, o, none⟩), .int .i64 10] w fun e w' => e = .returned (.string S) ∧ Below w.heap.size w w') := Lib.hid (by
    obtain ⟨hb, h2, A, k, c, h3, h4⟩ := hx
    have HX := Lib.hid (textL _ N L w h4 hL1 hL hlen S hS)
    clear h4
    go_enter Tryz.func102, Tryz.ntmps102
    go_wp2_with fail
    refine HX.out.mono ?_
    rintro e w1 ⟨rfl, hb1⟩
    have HB := Lib.hid hb1
    clear hb1
    go_wp2_with fail
    go_ret
    exact ⟨rfl, HB.out⟩)
  clear hx hS
  go_enter Tryz.func44, Tryz.ntmps44
  go_wp2_with fail
  refine HT.out.mono ?_
  rintro e w1 ⟨rfl, hb1⟩
  have HB := Lib.hid hb1
  clear hb1
  go_wp2_with fail
  go_ret
  exact ⟨rfl, HB.out⟩
set_option maxRecDepth 8000 in
set_option maxHeartbeats 1000000 in
theorem lshL (z zo b o X N L : Nat) (w : World) (h : ISlot w z zo) (hx : IntL w b o false X L) (hL : L + N / 64 ≤ 536870912) :
    Calls Tryz.prog 43 #[.pointer (some ⟨z, zo, none⟩), .pointer (some ⟨b, o, none⟩), .int .u64 (N : Int)] w (WroteL w z zo false (X * 2 ^ N) (L + N / 64 + 1)) := by
  obtain ⟨hb, h2, A, k, c, h3, h4⟩ := hx
  have H := Lib.hid h
  have HC := Lib.hid (fun j => left_any _ X N L (w.drewN j) (show MagN (w.drewN j) _ X L from h4) hL)
  obtain ⟨T, hT⟩ : ∃ T, X * 2 ^ N = T := ⟨_, rfl⟩
  rw [hT] at HC ⊢
  clear h h4 hT
  go_enter Tryz.func43, Tryz.ntmps43
  go_wp2_with fail
  go_region_with (first
    | (go_at_call 101; refine (HC.out _).mono ?_; rintro e w1 ⟨v, rfl, hm, hbw⟩; obtain ⟨A1, k1, c1, rfl⟩ := hm.slice; have hb2 : Below w.heap.size w w1 := (below_dN (Below.refl _ _) _).trans hbw; have y0 := (hb2.cell (p := ⟨b, o, none⟩) hb).trans h2; have HM := Lib.hid (made_numL z zo T _ false A1 k1 c1 w1 (H.out.below hb2 (Nat.le_refl _)) hm (by simp)); have HB := Lib.hid (hb2.mono (Nat.le_of_lt H.out.1)); clear hm hbw hb2)
    | (go_at_call 99; refine HM.out.mono ?_; rintro e w2 ⟨rfl, h1, h2, h3⟩; have HF := Lib.hid (And.intro h1 (And.intro h2 (HB.out.trans h3))); clear h1 h2 h3))
  all_goals go_wp2_with fail
  all_goals (go_ret; exact ⟨rfl, HF.out.1, HF.out.2.1, HF.out.2.2⟩)
end Go.Proofs.YtgccfdfbnhldbaaGreatDoor.Nb

namespace Go.Proofs.YtgccfdfbnhldbaaGreatDoor.Nb
open Go Go.RowKit

theorem three_kept {w w' : World} {b1 o1 b2 o2 : Nat} {v0 v1 v2 : Value} (h : Below w.heap.size w w') (h0 : w.cell? ⟨b1, o1, none⟩ = some v0) (h1 : w.cell? ⟨b2, o2, none⟩ = some v1) (h2 : w.cell? ⟨b2, o2 + 1, none⟩ = some v2) (hb1 : b1 < w.heap.size) (hb2 : b2 < w.heap.size) :
    w'.cell? ⟨b1, o1, none⟩ = some v0 ∧ w'.cell? ⟨b2, o2, none⟩ = some v1 ∧ w'.cell? ⟨b2, o2 + 1, none⟩ = some v2 :=
  ⟨(h.cell (p := ⟨b1, o1, none⟩) hb1).trans h0, (h.cell (p := ⟨b2, o2, none⟩) hb2).trans h1, (h.cell (p := ⟨b2, o2 + 1, none⟩) hb2).trans h2⟩
theorem three_put {w : World} {b1 o1 b2 o2 : Nat} {v0 v1 v2 v : Value} {neg : Bool} {u0 : Value} (h0 : (put w b1 o1 neg v).cell? ⟨b1, o1, none⟩ = some v0) (hne : b2 ≠ b1) (h : w.cell? ⟨b1, o1, none⟩ = some u0 ∧ w.cell? ⟨b2, o2, none⟩ = some v1 ∧ w.cell? ⟨b2, o2 + 1, none⟩ = some v2) :
    (put w b1 o1 neg v).cell? ⟨b1, o1, none⟩ = some v0 ∧ (put w b1 o1 neg v).cell? ⟨b2, o2, none⟩ = some v1 ∧ (put w b1 o1 neg v).cell? ⟨b2, o2 + 1, none⟩ = some v2 :=
  ⟨h0, (put_cell _ _ (.inl hne)).trans h.2.1, (put_cell _ _ (.inl hne)).trans h.2.2⟩
set_option maxRecDepth 8000 in
set_option maxHeartbeats 4000000 in
/-- z = z y -/
theorem mul_selfL (b1 o1 b2 o2 m n L L' : Nat) (w : World) (hz : ISlot w b1 o1) (hx : IntL w b1 o1 false m L) (hy : IntL w b2 o2 false n L') (hzq : b2 ≠ b1) (hL : L ≤ 536870912) (hL' : L' ≤ 536870912) :
    Calls Tryz.prog 45 #[.pointer (some ⟨b1, o1, none⟩), .pointer (some ⟨b1, o1, none⟩), .pointer (some ⟨b2, o2, none⟩)] w (WroteL w b1 o1 false (m * n) (L + L')) := by
  obtain ⟨hb1, h3, A1, k1, c1, h4, h5⟩ := hx
  obtain ⟨hb2, g3, A2, k2, c2, g4, g5⟩ := hy
  have H5 := Lib.hid h5
  have G5 := Lib.hid g5
  have HZ := Lib.hid hz
  have HC := Lib.hid (show w.drew.cell? ⟨b1, o1, none⟩ = some (.bool false) ∧ w.drew.cell? ⟨b2, o2, none⟩ = some (.bool false) ∧ w.drew.cell? ⟨b1, o1 + 1, none⟩ = some (.slice A1 k1 c1) ∧ w.drew.cell? ⟨b2, o2 + 1, none⟩ = some (.slice A2 k2 c2) from ⟨h3, g3, h4, g4⟩)
  clear h5 g5 hz
  go_enter Tryz.func45, Tryz.ntmps45
  go_wp2_with fail
  refine wp_region_noPanic ?_
  refine wp_region_held_drew (S := (fun w' => w'.cell? ⟨b1, o1, none⟩ = some (.bool false) ∧ w'.cell? ⟨b2, o2, none⟩ = some (.bool false) ∧ w'.cell? ⟨b2, o2 + 1, none⟩ = some (.slice A2 k2 c2))) (by kernel_rfl) ⟨HC.out.1, HC.out.2.1, HC.out.2.2.2⟩ (fun hHeld => ?_)
  show wpAnyH _ _ _ _ _ (20 + 1) _ _ _
  refine wpAnyH_take (i := 0) (oi := _) (v := ?v0) rfl (by kernel_rfl) (by kernel_rfl) (by kernel_rfl) (fun _ _ _ h => h) (Or.inl ⟨by rfl, ?hy0⟩) (by assumption) ?rest0
  case hy0 => (intro w hSw; (try dsimp only at hSw); go_simp; try with_reducible rfl)
  try simp only [Act.put, List.getElem_toArray, List.getElem_cons_zero, List.setIfInBounds_toArray, List.set_cons_zero, List.set_cons_succ]
  show wpAnyH _ _ _ _ _ (19 + 1) _ _ _
  refine wpAnyH_take (i := 1) (oi := _) (v := ?v1) rfl (by kernel_rfl) (by kernel_rfl) (by kernel_rfl) (fun _ _ _ h => h) (Or.inl ⟨by rfl, ?hy1⟩) (by assumption) ?rest1
  case hy1 => (intro w hSw; (try dsimp only at hSw); go_simp; try with_reducible rfl)
  try simp only [Act.put, List.getElem_toArray, List.getElem_cons_zero, List.getElem_cons_succ, List.setIfInBounds_toArray, List.set_cons_zero, List.set_cons_succ]
  show wpAnyH _ _ _ _ _ (18 + 1) _ _ _
  refine wpAnyH_take (i := 2) (oi := _) (v := ?v2) rfl (by kernel_rfl) (by kernel_rfl) (by kernel_rfl) (fun _ _ _ h => h) (Or.inl ⟨by rfl, ?hy2⟩) (by assumption) ?rest2
  case hy2 => (intro w hSw; (try dsimp only at hSw); go_simp; try with_reducible rfl)
  try simp only [Act.put, List.getElem_toArray, List.getElem_cons_zero, List.getElem_cons_succ, List.setIfInBounds_toArray, List.set_cons_zero, List.set_cons_succ]
  show wpAnyH _ _ _ _ _ (17 + 1) _ _ _
  refine wpAnyH_take (i := 3) (oi := _) (v := ?v3) rfl (by kernel_rfl) (by kernel_rfl) (by kernel_rfl) (fun _ _ _ h => h) (Or.inl ⟨by rfl, ?hy3⟩) (by assumption) ?rest3
  case hy3 => (intro w hSw; (try dsimp only at hSw); go_simp; try with_reducible rfl)
  try simp only [Act.put, List.getElem_toArray, List.getElem_cons_zero, List.getElem_cons_succ, List.setIfInBounds_toArray, List.set_cons_zero, List.set_cons_succ]
  show wpAnyH _ _ _ _ _ (16 + 1) _ _ _
  refine wpAnyH_take (i := 4) (oi := _) (v := ?v4) rfl (by kernel_rfl) (by kernel_rfl) (by kernel_rfl) (fun _ _ _ h => h) (Or.inl ⟨by rfl, ?hy4⟩) (by assumption) ?rest4
  case hy4 => (intro w hSw; (try dsimp only at hSw); go_simp; try with_reducible rfl)
  try simp only [Act.put, List.getElem_toArray, List.getElem_cons_zero, List.getElem_cons_succ, List.setIfInBounds_toArray, List.set_cons_zero, List.set_cons_succ]
  show wpAnyH _ _ _ _ _ (15 + 1) _ _ _
  refine wpAnyH_take (i := 5) (oi := _) (v := ?v5) rfl (by kernel_rfl) (by kernel_rfl) (by kernel_rfl) (fun _ _ _ h => h) (Or.inl ⟨by rfl, ?hy5⟩) (by assumption) ?rest5
  case hy5 => (intro w hSw; (try dsimp only at hSw); go_simp; try with_reducible rfl)
  try simp only [Act.put, List.getElem_toArray, List.getElem_cons_zero, List.getElem_cons_succ, List.setIfInBounds_toArray, List.set_cons_zero, List.set_cons_succ]
  show wpAnyH _ _ _ _ _ (14 + 1) _ _ _
  refine wpAnyH_take (i := 6) (oi := _) (v := ?v6) rfl (by kernel_rfl) (by kernel_rfl) (by kernel_rfl) (fun _ _ _ h => h) (Or.inl ⟨by rfl, ?hy6⟩) (by assumption) ?rest6
  case hy6 => (intro w hSw; (try dsimp only at hSw); go_simp; try with_reducible rfl)
  try simp only [Act.put, List.getElem_toArray, List.getElem_cons_zero, List.getElem_cons_succ, List.setIfInBounds_toArray, List.set_cons_zero, List.set_cons_succ]
  show wpAnyH _ _ _ _ _ (13 + 1) _ _ _
  refine wpAnyH_take (i := 7) (oi := _) (v := ?v7) rfl (by kernel_rfl) (by kernel_rfl) (by kernel_rfl) (fun _ _ _ h => h) (Or.inl ⟨by rfl, ?hy7⟩) (by assumption) ?rest7
  case hy7 => (intro w hSw; (try dsimp only at hSw); go_simp; try with_reducible rfl)
  try simp only [Act.put, List.getElem_toArray, List.getElem_cons_zero, List.getElem_cons_succ, List.setIfInBounds_toArray, List.set_cons_zero, List.set_cons_succ]
  show wpAnyH _ _ _ _ _ (12 + 1) _ _ _
  refine wpAnyH_take (i := 8) (oi := _) (v := ?v8) rfl (by kernel_rfl) (by kernel_rfl) (by kernel_rfl) (fun _ _ _ h => h) (Or.inl ⟨by rfl, ?hy8⟩) (by assumption) ?rest8
  case hy8 => (intro w hSw; (try dsimp only at hSw); go_simp; try with_reducible rfl)
  try simp only [Act.put, List.getElem_toArray, List.getElem_cons_zero, List.getElem_cons_succ, List.setIfInBounds_toArray, List.set_cons_zero, List.set_cons_succ]
  show wpAnyH _ _ _ _ _ (11 + 1) _ _ _
  refine wpAnyH_take (i := 9) (oi := _) (v := ?v9) rfl (by kernel_rfl) (by kernel_rfl) (by kernel_rfl) (fun _ _ _ h => h) (Or.inl ⟨by rfl, ?hy9⟩) (by assumption) ?rest9
  case hy9 => (intro w hSw; (try dsimp only at hSw); go_simp; try with_reducible rfl)
  try simp only [Act.put, List.getElem_toArray, List.getElem_cons_zero, List.getElem_cons_succ, List.setIfInBounds_toArray, List.set_cons_zero, List.set_cons_succ]
  show wpAnyH _ _ _ _ _ (10 + 1) _ _ _
  refine wpAnyH_take (i := 10) (oi := _) (v := ?v10) rfl (by kernel_rfl) (by kernel_rfl) (by kernel_rfl) (fun _ _ _ h => h) (Or.inl ⟨by rfl, ?hy10⟩) (by assumption) ?rest10
  case hy10 => (intro w hSw; (try dsimp only at hSw); go_simp; try with_reducible rfl)
  try simp only [Act.put, List.getElem_toArray, List.getElem_cons_zero, List.getElem_cons_succ, List.setIfInBounds_toArray, List.set_cons_zero, List.set_cons_succ]
  show wpAnyH _ _ _ _ _ (9 + 1) _ _ _
  refine wpAnyH_take (i := 11) (oi := _) (v := ?v11) rfl (by kernel_rfl) (by kernel_rfl) (by kernel_rfl) (fun _ _ _ h => h) (Or.inl ⟨by rfl, ?hy11⟩) (by assumption) ?rest11
  case hy11 => (intro w hSw; (try dsimp only at hSw); go_simp; try with_reducible rfl)
  try simp only [Act.put, List.getElem_toArray, List.getElem_cons_zero, List.getElem_cons_succ, List.setIfInBounds_toArray, List.set_cons_zero, List.set_cons_succ]
  show wpAnyH _ _ _ _ _ (8 + 1) _ _ _
  refine wpAnyH_take (i := 12) (oi := _) (v := ?v12) rfl (by kernel_rfl) (by kernel_rfl) (by kernel_rfl) (fun _ _ _ h => h) (Or.inl ⟨by rfl, ?hy12⟩) (by assumption) ?rest12
  case hy12 => (intro w hSw; (try dsimp only at hSw); go_simp; try with_reducible rfl)
  try simp only [Act.put, List.getElem_toArray, List.getElem_cons_zero, List.getElem_cons_succ, List.setIfInBounds_toArray, List.set_cons_zero, List.set_cons_succ]
  show wpAnyH _ _ _ _ _ (7 + 1) _ _ _
  refine wpAnyH_take (i := 14) (oi := _) (v := ?v14) rfl (by kernel_rfl) (by kernel_rfl) (by kernel_rfl) (fun _ _ _ h => h) (Or.inl ⟨by rfl, ?hy14⟩) (by assumption) ?rest14
  case hy14 => (intro w hSw; (try dsimp only at hSw); go_simp; try with_reducible rfl)
  try simp only [Act.put, List.getElem_toArray, List.getElem_cons_zero, List.getElem_cons_succ, List.setIfInBounds_toArray, List.set_cons_zero, List.set_cons_succ]
  show wpAnyH _ _ _ _ _ (6 + 1) _ _ _
  refine wpAnyH_take (i := 15) (oi := _) (v := ?v15) rfl (by kernel_rfl) (by kernel_rfl) (by kernel_rfl) (fun _ _ _ h => h) (Or.inl ⟨by rfl, ?hy15⟩) (by assumption) ?rest15
  case hy15 => (intro w hSw; (try dsimp only at hSw); go_simp; try with_reducible rfl)
  try simp only [Act.put, List.getElem_toArray, List.getElem_cons_zero, List.getElem_cons_succ, List.setIfInBounds_toArray, List.set_cons_zero, List.set_cons_succ]
  show wpAnyH _ _ _ _ _ (5 + 1) _ _ _
  refine wpAnyH_take (i := 16) (oi := _) (v := ?v16) rfl (by kernel_rfl) (by kernel_rfl) (by kernel_rfl) (fun _ _ _ h => h) (Or.inl ⟨by rfl, ?hy16⟩) (by assumption) ?rest16
  case hy16 => (intro w hSw; (try dsimp only at hSw); go_simp; try with_reducible rfl)
  try simp only [Act.put, List.getElem_toArray, List.getElem_cons_zero, List.getElem_cons_succ, List.setIfInBounds_toArray, List.set_cons_zero, List.set_cons_succ]
  show wpAnyH _ _ _ _ _ (4 + 1) _ _ _
  refine wpAnyH_take (i := 17) (oi := _) (v := ?v17) rfl (by kernel_rfl) (by kernel_rfl) (by kernel_rfl) (fun _ _ _ h => h) (Or.inl ⟨by rfl, ?hy17⟩) (by assumption) ?rest17
  case hy17 => (intro w hSw; (try dsimp only at hSw); go_simp; try with_reducible rfl)
  try simp only [Act.put, List.getElem_toArray, List.getElem_cons_zero, List.getElem_cons_succ, List.setIfInBounds_toArray, List.set_cons_zero, List.set_cons_succ]
  show wpAnyH _ _ _ _ _ (3 + 1) _ _ _
  refine wpAnyH_ready (rs := [13]) (by kernel_rfl) (by simp) ?_
  refine AllReadyH.cons (o := _) rfl (fun K hK => ?_) AllReadyH.nil
  go_simp
  refine hK.out _ _ ⟨HC.out.1, HC.out.2.1, HC.out.2.2.2⟩ (fun hHeld => ?_)
  clear hK K
  try simp only [Act.put, List.getElem_toArray, List.getElem_cons_zero, List.getElem_cons_succ, List.setIfInBounds_toArray, List.set_cons_zero, List.set_cons_succ]
  show wpAnyH _ _ _ _ _ (2 + 1) _ _ _
  refine wpAnyH_ready (rs := [18]) (by kernel_rfl) (by simp) ?_
  refine AllReadyH.cons (o := _) rfl (fun K hK => ?_) AllReadyH.nil
  go_simp
  go_at_call 103; refine (times_mag _ _ m n L L' _ (H5.out.below (Below.refl _ _).drew) (G5.out.below (Below.refl _ _).drew) hL hL').mono ?_; rintro e w1 ⟨v, rfl, hm, hb⟩; obtain ⟨A3, k3, c3, rfl⟩ := hm.slice; have HB1 : Hid (Below w.heap.size w w1) := Lib.hid ((Below.refl _ _).drew.trans hb); have HL := Lib.hid ((HZ.out.below HB1.out (Nat.le_refl _)).layL hm false); have HF := Lib.hid (below_put (o := o1) (HB1.out.mono (Nat.le_of_lt HZ.out.1)) (Nat.le_refl _) false (.slice A3 k3 c3)); have HM1 := Lib.hid (made_any b1 o1 false A3 k3 c3 w1 (HZ.out.below HB1.out (Nat.le_refl _))); clear hm hb
  go_wp2_with fail
  refine hK.out _ _ (three_kept HB1.out HC.out.1 HC.out.2.1 HC.out.2.2.2 hb1 hb2) (fun hHeld => ?_)
  clear hK K
  try simp only [Act.put, List.getElem_toArray, List.getElem_cons_zero, List.getElem_cons_succ, List.setIfInBounds_toArray, List.set_cons_zero, List.set_cons_succ]
  show wpAnyH _ _ _ _ _ (1 + 1) _ _ _
  refine wpAnyH_ready (rs := [19]) (by kernel_rfl) (by simp) ?_
  refine AllReadyH.cons (o := _) rfl (fun K hK => ?_) AllReadyH.nil
  go_simp
  go_at_call 99; refine HM1.out.mono ?_; rintro e w2 ⟨rfl, rfl⟩
  go_wp2_with fail
  refine hK.out _ _ (three_put HL.out.1.2.1 hzq (three_kept HB1.out HC.out.1 HC.out.2.1 HC.out.2.2.2 hb1 hb2)) (fun hHeld => ?_)
  clear hK K
  try simp only [Act.put, List.getElem_toArray, List.getElem_cons_zero, List.getElem_cons_succ, List.setIfInBounds_toArray, List.set_cons_zero, List.set_cons_succ]
  show wpAnyH _ _ _ _ _ (0 + 1) _ _ _
  refine wpAnyH_take (i := 20) (oi := _) (v := ?v20) rfl (by kernel_rfl) (by kernel_rfl) (by kernel_rfl) (fun _ _ _ h => h) (Or.inl ⟨by rfl, ?hy20⟩) (by assumption) ?rest20
  case hy20 => (intro w hSw; (try dsimp only at hSw); go_simp; try with_reducible rfl)
  try simp only [Act.put, List.getElem_toArray, List.getElem_cons_zero, List.getElem_cons_succ, List.setIfInBounds_toArray, List.set_cons_zero, List.set_cons_succ]
  refine wpAnyH_done (by kernel_rfl) ?_ _
  refine NoPanic.normal ?_
  go_wp2_with fail
  go_ret
  exact ⟨rfl, HL.out.1, HL.out.2, HF.out⟩
end Go.Proofs.YtgccfdfbnhldbaaGreatDoor.Nb
