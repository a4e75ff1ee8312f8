/- BT6 SH2 SH1 BT4 in one text. -/
import Derived.Test.YtmecnlgndaeidaaGreatDoorP36
import Derived.Test.YtmecnlgndaeidaaGreatDoorP32
import Derived.Test.YtmecnlgndaeidaaGreatDoorP14
import Derived.Test.YtmecnlgndaeidaaGreatDoorP35
import Derived.Test.YtmecnlgndaeidaaGreatDoorP28
import Derived.Test.YtmecnlgndaeidaaGreatDoorP15

namespace Go.Proofs.YtmecnlgndaeidaaGreatDoor.Nb
open Go Go.RowKit

set_option maxRecDepth 8000 in
set_option maxHeartbeats 1000000 in
theorem cmp_anyL (b o m b' o' n L : Nat) (w : World) (hx : IntL w b o false m L) (hy : IntL w b' o' false n L) (hL : L ≤ 268435456) :
    Calls Tryz.prog 116 #[.pointer (some ⟨b, o, none⟩), .pointer (some ⟨b', o', none⟩)] w fun e w' => e = .returned (.int .i64 (cmpN m n)) ∧ ∃ j, w' = w.drewN j := by
  obtain ⟨hb, h2, A, k, c, h3, h4⟩ := hx
  obtain ⟨hb', h2', A', k', c', h3', h4'⟩ := hy
  have HC := Lib.hid (fun j => compare_any _ _ m n L (w.drewN j) (show MagN (w.drewN j) _ m L from h4) (show MagN (w.drewN j) _ n L from h4') (by omega))
  obtain ⟨q, hq⟩ : ∃ q, cmpN m n = q := ⟨_, rfl⟩
  rw [hq] at HC ⊢
  clear h4 h4'
  go_enter Tryz.func116, Tryz.ntmps116
  go_wp2_with fail
  go_quiet (fail)
  go_wp2_with fail
  go_quiet ((go_at_call 154; exact quiet_more (HC.out _)))
  go_wp2_with fail
  go_ret
  exact ⟨rfl, _, by rw [World.drewN_drewN]⟩
set_option maxRecDepth 8000 in
theorem bitlen_anyL (b o n L : Nat) (neg : Bool) (w : World) (hx : IntL w b o neg n L) (hL : L ≤ 268435456) :
    Calls Tryz.prog 102 #[.pointer (some ⟨b, o, none⟩)] w fun e w' => e = .returned (.int .i64 (blen n)) ∧ w' = w := by
  obtain ⟨hb, h2, A, k, c, h3, h4⟩ := hx
  have HL := Lib.hid (length_any _ n L w h4 (by omega))
  obtain ⟨q, hq⟩ : ∃ q, blen n = q := ⟨_, rfl⟩
  rw [hq] at HL ⊢
  clear h4
  go_enter Tryz.func102, Tryz.ntmps102
  go_wp2_with fail
  refine HL.out.mono ?_
  rintro e w1 ⟨rfl, rfl⟩
  go_wp2_with fail
  go_ret
  exact ⟨rfl, rfl⟩
set_option maxRecDepth 8000 in
set_option maxHeartbeats 2000000 in
theorem ratcmp_anyL (x y p q r s T1 T2 L : Nat) (w : World) (hx : RatL w x false p q L) (hy : RatL w y false r s L) (hT1 : p * s = T1) (hT2 : r * q = T2) (hL : L ≤ 67108864) :
    Calls Tryz.prog 65 #[.pointer (some ⟨x, 0, none⟩), .pointer (some ⟨y, 0, none⟩)] w fun e w' => e = .returned (.int .i64 (cmpN T1 T2)) ∧ Below w.heap.size w w' := by
  obtain ⟨A1, k1, c1, A2, k2, c2, hb, e0, e1, e3, m1, m2, q0, hk2⟩ := hx.open
  obtain ⟨B1, l1, d1, B2, l2, d2, hb', f0, f1, f3, n1, n2, s0, hl2⟩ := hy.open
  have HX := Lib.hid (fun (W : World) (hW : Below w.heap.size w W) => (show W.cell? ⟨x, 0, none⟩ = some (.bool false) ∧ W.cell? ⟨x, 1, none⟩ = some (.slice A1 k1 c1) ∧ W.cell? ⟨y, 3, none⟩ = some (.slice B2 l2 d2) from ⟨(hW.cell (p := ⟨x, 0, none⟩) (by exact hb)).trans e0, (hW.cell (p := ⟨x, 1, none⟩) (by exact hb)).trans e1, (hW.cell (p := ⟨y, 3, none⟩) (by exact hb')).trans f3⟩))
  have HY := Lib.hid (fun (W : World) (hW : Below w.heap.size w W) => (show W.cell? ⟨y, 0, none⟩ = some (.bool false) ∧ W.cell? ⟨y, 1, none⟩ = some (.slice B1 l1 d1) ∧ W.cell? ⟨x, 3, none⟩ = some (.slice A2 k2 c2) from ⟨(hW.cell (p := ⟨y, 0, none⟩) (by exact hb')).trans f0, (hW.cell (p := ⟨y, 1, none⟩) (by exact hb')).trans f1, (hW.cell (p := ⟨x, 3, none⟩) (by exact hb)).trans e3⟩))
  have HT1 := Lib.hid (fun (W : World) (hW : Below w.heap.size w W) => times_mag _ _ p s L L W (m1.below hW) (n2.below hW) (by omega) (by omega))
  have HT2 := Lib.hid (fun (W : World) (hW : Below w.heap.size w W) => times_mag _ _ r q L L W (n1.below hW) (m2.below hW) (by omega) (by omega))
  have HN := Lib.hid (And.intro hT1 (And.intro hT2 (And.intro hL hL)))
  clear m1 m2 n1 n2 hx hy e0 e1 e3 f0 f1 f3 hT1 hT2 hL q0 s0
  have HKL := Lib.hid (And.intro hk2 hl2)
  clear hk2 hl2
  have hcur : Below w.heap.size w w.drew := (Below.refl _ _).drew
  go_enter Tryz.func65, Tryz.ntmps65
  go_wp2_with fail
  go_cut [5] (fun v wx => ∃ za : Nat, v = .pointer (some ⟨za, 0, none⟩) ∧ Hid (IntL wx za 0 false T1 (L + L) ∧ ISlot wx za 0 ∧ Below w.heap.size w wx ∧ w.heap.size ≤ za))
  case first =>
    go_region_held3 (fun w' => w'.cell? ⟨x, 0, none⟩ = some (.bool false) ∧ w'.cell? ⟨x, 1, none⟩ = some (.slice A1 k1 c1) ∧ w'.cell? ⟨y, 3, none⟩ = some (.slice B2 l2 d2)) (first | exact HX.out _ (by first | exact hcur5 | exact hcur4 | exact hcur4.alloc hcur4.size _ | exact hcur | exact hcur.alloc hcur.size _)) (first | (go_at_call 105; refine (under_atL y B2 l2 d2 _ (HX.out _ (by first | exact hcur | exact hcur.alloc hcur.size _)).2.2 HKL.out.2).mono ?_; rintro e w4 ⟨rfl, rfl⟩) | (go_at_call 115; refine (HT1.out _ (by first | exact hcur | exact hcur.alloc hcur.size _)).mono ?_; rintro e w4 ⟨v4, rfl, hm4, hb4⟩; obtain ⟨A4, k4, c4, rfl⟩ := hm4.slice; have hcur4 : Below w.heap.size w w4 := (by first | exact back_of' hcur hb4 | exact back_of' (hcur.alloc hcur.size (.cells #[.bool false, .slice none 0 0] 105)) hb4); (first | (have HA : Hid (Below w.drew.heap.size w.drew w4) := Lib.hid hb4) | (have HA : Hid (Below (w.drew.alloc (.cells #[.bool false, .slice none 0 0] 105)).heap.size (w.drew.alloc (.cells #[.bool false, .slice none 0 0] 105)) w4) := Lib.hid hb4)); rw [HN.out.1] at hm4; have HM4 := Lib.hid (hm4); clear hm4 hb4) | (go_at_call 108; refine (made_numL _ 0 T1 (L + L) false A4 k4 c4 _ (by first | exact (ISlot.new w.drew 105).below HA.out (Nat.le_refl _) | exact ISlot.new w4 105) (by first | exact HM4.out | exact HM4.out.below ((Below.refl _ _).alloc (Nat.le_refl _) _)) (by simp)).mono ?_; rintro e w5 ⟨rfl, i5, s5, b5⟩; have hcur5 : Below w.heap.size w w5 := (by first | exact hcur4.trans (b5.mono (Nat.le_refl _)) | exact (hcur4.alloc hcur4.size _).trans (b5.mono hcur4.size)); have HF := Lib.hid (And.intro i5 (And.intro s5 hcur5)); clear i5 s5 b5))
    all_goals go_wp2_with fail
    all_goals go_meet
    all_goals exact ⟨_, rfl, Lib.hid ⟨HF.out.1, HF.out.2.1, HF.out.2.2, by first | exact Nat.le_refl _ | exact hcur4.size⟩⟩
  case rest =>
    obtain ⟨za, rfl, hcut⟩ := hcut
    obtain ⟨w2, hw2⟩ : ∃ w2, wc = w2 := ⟨_, rfl⟩
    subst hw2
    have HZ := Lib.hid hcut.out
    have HB2 := Lib.hid hcut.out.2.2.1
    have hzs : za < wc.heap.size := hcut.out.1.1
    clear hcut hcur HX HT1
    go_wp2_with fail
    have HYW := Lib.hid (fun (W : World) (hW : Below wc.heap.size wc W) => HY.out W (back_of' HB2.out hW))
    have HTW := Lib.hid (fun (W : World) (hW : Below wc.heap.size wc W) => HT2.out W (back_of' HB2.out hW))
    have hcur : Below wc.heap.size wc wc.drew := (Below.refl _ _).drew
    go_cut [6] (fun v wx => ∃ za : Nat, v = .pointer (some ⟨za, 0, none⟩) ∧ Hid (IntL wx za 0 false T2 (L + L) ∧ ISlot wx za 0 ∧ Below wc.heap.size wc wx ∧ wc.heap.size ≤ za))
    case first =>
      go_region_held3 (fun w' => w'.cell? ⟨y, 0, none⟩ = some (.bool false) ∧ w'.cell? ⟨y, 1, none⟩ = some (.slice B1 l1 d1) ∧ w'.cell? ⟨x, 3, none⟩ = some (.slice A2 k2 c2)) (first | exact HYW.out _ (by first | exact hcur5 | exact hcur4 | exact hcur4.alloc hcur4.size _ | exact hcur | exact hcur.alloc hcur.size _)) (first | (go_at_call 105; refine (under_atL x A2 k2 c2 _ (HYW.out _ (by first | exact hcur | exact hcur.alloc hcur.size _)).2.2 HKL.out.1).mono ?_; rintro e w4 ⟨rfl, rfl⟩) | (go_at_call 115; refine (HTW.out _ (by first | exact hcur | exact hcur.alloc hcur.size _)).mono ?_; rintro e w4 ⟨v4, rfl, hm4, hb4⟩; obtain ⟨A4, k4, c4, rfl⟩ := hm4.slice; have hcur4 : Below wc.heap.size wc w4 := (by first | exact back_of' hcur hb4 | exact back_of' (hcur.alloc hcur.size (.cells #[.bool false, .slice none 0 0] 105)) hb4); (first | (have HA : Hid (Below wc.drew.heap.size wc.drew w4) := Lib.hid hb4) | (have HA : Hid (Below (wc.drew.alloc (.cells #[.bool false, .slice none 0 0] 105)).heap.size (wc.drew.alloc (.cells #[.bool false, .slice none 0 0] 105)) w4) := Lib.hid hb4)); rw [HN.out.2.1] at hm4; have HM4 := Lib.hid (hm4); clear hm4 hb4) | (go_at_call 108; refine (made_numL _ 0 T2 (L + L) false A4 k4 c4 _ (by first | exact (ISlot.new wc.drew 105).below HA.out (Nat.le_refl _) | exact ISlot.new w4 105) (by first | exact HM4.out | exact HM4.out.below ((Below.refl _ _).alloc (Nat.le_refl _) _)) (by simp)).mono ?_; rintro e w5 ⟨rfl, i5, s5, b5⟩; have hcur5 : Below wc.heap.size wc w5 := (by first | exact hcur4.trans (b5.mono (Nat.le_refl _)) | exact (hcur4.alloc hcur4.size _).trans (b5.mono hcur4.size)); have HF := Lib.hid (And.intro i5 (And.intro s5 hcur5)); clear i5 s5 b5))
      all_goals go_wp2_with fail
      all_goals go_meet
      all_goals exact ⟨_, rfl, Lib.hid ⟨HF.out.1, HF.out.2.1, HF.out.2.2, by first | exact Nat.le_refl _ | exact hcur4.size⟩⟩
    case rest =>
      obtain ⟨zb, rfl, hcut⟩ := hcut
      have I1 := Lib.hid (cmp_anyL za 0 T1 zb 0 T2 (L + L) wc (HZ.out.1.below hcut.out.2.2.1 (Nat.le_refl _)) hcut.out.1 (by have := HN.out.2.2.1; omega))
      have HBf := Lib.hid (back_of' HB2.out hcut.out.2.2.1)
      clear hcut hcur HYW HTW HZ HB2
      go_wp2_with fail
      refine I1.out.mono ?_
      rintro e w6 ⟨rfl, j, rfl⟩
      go_wp2_with fail
      go_ret
      exact ⟨rfl, below_dr HBf.out j⟩
end Go.Proofs.YtmecnlgndaeidaaGreatDoor.Nb

namespace Go.Proofs.YtmecnlgndaeidaaGreatDoor.Nb
open Go Go.RowKit

set_option maxRecDepth 8000 in
set_option maxHeartbeats 1000000 in
/-- a number from 0 on and one below 0, of no greater amount -/
theorem plus_negL (z zo b o m n L : Nat) (v : Value) (w : World) (hz : ISlot w z zo) (hx : IntL w b o false m L) (hv : MagN w v n L) (h : n ≤ m) (hL : L ≤ 268435456) :
    Calls Tryz.prog 110 #[.pointer (some ⟨z, zo, none⟩), .pointer (some ⟨b, o, none⟩), .bool true, v] w (WroteL w z zo false (m - n) L) := by
  obtain ⟨hb, h2, A, k, c, h3, h4⟩ := hx
  obtain ⟨A', k', c', rfl⟩ := hv.slice
  have HC := Lib.hid (compare_any _ _ m n L w h4 hv (by omega))
  have HL := Lib.hid (fun (W : World) (hW : Below w.heap.size w W) => less_any _ _ m n L W (h4.below hW) (hv.below hW) h (by omega))
  have HS := Lib.hid (fun (W : World) (hW : Below w.heap.size w W) => (show W.cell? ⟨b, o, none⟩ = some (.bool false) ∧ W.cell? ⟨b, o + 1, none⟩ = some (.slice A k c) from ⟨(hW.cell (p := ⟨b, o, none⟩) (by exact hb)).trans h2, (hW.cell (p := ⟨b, o + 1, none⟩) (by exact hb)).trans h3⟩))
  have HZ := Lib.hid hz
  obtain ⟨q, hq⟩ : ∃ q, cmpN m n = q := ⟨_, rfl⟩
  rw [hq] at HC
  have hq0 : (0 : Int) ≤ q := by rw [← hq]; unfold cmpN; split <;> first | omega | (split <;> omega)
  clear h4 hz hv hq
  go_enter Tryz.func110, Tryz.ntmps110
  go_wp2_with fail
  refine HC.out.mono ?_
  rintro e w1 ⟨rfl, j, rfl⟩
  go_wp2_with fail
  have hcur : Below w.heap.size w (w.drewN j).drew := (below_dr2 (Below.refl _ _) j).drew
  go_region_with (first | (go_at_call 155; refine (HL.out _ hcur).mono ?_; rintro e w3 ⟨x, rfl, hm, hb3⟩; obtain ⟨A1, k1, c1, rfl⟩ := hm.slice; have hcur2 := back_of hcur hb3; obtain ⟨y0, -⟩ := HS.out _ hcur2; have HM := Lib.hid (made_numL z zo _ L false A1 k1 c1 w3 (HZ.out.below hcur2 (Nat.le_refl _)) hm (by simp)); have HB := Lib.hid (hcur2.mono (Nat.le_of_lt HZ.out.1)); clear hm hb3 hcur2) | (go_at_call 108; refine HM.out.mono ?_; rintro e w4 h; have HF := Lib.hid (h.after HB.out); obtain ⟨rfl, -⟩ := h))
  all_goals go_wp2_with fail
  all_goals (go_ret; exact HF.out)
set_option maxRecDepth 8000 in
set_option maxHeartbeats 1000000 in
theorem ratneg_anyL (z x p q L : Nat) (w : World) (h : RSlot w z) (hx : RatL w x false p q L) (hne : x ≠ z) (hp : p ≠ 0) (hL : L ≤ 268435456) :
    Calls Tryz.prog 114 #[.pointer (some ⟨z, 0, none⟩), .pointer (some ⟨x, 0, none⟩)] w (WroteRL w z true p q L) := by
  obtain ⟨A1, k1, c1, A2, k2, c2, hb, e0, e1, e3, m1, m2, q0, hk2⟩ := hx.open
  have HS := Lib.hid (fun (W : World) (hW : Below w.heap.size w W) => (show W.cell? ⟨x, 0, none⟩ = some (.bool false) ∧ W.cell? ⟨x, 1, none⟩ = some (.slice A1 k1 c1) ∧ W.cell? ⟨x, 3, none⟩ = some (.slice A2 k2 c2) from ⟨(hW.cell (p := ⟨x, 0, none⟩) (by exact hb)).trans e0, (hW.cell (p := ⟨x, 1, none⟩) (by exact hb)).trans e1, (hW.cell (p := ⟨x, 3, none⟩) (by exact hb)).trans e3⟩))
  have HS2 := Lib.hid (fun (W : World) (hW : Below w.heap.size w W) (neg : Bool) (v v' : Value) => (show (put2 W z neg v v').cell? ⟨x, 0, none⟩ = some (.bool false) ∧ (put2 W z neg v v').cell? ⟨x, 1, none⟩ = some (.slice A1 k1 c1) ∧ (put2 W z neg v v').cell? ⟨x, 3, none⟩ = some (.slice A2 k2 c2) from ⟨(put2_cell _ _ _ hne).trans (HS.out W hW).1, (put2_cell _ _ _ hne).trans (HS.out W hW).2.1, (put2_cell _ _ _ hne).trans (HS.out W hW).2.2⟩))
  have HC1 := Lib.hid (fun (W : World) (hW : Below w.heap.size w W) => clone_any _ p L W (m1.below hW) (by omega))
  have HC2 := Lib.hid (fun (W : World) (hW : Below w.heap.size w W) => clone_any _ q L W (m2.below hW) (by omega))
  have H := Lib.hid h
  have hz : z ≤ w.heap.size := Nat.le_of_lt h.1.1
  clear h m1 m2 hx e0 e1 e3
  have hcur : Below w.heap.size w w.drew := (Below.refl _ _).drew
  go_enter Tryz.func114, Tryz.ntmps114
  go_wp2_with fail
  go_region_held3 (fun w' => w'.cell? ⟨x, 0, none⟩ = some (.bool false) ∧ w'.cell? ⟨x, 1, none⟩ = some (.slice A1 k1 c1) ∧ w'.cell? ⟨x, 3, none⟩ = some (.slice A2 k2 c2)) (first | exact hk6 | exact HS.out _ hcurB | exact HS.out _ hcurA | exact HS.out _ hcur) (first | (go_at_call 109; refine (HC2.out _ hcurA).mono ?_; rintro e w5 ⟨v5, rfl, hm5, hb5⟩; obtain ⟨A5, k5, c5, rfl⟩ := hm5.slice; have hcurB := back_of' hcurA hb5; have HM3 := Lib.hid (HM3.out.below hb5); have HM5 := Lib.hid hm5; clear hm5 hb5) | (go_at_call 109; refine (HC1.out _ hcur).mono ?_; rintro e w3 ⟨v3, rfl, hm3, hb3⟩; obtain ⟨A3, k3, c3, rfl⟩ := hm3.slice; have hcurA := back_of' hcur hb3; have HM3 := Lib.hid hm3; clear hm3 hb3) | (go_at_call 105; refine (under_atL x A2 k2 c2 _ (HS.out _ hcurA).2.2 hk2).mono ?_; rintro e w4 ⟨rfl, rfl⟩) | (go_at_call 112; refine (raw_putL z p L true A3 A5 k3 c3 k5 c5 _ (H.out.below hcurB (Nat.le_refl _)) HM3.out (fun _ => hp)).mono ?_; rintro e w6 ⟨rfl, hw6⟩; have hk6 : w6.cell? ⟨x, 0, none⟩ = some (.bool false) ∧ w6.cell? ⟨x, 1, none⟩ = some (.slice A1 k1 c1) ∧ w6.cell? ⟨x, 3, none⟩ = some (.slice A2 k2 c2) := (by rw [hw6]; exact HS2.out _ hcurB _ _ _); have HW6 := Lib.hid hw6; clear hw6))
  all_goals go_wp2_with fail
  all_goals go_ret
  have hh := put2_wroteL (neg := true) (H.out.below hcurB (Nat.le_refl _)) HM3.out HM5.out q0
  have hw := HW6.out
  subst hw
  exact ⟨rfl, hh.1, hh.2.1, (hcurB.mono hz).trans hh.2.2⟩
/-- what the head of Add leaves behind: the numbers' words -/
structure AddHeadL (w : World) (wx : World) (vd vg ve vf : Value) (s G E F L0 : Nat) : Prop where
  b : Below w.heap.size w wx
  d : MagN wx vd s L0
  g : MagN wx vg G L0
  e : MagN wx ve E L0
  f : MagN wx vf F L0
theorem AddHeadL.below {w w1 w2 : World} {vd vg ve vf : Value} {s G E F L0 : Nat} (h : AddHeadL w w1 vd vg ve vf s G E F L0) (hb : Below w1.heap.size w1 w2) : AddHeadL w w2 vd vg ve vf s G E F L0 :=
  ⟨back_of' h.b hb, h.d.below hb, h.g.below hb, h.e.below hb, h.f.below hb⟩

set_option maxRecDepth 8000 in
set_option maxHeartbeats 2000000 in
theorem ratadd_unL (z x y p q r s G E F T1 T2 D K L P Q L0 M : Nat) (w : World) (h : RSlot w z) (hx : RatL w x false p q L0) (hy : RatL w y true r s L0)
    (hG : Nat.gcd q s = G) (hE : q / G = E) (hF : s / G = F) (hT1 : p * F = T1) (hT2 : r * E = T2) (hle : T2 ≤ T1) (hD : T1 - T2 = D) (hK : Nat.gcd D G = K) (hL : s / K = L) (hP : D / K = P) (hQ : E * L = Q)
    (b1 : L0 + L0 = M) (b2 : M ≤ 16777216 ∧ 1 ≤ L0) (b0 : 0 < Q) :
    Calls Tryz.prog 113 #[.pointer (some ⟨z, 0, none⟩), .pointer (some ⟨x, 0, none⟩), .pointer (some ⟨y, 0, none⟩)] w (WroteRL w z false P Q (M + M)) := by
  obtain ⟨A1, k1, c1, A2, k2, c2, hb, e0, e1, e3, m1, m2, q0, hk2⟩ := hx.open
  obtain ⟨B1, l1, d1, B2, l2, d2, hb', f0, f1, f3, n1, n2, s0, hl2⟩ := hy.open
  have hG0 : 0 < G := hG ▸ Nat.gcd_pos_of_pos_left _ q0
  have hK0 : 0 < K := hK ▸ Nat.gcd_pos_of_pos_right _ hG0
  have HX := Lib.hid (fun (W : World) (hW : Below w.heap.size w W) => (show W.cell? ⟨x, 0, none⟩ = some (.bool false) ∧ W.cell? ⟨x, 1, none⟩ = some (.slice A1 k1 c1) ∧ W.cell? ⟨x, 3, none⟩ = some (.slice A2 k2 c2) from ⟨(hW.cell (p := ⟨x, 0, none⟩) (by exact hb)).trans e0, (hW.cell (p := ⟨x, 1, none⟩) (by exact hb)).trans e1, (hW.cell (p := ⟨x, 3, none⟩) (by exact hb)).trans e3⟩))
  have HY := Lib.hid (fun (W : World) (hW : Below w.heap.size w W) => (show W.cell? ⟨y, 0, none⟩ = some (.bool true) ∧ W.cell? ⟨y, 1, none⟩ = some (.slice B1 l1 d1) ∧ W.cell? ⟨y, 3, none⟩ = some (.slice B2 l2 d2) from ⟨(hW.cell (p := ⟨y, 0, none⟩) (by exact hb')).trans f0, (hW.cell (p := ⟨y, 1, none⟩) (by exact hb')).trans f1, (hW.cell (p := ⟨y, 3, none⟩) (by exact hb')).trans f3⟩))
  have HM := Lib.hid (fun (W : World) (hW : Below w.heap.size w W) => And.intro (m1.below hW) (And.intro (m2.below hW) (And.intro (n1.below hW) (n2.below hW))))
  have U1 := Lib.hid (under_atL x A2 k2 c2 w e3 hk2)
  have U2 := Lib.hid (under_atL y B2 l2 d2 w f3 hl2)
  have H := Lib.hid h
  have hz : z < w.heap.size := h.1.1
  have HN := Lib.hid (And.intro hG (And.intro hE (And.intro hF (And.intro hT1 (And.intro hT2 (And.intro hD (And.intro hK (And.intro hL (And.intro hP hQ)))))))))
  have HB := Lib.hid (And.intro hle (And.intro b1 (And.intro b2 (And.intro b0 (And.intro hG0 hK0)))))
  have HD := Lib.hid (divisor_any _ _ q s L0 w m2 n2 (by omega) (by omega))
  rw [hG] at HD
  clear hk2 hl2 h m1 m2 n1 n2 hx hy e0 e1 e3 f0 f1 f3 hG hE hF hT1 hT2 hle hD hK hL hP hQ b1 b2 b0 hG0 hK0 q0 s0
  go_enter Tryz.func113, Tryz.ntmps113
  go_wp2_with fail
  refine U1.out.mono ?_
  rintro e w1 ⟨rfl, hw⟩
  obtain rfl := hw.symm
  go_wp2_with fail
  refine U2.out.mono ?_
  rintro e w1 ⟨rfl, hw⟩
  obtain rfl := hw.symm
  go_wp2_with fail
  refine HD.out.mono ?_
  rintro e w1 ⟨vg, rfl, mg, b1⟩
  have C1 := Lib.hid (And.intro b1 mg)
  clear b1 mg
  go_wp2_with fail
  refine (over_any _ _ q G L0 w1 (HM.out _ C1.out.1).2.1 C1.out.2 HB.out.2.2.2.2.1 (by have := HB.out; omega) (by have := HB.out; omega)).mono ?_
  rintro e w2 ⟨ve, rfl, me, b2⟩
  rw [HN.out.2.1] at me
  have C2 := Lib.hid (And.intro (back_of' C1.out.1 b2) (And.intro (C1.out.2.below b2) me))
  clear b2 me
  go_wp2_with fail
  refine (over_any _ _ s G L0 w2 (HM.out _ C2.out.1).2.2.2 C2.out.2.1 HB.out.2.2.2.2.1 (by have := HB.out; omega) (by have := HB.out; omega)).mono ?_
  rintro e w3 ⟨vf, rfl, mf, b3⟩
  rw [HN.out.2.2.1] at mf
  have HH : Hid (AddHeadL w w3 (.slice B2 l2 d2) vg ve vf s G E F L0) := Lib.hid ⟨back_of' C2.out.1 b3, (HM.out _ (back_of' C2.out.1 b3)).2.2.2, C2.out.2.1.below b3, C2.out.2.2.below b3, mf⟩
  clear b3 mf C1 C2
  go_wp2_with fail
  have hcur : Below w3.heap.size w3 w3.drew := (Below.refl _ _).drew
  have HTm := Lib.hid (fun (W : World) (hW : Below w3.heap.size w3 W) => times_mag (.slice A1 k1 c1) vf p F L0 L0 W (HM.out _ (back_of' HH.out.b hW)).1 ((HH.out.below hW).f) (by have := HB.out; omega) (by have := HB.out; omega))
  have HXW := Lib.hid (fun (W : World) (hW : Below w3.heap.size w3 W) => (show W.cell? ⟨x, 0, none⟩ = some (.bool false) ∧ W.cell? ⟨x, 1, none⟩ = some (.slice A1 k1 c1) from ⟨(HX.out _ (back_of' HH.out.b hW)).1, (HX.out _ (back_of' HH.out.b hW)).2.1⟩))
  go_cut [12] (fun v wx => ∃ za : Nat, v = .pointer (some ⟨za, 0, none⟩) ∧ Hid (IntL wx za 0 false T1 M ∧ ISlot wx za 0 ∧ Below w3.heap.size w3 wx ∧ w3.heap.size ≤ za))
  case first =>
    go_region_held3 (fun w' => w'.cell? ⟨x, 0, none⟩ = some (.bool false) ∧ w'.cell? ⟨x, 1, none⟩ = some (.slice A1 k1 c1)) (first | exact HXW.out _ (by first | exact hcur5 | exact hcur4 | exact hcur4.alloc hcur4.size _ | exact hcur | exact hcur.alloc hcur.size _)) (first | (go_at_call 115; refine (HTm.out _ (by first | exact hcur | exact hcur.alloc hcur.size _)).mono ?_; rintro e w4 ⟨v4, rfl, hm4, hb4⟩; obtain ⟨A4, k4, c4, rfl⟩ := hm4.slice; have hcur4 : Below w3.heap.size w3 w4 := (by first | exact back_of' hcur hb4 | exact back_of' (hcur.alloc hcur.size (.cells #[.bool false, .slice none 0 0] 105)) hb4); (first | (have HA : Hid (Below w3.drew.heap.size w3.drew w4) := Lib.hid hb4) | (have HA : Hid (Below (w3.drew.alloc (.cells #[.bool false, .slice none 0 0] 105)).heap.size (w3.drew.alloc (.cells #[.bool false, .slice none 0 0] 105)) w4) := Lib.hid hb4)); rw [HN.out.2.2.2.1, HB.out.2.1] at hm4; have HM4 := Lib.hid hm4; clear hm4 hb4) | (go_at_call 108; refine (made_numL _ 0 T1 M false A4 k4 c4 _ (by first | exact (ISlot.new w3.drew 105).below HA.out (Nat.le_refl _) | exact ISlot.new w4 105) (by first | exact HM4.out | exact HM4.out.below ((Below.refl _ _).alloc (Nat.le_refl _) _)) (by simp)).mono ?_; rintro e w5 ⟨rfl, i5, s5, b5⟩; have hcur5 : Below w3.heap.size w3 w5 := (by first | exact hcur4.trans (b5.mono (Nat.le_refl _)) | exact (hcur4.alloc hcur4.size _).trans (b5.mono hcur4.size)); have HF := Lib.hid (And.intro i5 (And.intro s5 hcur5)); clear i5 s5 b5))
    all_goals go_wp2_with fail
    all_goals go_meet
    all_goals exact ⟨_, rfl, Lib.hid ⟨HF.out.1, HF.out.2.1, HF.out.2.2, by first | exact Nat.le_refl _ | exact hcur4.size⟩⟩
  case rest =>
    obtain ⟨za, rfl, hcut⟩ := hcut
    have HZ := Lib.hid (And.intro hcut.out.1 hcut.out.2.1)
    have HZ2 := Lib.hid (show za < wc.heap.size ∧ w3.heap.size ≤ za ∧ y < w3.heap.size ∧ w.heap.size ≤ w3.heap.size from ⟨hcut.out.1.1, hcut.out.2.2.2, Nat.lt_of_lt_of_le hb' HH.out.b.size, HH.out.b.size⟩)
    have HB3 := Lib.hid hcut.out.2.2.1
    have HC := Lib.hid (HH.out.below hcut.out.2.2.1)
    clear hcut HTm HXW hcur
    go_wp2_with fail
    have hcur : Below wc.heap.size wc wc.drew := (Below.refl _ _).drew
    have HTm := Lib.hid (fun (W : World) (hW : Below wc.heap.size wc W) => times_mag (.slice B1 l1 d1) ve r E L0 L0 W (HM.out _ (back_of' HC.out.b hW)).2.2.1 ((HC.out.below hW).e) (by have := HB.out; omega) (by have := HB.out; omega))
    have HYW := Lib.hid (fun (W : World) (hW : Below wc.heap.size wc W) => (show W.cell? ⟨y, 0, none⟩ = some (.bool true) ∧ W.cell? ⟨y, 1, none⟩ = some (.slice B1 l1 d1) from ⟨(HY.out _ (back_of' HC.out.b hW)).1, (HY.out _ (back_of' HC.out.b hW)).2.1⟩))
    have HYZ := Lib.hid (fun (W : World) (hW : Below w3.heap.size wc W) => (show W.cell? ⟨y, 0, none⟩ = some (.bool true) ∧ W.cell? ⟨y, 1, none⟩ = some (.slice B1 l1 d1) from (by
      have q := HC.out.b
      have hy1 : y < w3.heap.size := HZ2.out.2.2.1
      have k := HYW.out wc (Below.refl _ _)
      exact ⟨(hW.cell (p := ⟨y, 0, none⟩) (by exact hy1)).trans k.1, (hW.cell (p := ⟨y, 1, none⟩) (by exact hy1)).trans k.2⟩)))
    go_region_held3 (fun w' => w'.cell? ⟨y, 0, none⟩ = some (.bool true) ∧ w'.cell? ⟨y, 1, none⟩ = some (.slice B1 l1 d1)) (first | exact HYZ.out _ hcur5 | exact HYW.out _ hcur4 | exact HYW.out _ hcur) (first | (go_at_call 115; refine (HTm.out _ hcur).mono ?_; rintro e w4 ⟨v4, rfl, hm4, hb4⟩; have hcur4 := back_of' hcur hb4; rw [HN.out.2.2.2.2.1, HB.out.2.1] at hm4; have HM4 := Lib.hid hm4; clear hm4 hb4) | (go_at_call 110; refine (plus_negL za 0 za 0 T1 T2 M v4 w4 (HZ.out.2.below hcur4 (Nat.le_refl _)) (HZ.out.1.below hcur4 (Nat.le_refl _)) HM4.out HB.out.1 (by have := HB.out; omega)).mono ?_; rintro e w5 ⟨rfl, i5, s5, b5⟩; have hcur5 : Below w3.heap.size wc w5 := (hcur4.mono (by have := HZ2.out; omega)).trans (b5.mono HZ2.out.2.1); have HF := Lib.hid (And.intro i5 (And.intro s5 b5)); clear i5 s5 b5))
    rw [HN.out.2.2.2.2.2.1] at HF
    have HC5 := Lib.hid (HH.out.below (HB3.out.trans hcur5))
    obtain ⟨hb5, g0, A5, k5, c5, g1, g2⟩ := HF.out.1
    have g1' : w5.cell? ⟨za, 1, none⟩ = some (.slice A5 k5 c5) := g1
    have G2 := Lib.hid g2
    clear g1 g2 HF HC HH HB3 HTm HYW HYZ hcur hcur4 hcur5 HM4
    go_wp2_with fail
    refine (divisor_any _ _ D G M w5 G2.out (HC5.out.g.more (by have := HB.out; omega)) (by have := HB.out; omega) (by have := HB.out; omega)).mono ?_
    rintro e w6 ⟨vh, rfl, m6, b6⟩
    rw [HN.out.2.2.2.2.2.2.1] at m6
    have HC6 := Lib.hid (HC5.out.below b6)
    have MH := Lib.hid m6
    have MA := Lib.hid (G2.out.below b6)
    have z0 := (b6.cell (p := ⟨za, 0, none⟩) (by exact hb5)).trans g0
    have z1 := (b6.cell (p := ⟨za, 1, none⟩) (by exact hb5)).trans g1'
    have hb6 : za < w6.heap.size := Nat.lt_of_lt_of_le hb5 b6.size
    have hne : za ≠ z := by have := HZ2.out; omega
    clear g0 g1' m6 b6 HC5 G2
    have HZW := Lib.hid (fun (W : World) (hW : Below w6.heap.size w6 W) => (show W.cell? ⟨za, 0, none⟩ = some (.bool false) ∧ W.cell? ⟨za, 1, none⟩ = some (.slice A5 k5 c5) from ⟨(hW.cell (p := ⟨za, 0, none⟩) (by exact hb6)).trans z0, (hW.cell (p := ⟨za, 1, none⟩) (by exact hb6)).trans z1⟩))
    have HO1 := Lib.hid (fun (W : World) (hW : Below w6.heap.size w6 W) => over_any _ _ D K M W (MA.out.below hW) (MH.out.below hW) HB.out.2.2.2.2.2 (by have := HB.out; omega) (by have := HB.out; omega))
    have HO2 := Lib.hid (fun (W : World) (hW : Below w6.heap.size w6 W) => over_any _ _ s K M W ((HC6.out.below hW).d.more (by have := HB.out; omega)) (MH.out.below hW) HB.out.2.2.2.2.2 (by have := HB.out; omega) (by have := HB.out; omega))
    go_wp2_with fail
    have hcur : Below w6.heap.size w6 w6.drew := (Below.refl _ _).drew
    go_region_held3 (fun w' => w'.cell? ⟨za, 0, none⟩ = some (.bool false) ∧ w'.cell? ⟨za, 1, none⟩ = some (.slice A5 k5 c5)) (first | exact hk11 | exact HZW.out _ hcurD | exact HZW.out _ hcurC | exact HZW.out _ hcurB | exact HZW.out _ hcurA | exact HZW.out _ hcur) (first | (go_at_call 152; refine (HO2.out _ hcurB).mono ?_; rintro e w9 ⟨v9, rfl, hm9, hb9⟩; rw [HN.out.2.2.2.2.2.2.2.1] at hm9; have hcurC := back_of' hcurB hb9; have HM8 := Lib.hid (HM8.out.below hb9); have HM9 := Lib.hid hm9; clear hm9 hb9) | (go_at_call 152; refine (HO1.out _ hcur).mono ?_; rintro e w7 ⟨v7, rfl, hm7, hb7⟩; rw [HN.out.2.2.2.2.2.2.2.2.1] at hm7; have hcurA := back_of' hcur hb7; have HM7 := Lib.hid hm7; clear hm7 hb7) | (go_at_call 109; refine (clone_any _ P M _ HM7.out (by have := HB.out; omega)).mono ?_; rintro e w8 ⟨v8, rfl, hm8, hb8⟩; obtain ⟨A8, k8, c8, rfl⟩ := hm8.slice; have hcurB := back_of' hcurA hb8; have HM8 := Lib.hid hm8; clear hm8 hb8) | (go_at_call 115; refine (times_mag _ _ E L M M _ ((HC6.out.below hcurC).e.more (by have := HB.out; omega)) HM9.out (by have := HB.out; omega) (by have := HB.out; omega)).mono ?_; rintro e w10 ⟨v10, rfl, hm10, hb10⟩; obtain ⟨A10, k10, c10, rfl⟩ := hm10.slice; rw [HN.out.2.2.2.2.2.2.2.2.2] at hm10; have hcurD := back_of' hcurC hb10; have HM8 := Lib.hid (HM8.out.below hb10); have HM10 := Lib.hid hm10; have HM8 := Lib.hid (HM8.out.more (L' := M + M) (by omega)); clear hm10 hb10) | (go_at_call 112; refine (raw_putL z P (M + M) false A8 A10 k8 c8 k10 c10 _ (H.out.below (back_of' HC6.out.b hcurD) (Nat.le_refl _)) HM8.out (by simp)).mono ?_; rintro e w11 ⟨rfl, hw11⟩; have hk11 : w11.cell? ⟨za, 0, none⟩ = some (.bool false) ∧ w11.cell? ⟨za, 1, none⟩ = some (.slice A5 k5 c5) := (by rw [hw11]; exact ⟨(put2_cell _ _ _ hne).trans (HZW.out _ hcurD).1, (put2_cell _ _ _ hne).trans (HZW.out _ hcurD).2⟩); have HW11 := Lib.hid hw11; clear hw11))
    all_goals go_wp2_with fail
    all_goals go_ret
    have hbD := back_of' HC6.out.b hcurD
    have hh := put2_wroteL (neg := false) (H.out.below hbD (Nat.le_refl _)) HM8.out HM10.out HB.out.2.2.2.1
    have hw := HW11.out
    subst hw
    exact ⟨rfl, hh.1, hh.2.1, (hbD.mono (Nat.le_of_lt hz)).trans hh.2.2⟩
set_option maxRecDepth 8000 in
theorem ratsub_anyL (z x y p q r s G E F T1 T2 D K L P Q L0 M : Nat) (w : World) (h : RSlot w z) (hx : RatL w x false p q L0) (hy : RatL w y false r s L0) (hr : r ≠ 0)
    (hG : Nat.gcd q s = G) (hE : q / G = E) (hF : s / G = F) (hT1 : p * F = T1) (hT2 : r * E = T2) (hle : T2 ≤ T1) (hD : T1 - T2 = D) (hK : Nat.gcd D G = K) (hL : s / K = L) (hP : D / K = P) (hQ : E * L = Q)
    (b1 : L0 + L0 = M) (b2 : M ≤ 16777216 ∧ 1 ≤ L0) (b0 : 0 < Q) :
    Calls Tryz.prog 64 #[.pointer (some ⟨z, 0, none⟩), .pointer (some ⟨x, 0, none⟩), .pointer (some ⟨y, 0, none⟩)] w (WroteRL w z false P Q (M + M)) := by
  have hA := (Below.refl w.heap.size w).alloc (Nat.le_refl _) (.cells #[.bool false, .slice none 0 0, .bool false, .slice none 0 0] 107)
  have hyb : y < w.heap.size := hy.1.1
  have HN := Lib.hid (ratneg_anyL w.heap.size y r s L0 _ (RSlot.new w 107) (hy.below hA (Nat.le_refl _)) (by omega) hr (by omega))
  have HS := Lib.hid (fun (W : World) (hW : Below w.heap.size w W) (n : Nat) (hn : RatL W n true r s L0) => ratadd_unL z x n p q r s G E F T1 T2 D K L P Q L0 M W (h.below hW (Nat.le_refl _)) (hx.below hW (Nat.le_refl _)) hn hG hE hF hT1 hT2 hle hD hK hL hP hQ b1 b2 b0)
  have HA := Lib.hid hA
  have hz : z ≤ w.heap.size := Nat.le_of_lt h.1.1
  clear h hx hy hG hE hF hT1 hT2 hle hD hK hL hP hQ b1 b2 b0 hA hr
  go_enter Tryz.func64, Tryz.ntmps64
  go_wp2_with fail
  refine HN.out.mono ?_
  rintro e w1 ⟨rfl, n1, -, b1⟩
  have H1 := Lib.hid (And.intro n1 (HA.out.trans b1))
  clear n1 b1
  go_wp2_with fail
  refine (HS.out _ H1.out.2 _ H1.out.1).mono ?_
  rintro e w2 h
  have HF := Lib.hid (h.after (H1.out.2.mono hz))
  obtain ⟨rfl, -⟩ := h
  go_wp2_with fail
  go_ret
  exact HF.out
end Go.Proofs.YtmecnlgndaeidaaGreatDoor.Nb

namespace Go.Proofs.YtmecnlgndaeidaaGreatDoor.Nb
open Go Go.RowKit

theorem dec_start {p q : Nat} {B : Nat} (hp : 0 < p) (hq : 0 < q) (hlo : q ≤ p * 10 ^ B) (hhi : p < q * 10 ^ B) : (blen p : Int) - (blen q : Int) ≤ 4 * B + 2 ∧ (blen q : Int) - (blen p : Int) ≤ 4 * B + 2 := by
  obtain ⟨a1, a2, a3⟩ := blen_spec hp
  obtain ⟨b1, b2, b3⟩ := blen_spec hq
  have h16 : 10 ^ B ≤ 2 ^ (4 * B) := by
    rw [Nat.pow_mul]
    exact Nat.pow_le_pow_left (by omega) B
  constructor
  · have h1 : 2 ^ (blen p - 1) < 2 ^ (blen q + 4 * B) := by
      rw [Nat.pow_add]
      refine Nat.lt_of_le_of_lt a2 (Nat.lt_of_lt_of_le hhi ?_)
      exact Nat.mul_le_mul (Nat.le_of_lt b3) h16
    have := (Nat.pow_lt_pow_iff_right (a := 2) (by omega)).1 h1
    omega
  · have h1 : 2 ^ (blen q - 1) < 2 ^ (blen p + 4 * B + 1) := by
      rw [Nat.pow_succ, Nat.pow_add]
      refine Nat.lt_of_le_of_lt b2 (Nat.lt_of_le_of_lt hlo ?_)
      have := Nat.mul_le_mul (Nat.le_of_lt a3) h16
      have h0 : 0 < 2 ^ blen p * 2 ^ (4 * B) := Nat.mul_pos (Nat.two_pow_pos _) (Nat.two_pow_pos _)
      omega
    have := (Nat.pow_lt_pow_iff_right (a := 2) (by omega)).1 h1
    omega
theorem cmpN_lt {m n : Nat} : (cmpN m n < 0 ↔ m < n) ∧ (0 ≤ cmpN m n ↔ n ≤ m) := by
  unfold cmpN
  split
  · omega
  · split <;> omega

/-- the comparison of a fraction with a power of ten -/
theorem cmp_ten (x z p q L : Nat) (E : Int) (w : World) (hx : RatL w x false p q L) (hz : RatL w z false (10 ^ E.toNat) (10 ^ (-E).toNat) L) (hL : L ≤ 67108864) :
    Calls Tryz.prog 65 #[.pointer (some ⟨x, 0, none⟩), .pointer (some ⟨z, 0, none⟩)] w fun e w' => ∃ c : Int, e = .returned (.int .i64 c) ∧ (c < 0 ↔ ¬ AtM p q E) ∧ -1 ≤ c ∧ c ≤ 1 ∧ Below w.heap.size w w' := by
  refine (ratcmp_anyL x z p q _ _ _ _ L w hx hz rfl rfl hL).mono ?_
  rintro e w' ⟨rfl, hb⟩
  refine ⟨_, rfl, ?_, ?_, ?_, hb⟩
  · rw [cmpN_lt.1]
    unfold AtM
    omega
  · unfold cmpN; split <;> (try split) <;> omega
  · unfold cmpN; split <;> (try split) <;> omega
theorem ten_pow (E : Int) (L : Nat) (w : World) (h0 : -2000 ≤ E) (h1 : E ≤ 2000) (hL : 2100 ≤ L) (hL2 : L ≤ 16777216) : Calls Tryz.prog 53 #[.int .i64 E] w (NewRL w false (10 ^ E.toNat) (10 ^ (-E).toNat) L) :=
  ten_any E _ _ L w (by omega) rfl rfl (ten_ltL (by omega)) (ten_ltL (by omega)) hL2 (by omega)

set_option maxRecDepth 8000 in
set_option maxHeartbeats 4000000 in
theorem decade_any (x p q L B : Nat) (w : World) (hx : RatL w x false p q L) (hp : 0 < p) (hlo : q ≤ p * 10 ^ B) (hhi : p < q * 10 ^ B) (hB : B ≤ 400) (hL : 2100 ≤ L) (hL2 : L ≤ 16777216) :
    Calls Tryz.prog 52 #[.pointer (some ⟨x, 0, none⟩)] w fun e w' => ∃ E : Int, e = .returned (.int .i64 E) ∧ Dec p q E ∧ -(B : Int) ≤ E ∧ E < B ∧ Below w.heap.size w w' := by
  have hq : 0 < q := by
    obtain ⟨_, _, _, _, _, _, _, _, _, _, _, _, h, _⟩ := hx.open
    exact h
  obtain ⟨s1, s2⟩ := dec_start hp hq hlo hhi
  have hA0 : AtM p q (-(B : Int)) := by
    unfold AtM
    rw [show (-(B : Int)).toNat = 0 by omega, show (- -(B : Int)).toNat = B by omega, Nat.pow_zero, Nat.one_mul]
    exact hlo
  have hA1 : ¬ AtM p q (B : Int) := by
    unfold AtM
    rw [show ((B : Int)).toNat = B by omega, show (-(B : Int)).toNat = 0 by omega, Nat.pow_zero, Nat.mul_one, Nat.mul_comm]
    omega
  have HAT := Lib.hid (And.intro hA0 hA1)
  have HN := Lib.hid (num_anyL x p q L w hx (by omega))
  have HX := Lib.hid hx
  obtain ⟨a, ha⟩ : ∃ a : Nat, blen p = a := ⟨_, rfl⟩
  obtain ⟨b, hb⟩ : ∃ b : Nat, blen q = b := ⟨_, rfl⟩
  rw [ha, hb] at s1 s2
  have HAB := Lib.hid (And.intro ha hb)
  obtain ⟨e0, he0⟩ : ∃ e0 : Int, (((a : Int) - (b : Int)) * 3).tdiv 10 = e0 := ⟨_, rfl⟩
  have he1 : -500 ≤ e0 ∧ e0 ≤ 500 := by
    rw [← he0]
    rcases Int.lt_or_le ((a : Int) - (b : Int)) 0 with c | c
    · rw [show ((a : Int) - (b : Int)) * 3 = -(((b : Int) - (a : Int)) * 3) by omega, Int.neg_tdiv, Int.tdiv_eq_ediv_of_nonneg (by omega)]
      omega
    · rw [Int.tdiv_eq_ediv_of_nonneg (by omega)]
      omega
  clear hx hp hq hlo hhi hA0 hA1 ha hb
  go_enter Tryz.func52, Tryz.ntmps52
  go_wp2_with fail
  refine HN.out.mono ?_
  rintro e w1 ⟨b1, rfl, hb1, i1, s1', c1⟩
  have HX1 := Lib.hid (HX.out.below c1 (Nat.le_refl _))
  have H1 := Lib.hid (And.intro c1 i1)
  clear c1 i1 s1' HN HX
  go_wp2_with fail
  refine (bitlen_anyL b1 0 p L false w1 H1.out.2 (by omega)).mono ?_
  rintro e w2 ⟨rfl, hw⟩
  obtain rfl := hw.symm
  rw [HAB.out.1]
  go_wp2_with fail
  refine (denom_anyL x p q L w1 HX1.out (by omega)).mono ?_
  rintro e w2 ⟨b2, rfl, hb2, i2, s2', c2⟩
  have HX2 := Lib.hid (HX1.out.below c2 (Nat.le_refl _))
  have H2 := Lib.hid (And.intro (back_of' H1.out.1 c2) i2)
  clear c2 i2 s2' HX1 H1
  go_wp2_with fail
  refine (bitlen_anyL b2 0 q L false w2 H2.out.2 (by omega)).mono ?_
  rintro e w3 ⟨rfl, hw⟩
  obtain rfl := hw.symm
  rw [HAB.out.2]
  go_wp2_with fail
  have H3 := Lib.hid H2.out.1
  clear H2 hw s1 s2 HAB
  have HX3 := Lib.hid HX2.out
  go_loopw [3] (fun v wr => ∃ E : Int, v = .int .i64 E ∧ -500 ≤ E ∧ E ≤ 500 ∧ Hid (Below w.heap.size w wr ∧ RatL wr x false p q L)) (fun v _ => (intOf v + 600).toNat)
  case atStart => exact ⟨e0, rfl, he1.1, he1.2, Lib.hid ⟨H3.out, HX3.out⟩⟩
  case round =>
    obtain ⟨E, rfl, g1, g2, H⟩ := hrel
    go_wp2_with fail
    refine (ten_pow E L wr (by omega) (by omega) (by omega) hL2).mono ?_
    rintro e wa ⟨bz, rfl, hbz, rz, sz, bb⟩
    have HR := Lib.hid (And.intro (back_of' H.out.1 bb) (And.intro (H.out.2.below bb (Nat.le_refl _)) rz))
    clear rz sz bb H
    go_wp2_with fail
    refine (cmp_ten x _ p q L E _ HR.out.2.1 HR.out.2.2 (by omega)).mono ?_
    rintro e wb ⟨cc, rfl, hcc, hc1, hc2, bc⟩
    have HS := Lib.hid (And.intro (back_of' HR.out.1 bc) (HR.out.2.1.below bc (Nat.le_refl _)))
    clear bc HR
    by_cases hA : AtM p q E
    · have h0 : 0 ≤ cc := by
        rcases Int.lt_or_le cc 0 with t | t
        · exact absurd hA (hcc.1 t)
        · exact t
      have HE := Lib.hid hA
      clear hcc hA
      go_wp2_with fail
      go_loopw [3] (fun v wr => ∃ E : Int, v = .int .i64 E ∧ -500 ≤ E ∧ E ≤ 500 ∧ Hid (AtM p q E ∧ Below w.heap.size w wr ∧ RatL wr x false p q L)) (fun v _ => (600 - intOf v).toNat)
      case atStart => exact ⟨E, rfl, g1, g2, Lib.hid ⟨HE.out, HS.out⟩⟩
      case round =>
        clear HE HS
        obtain ⟨E, rfl, g1, g2, H⟩ := hrel
        go_wp2_with fail
        refine (ten_pow (E + 1) L wr (by omega) (by omega) (by omega) hL2).mono ?_
        rintro e wa ⟨bz, rfl, hbz, rz, sz, bb⟩
        have HR := Lib.hid (And.intro (back_of' H.out.2.1 bb) (And.intro (H.out.2.2.below bb (Nat.le_refl _)) rz))
        have HE := Lib.hid H.out.1
        clear rz sz bb H
        go_wp2_with fail
        refine (cmp_ten x _ p q L (E + 1) _ HR.out.2.1 HR.out.2.2 (by omega)).mono ?_
        rintro e wb ⟨cc, rfl, hcc, hc1, hc2, bc⟩
        have HS := Lib.hid (And.intro (back_of' HR.out.1 bc) (HR.out.2.1.below bc (Nat.le_refl _)))
        clear bc HR
        by_cases hA : AtM p q (E + 1)
        · have h0 : 0 ≤ cc := by
            rcases Int.lt_or_le cc 0 with t | t
            · exact absurd hA (hcc.1 t)
            · exact t
          have h1 : E + 1 ≤ 500 := by
            rcases Int.lt_or_le (E + 1) (B : Int) with t | t
            · omega
            · exact absurd (hA.le t) HAT.out.2
          have HE := Lib.hid hA
          clear hcc hA
          go_wp2_with fail
          exact ⟨⟨_, rfl, by omega, by omega, Lib.hid ⟨HE.out, HS.out⟩⟩, by simp only [intOf]; omega⟩
        · have h0 : cc < 0 := hcc.2 hA
          have HF : Hid (∃ E' : Int, (Ending.returned (.int .i64 E) = .returned (.int .i64 E') ∧ Dec p q E' ∧ -(B : Int) ≤ E' ∧ E' < B ∧ Below w.heap.size w wb)) := by
            refine Lib.hid ⟨E, rfl, ⟨HE.out, hA⟩, ?_, ?_, HS.out.1⟩
            · rcases Int.lt_or_le E (-(B : Int)) with t | t
              · exact absurd (HAT.out.1.le (by omega)) hA
              · exact t
            · rcases Int.lt_or_le E (B : Int) with t | t
              · exact t
              · exact absurd (HE.out.le t) HAT.out.2
          clear hcc hA HE HS
          go_wp2_with fail
          go_ret
          exact HF.out
    · have h0 : cc < 0 := hcc.2 hA
      have h1 : -500 ≤ E - 1 := by
        rcases Int.lt_or_le (-(B : Int)) E with t | t
        · omega
        · exact absurd (HAT.out.1.le t) hA
      clear hcc hA
      go_wp2_with fail
      exact ⟨⟨_, rfl, by omega, by omega, Lib.hid HS.out⟩, by simp only [intOf]; omega⟩
end Go.Proofs.YtmecnlgndaeidaaGreatDoor.Nb

namespace Go.Proofs.YtmecnlgndaeidaaGreatDoor.Nb
open Go Go.RowKit

theorem two_ltL {n L : Nat} (h : n < L) : 2 ^ n < 18446744073709551616 ^ L := by
  have h1 : 2 ^ n ≤ 10 ^ n := Nat.pow_le_pow_left (by omega) n
  have h2 := ten_ltL h
  omega
/-- two to any power, in new memory -/
theorem two_any (E : Int) (r s L : Nat) (w : World) (hE : -1000000 ≤ E ∧ E ≤ 1000000) (hr : 2 ^ E.toNat = r) (hs : 2 ^ (-E).toNat = s) (hrl : r < 18446744073709551616 ^ L) (hsl : s < 18446744073709551616 ^ L) (hL : L ≤ 16777216) (hL1 : 1 ≤ L) :
    Calls Tryz.prog 70 #[.int .i64 E] w (NewRL w false r s L) := by
  by_cases h : 0 ≤ E
  · obtain ⟨k, rfl⟩ : ∃ k : Nat, E = (k : Int) := ⟨E.toNat, by omega⟩
    have e1 : (k : Int).toNat = k := by omega
    have e2 : (-(k : Int)).toNat = 0 := by omega
    rw [e1] at hr
    rw [e2, Nat.pow_zero] at hs
    subst hs
    exact two_posL k r L w (by omega) hr hrl hL hL1
  · obtain ⟨k, rfl⟩ : ∃ k : Nat, E = -(k : Int) := ⟨(-E).toNat, by omega⟩
    have e1 : (-(k : Int)).toNat = 0 := by omega
    have e2 : (- -(k : Int)).toNat = k := by omega
    rw [e1, Nat.pow_zero] at hr
    rw [e2] at hs
    subst hr
    exact two_negL k s L _ w (by omega) (by omega) rfl hs hsl hL hL1
set_option maxRecDepth 8000 in
set_option maxHeartbeats 1000000 in
theorem amount_any (g : Bool) (m : Nat) (X : Int) (r s L : Nat) (w : World) (hm : m < 18446744073709551616) (hX : -10000 ≤ X ∧ X ≤ 10000) (hr : 2 ^ X.toNat = r) (hsd : 2 ^ (-X).toNat = s) (hL : 10100 ≤ L) (hLm : L ≤ 16777216) :
    Calls Tryz.prog 21 #[.agg #[.bool g, .int .u64 (m : Int), .int .i64 X]] w fun e w' => ∃ z p q, e = .returned (.pointer (some ⟨z, 0, none⟩)) ∧ RatL w' z false p q L ∧ p * s = m * r * q ∧ Below w.heap.size w w' := by
  have hL1 : 1 ≤ L := by omega
  have hrl : r < 18446744073709551616 ^ L := by rw [← hr]; exact two_ltL (by omega)
  have hsl : s < 18446744073709551616 ^ L := by rw [← hsd]; exact two_ltL (by omega)
  have hs0 : 0 < s := by rw [← hsd]; exact Nat.pow_pos (by omega)
  obtain ⟨heq, hQ0, hPle, hQle⟩ := mul_law (n := m) (r := r) hs0
  have hnr : m * r < 18446744073709551616 ^ L := by
    obtain ⟨z, rfl⟩ : ∃ z, L = z + 1 := ⟨L - 1, by omega⟩
    have h1 : r < 18446744073709551616 ^ z := by rw [← hr]; exact two_ltL (by omega)
    rw [Nat.pow_succ, Nat.mul_comm (18446744073709551616 ^ z)]
    exact Nat.mul_lt_mul_of_lt_of_lt hm h1
  have hPl := Nat.lt_of_le_of_lt hPle hnr
  have hQl := Nat.lt_of_le_of_lt hQle hsl
  clear hnr hPle hQle hs0
  have hA1 := (Below.refl w.heap.size w).alloc (Nat.le_refl _) (.cells #[.bool g, .int .u64 (m : Int), .int .i64 X] 47)
  have hA2 := hA1.alloc hA1.size (.cells #[.bool false, .slice none 0 0, .bool false, .slice none 0 0] 107)
  have hA3 := hA2.alloc hA2.size (.cells #[.bool false, .slice none 0 0] 105)
  have h1 : RSlot ((((w.alloc (.cells #[.bool g, .int .u64 (m : Int), .int .i64 X] 47)).alloc (.cells #[.bool false, .slice none 0 0, .bool false, .slice none 0 0] 107)).alloc (.cells #[.bool false, .slice none 0 0] 105))) (w.heap.size + 1) := by
    have := (RSlot.new (w.alloc (.cells #[.bool g, .int .u64 (m : Int), .int .i64 X] 47)) 107).below ((Below.refl _ _).alloc (Nat.le_refl _) (.cells #[.bool false, .slice none 0 0] 105)) (Nat.le_refl _)
    simpa using this
  have h2 : ISlot ((((w.alloc (.cells #[.bool g, .int .u64 (m : Int), .int .i64 X] 47)).alloc (.cells #[.bool false, .slice none 0 0, .bool false, .slice none 0 0] 107)).alloc (.cells #[.bool false, .slice none 0 0] 105))) (w.heap.size + 2) 0 := by
    have := ISlot.new ((w.alloc (.cells #[.bool g, .int .u64 (m : Int), .int .i64 X] 47)).alloc (.cells #[.bool false, .slice none 0 0, .bool false, .slice none 0 0] 107)) 105
    simpa using this
  have h3 : ((((w.alloc (.cells #[.bool g, .int .u64 (m : Int), .int .i64 X] 47)).alloc (.cells #[.bool false, .slice none 0 0, .bool false, .slice none 0 0] 107)).alloc (.cells #[.bool false, .slice none 0 0] 105))).cell? ⟨w.heap.size, 2, none⟩ = some (.int .i64 X) := by simp [go_sem]
  have HU := Lib.hid (setUint_any (w.heap.size + 2) 0 m _ h2 (by omega))
  have HA := Lib.hid (And.intro hA3 (And.intro h1 h3))
  have HT := Lib.hid (fun W => two_any X r s L W (by omega) hr hsd hrl hsl (by omega) (by omega))
  have HLL := Lib.hid (And.intro hLm hL1)
  have HM := Lib.hid (And.intro hPl (And.intro hQl (And.intro hQ0 heq)))
  clear hA1 hA2 hA3 h1 h2 h3 hr hsd hrl hsl hLm hL1 hPl hQl hQ0 heq
  go_enter Tryz.func21, Tryz.ntmps21
  go_wp2_with fail
  refine HU.out.mono ?_
  rintro e w1 ⟨rfl, i1, s1, b1⟩
  have H1 := Lib.hid (And.intro i1 (And.intro (HA.out.1.trans (b1.mono (by omega))) (And.intro ((show RSlot w1 (w.heap.size + 1) from ⟨⟨Nat.lt_of_lt_of_le HA.out.2.1.1.1 b1.size, by
      obtain ⟨-, ⟨n, h2⟩, -, -, -⟩ := HA.out.2.1.1; exact ⟨n, (b1.cell (p := ⟨w.heap.size + 1, 0, none⟩) (by show w.heap.size + 1 < w.heap.size + 2; omega)).trans h2⟩, by
      obtain ⟨-, -, ⟨A, k, c, h3⟩, -, -⟩ := HA.out.2.1.1; exact ⟨A, k, c, (b1.cell (p := ⟨w.heap.size + 1, 0 + 1, none⟩) (by show w.heap.size + 1 < w.heap.size + 2; omega)).trans h3⟩, (b1.frozen (p := ⟨w.heap.size + 1, 0, none⟩) (by show w.heap.size + 1 < w.heap.size + 2; omega)).trans HA.out.2.1.1.2.2.2.1, (b1.frozen (p := ⟨w.heap.size + 1, 0 + 1, none⟩) (by show w.heap.size + 1 < w.heap.size + 2; omega)).trans HA.out.2.1.1.2.2.2.2⟩, ⟨Nat.lt_of_lt_of_le HA.out.2.1.1.1 b1.size, by
      obtain ⟨-, ⟨n, h2⟩, -, -, -⟩ := HA.out.2.1.2; exact ⟨n, (b1.cell (p := ⟨w.heap.size + 1, 2, none⟩) (by show w.heap.size + 1 < w.heap.size + 2; omega)).trans h2⟩, by
      obtain ⟨-, -, ⟨A, k, c, h3⟩, -, -⟩ := HA.out.2.1.2; exact ⟨A, k, c, (b1.cell (p := ⟨w.heap.size + 1, 2 + 1, none⟩) (by show w.heap.size + 1 < w.heap.size + 2; omega)).trans h3⟩, (b1.frozen (p := ⟨w.heap.size + 1, 2, none⟩) (by show w.heap.size + 1 < w.heap.size + 2; omega)).trans HA.out.2.1.2.2.2.2.1, (b1.frozen (p := ⟨w.heap.size + 1, 2 + 1, none⟩) (by show w.heap.size + 1 < w.heap.size + 2; omega)).trans HA.out.2.1.2.2.2.2.2⟩⟩)) ((b1.cell (p := ⟨w.heap.size, 2, none⟩) (by show w.heap.size < w.heap.size + 2; omega)).trans HA.out.2.2))))
  clear i1 s1 b1 HA HU
  go_wp2_with fail
  refine (setintL (w.heap.size + 1) (w.heap.size + 2) 0 m L w1 H1.out.2.2.1 (H1.out.1.any HLL.out.2) (by have := HLL.out.1; omega) HLL.out.2 (by omega)).mono ?_
  rintro e w2 ⟨rfl, r2, s2, b2⟩
  have c2 := (b2.cell (p := ⟨w.heap.size, 2, none⟩) (by show w.heap.size < w.heap.size + 1; omega)).trans H1.out.2.2.2
  have H2 := Lib.hid (And.intro r2 (And.intro s2 (H1.out.2.1.trans (b2.mono (by omega)))))
  clear r2 s2 b2 H1
  go_wp2_with fail
  refine (HT.out w2).mono ?_
  rintro e w3 ⟨b3, rfl, hb3, r3, s3, c3⟩
  have H3 := Lib.hid (And.intro (H2.out.1.below c3 (Nat.le_refl _)) (And.intro (H2.out.2.1.below c3 (Nat.le_refl _)) (And.intro (back_of' H2.out.2.2 c3) r3)))
  clear r3 s3 c3
  go_wp2_with fail
  refine (ratmulL (w.heap.size + 1) (w.heap.size + 1) b3 m 1 r s _ _ L L w3 H3.out.2.1 H3.out.1 H3.out.2.2.2 rfl rfl HM.out.1 HM.out.2.1 HM.out.2.2.1 HLL.out.1 HLL.out.2).mono ?_
  rintro e w4 ⟨rfl, r4, s4, b4⟩
  have HF := Lib.hid (And.intro r4 (And.intro s4 (H3.out.2.2.1.trans (b4.mono (by omega)))))
  clear r4 s4 b4
  go_wp2_with fail
  go_ret
  exact ⟨_, _, _, rfl, HF.out.1, HM.out.2.2.2, HF.out.2.2⟩
end Go.Proofs.YtmecnlgndaeidaaGreatDoor.Nb
