/- BQ2 BQ3 BQ4 BQ5 BN4 in one text. -/
import Derived.Test.YtbidlkmagbjllaaGreatDoorP34
import Derived.Test.YtbidlkmagbjllaaGreatDoorP14
import Derived.Test.YtbidlkmagbjllaaGreatDoorP15
import Derived.Test.YtbidlkmagbjllaaGreatDoorP13

namespace Go.Proofs.YtbidlkmagbjllaaGreatDoor.Nb
open Go Go.RowKit

/-- the fraction lies in block b: a whole number, and an amount above 0 -/
def RatL (w : World) (b : Nat) (neg : Bool) (p q L : Nat) : Prop := IntL w b 0 neg p L ∧ IntL w b 2 false q L ∧ 0 < q
theorem RatL.below {w w' : World} {b p q L B : Nat} {neg : Bool} (h : RatL w b neg p q L) (hb : Below B w w') (hB : w.heap.size ≤ B) : RatL w' b neg p q L :=
  ⟨h.1.below hb hB, h.2.1.below hb hB, h.2.2⟩
theorem RatL.more {w : World} {b p q L L' : Nat} {neg : Bool} (h : RatL w b neg p q L) (hL : L ≤ L') : RatL w b neg p q L' := ⟨h.1.more hL, h.2.1.more hL, h.2.2⟩
theorem RatL.less {w : World} {b p q L L' : Nat} {neg : Bool} (h : RatL w b neg p q L) (hp : p < 18446744073709551616 ^ L') (hq : q < 18446744073709551616 ^ L') : RatL w b neg p q L' := ⟨h.1.less hp, h.2.1.less hq, h.2.2⟩
/-- the answer of a setter of a fraction -/
def WroteRL (w : World) (b : Nat) (neg : Bool) (p q L : Nat) (e : Ending) (w' : World) : Prop :=
  e = .returned (.pointer (some ⟨b, 0, none⟩)) ∧ RatL w' b neg p q L ∧ RSlot w' b ∧ Below b w w'
/-- an answer that is a fraction in new memory -/
def NewRL (w : World) (neg : Bool) (p q L : Nat) (e : Ending) (w' : World) : Prop :=
  ∃ b, e = .returned (.pointer (some ⟨b, 0, none⟩)) ∧ w.heap.size ≤ b ∧ RatL w' b neg p q L ∧ RSlot w' b ∧ Below w.heap.size w w'
theorem WroteRL.after {w w1 w' : World} {b p q L : Nat} {neg : Bool} {e : Ending} (h : WroteRL w1 b neg p q L e w') (hb : Below b w w1) : WroteRL w b neg p q L e w' :=
  ⟨h.1, h.2.1, h.2.2.1, hb.trans h.2.2.2⟩
theorem IntL.put {w : World} {b o n L : Nat} {neg' : Bool} (h : IntL w b o neg' n L) {b' o' : Nat} (hs : ISlot w b' o') (hne : b ≠ b' ∨ (o ≠ o' ∧ o ≠ o' + 1 ∧ o + 1 ≠ o')) (neg : Bool) (v : Value) : IntL (put w b' o' neg v) b o neg' n L := by
  obtain ⟨h1, h2, A, k, c, h3, h4⟩ := h
  refine ⟨by simpa [Nb.put, World.setCell] using h1, ?_, A, k, c, ?_, hs.magN h4 neg v⟩
  · rw [put_cell _ _ (by omega)]; exact h2
  · rw [put_cell _ _ (by omega)]; exact h3
theorem two_putL {w3 w5 : World} {z p q L : Nat} {neg : Bool} {A1 A2 : Option Addr} {k1 c1 k2 c2 : Nat} (h : RSlot w3 z) (hp : MagN w3 (.slice A1 k1 c1) p L)
    (hb : Below (put w3 z 0 neg (.slice A1 k1 c1)).heap.size (put w3 z 0 neg (.slice A1 k1 c1)) w5) (hq : MagN w5 (.slice A2 k2 c2) q L) (h0 : 0 < q) :
    ISlot w5 z 2 ∧ RatL (put w5 z 2 false (.slice A2 k2 c2)) z neg p q L ∧ RSlot (put w5 z 2 false (.slice A2 k2 c2)) z ∧ Below z w3 (put w5 z 2 false (.slice A2 k2 c2)) := by
  have l1 := h.1.layL hp neg
  have s2 := (h.2.put (b' := z) (o' := 0) (.inr (by omega)) neg (.slice A1 k1 c1)).below hb (Nat.le_refl _)
  have l2 := s2.layL hq false
  have i1 := l1.1.below hb (Nat.le_refl _)
  have s1 := l1.2.below hb (Nat.le_refl _)
  have hz : z ≤ (put w3 z 0 neg (.slice A1 k1 c1)).heap.size := Nat.le_of_lt l1.2.1
  exact ⟨s2, ⟨i1.put s2 (.inr (by omega)) _ _, l2.1, h0⟩, ⟨s1.put (.inr (by omega)) _ _, l2.2⟩, below_put ((below_put (Below.refl _ _) (Nat.le_refl _) neg (.slice A1 k1 c1)).trans (hb.mono hz)) (Nat.le_refl _) _ _⟩

theorem put2_wroteL {w : World} {z p q L : Nat} {neg : Bool} {A A' : Option Addr} {k c k' c' : Nat} (h : RSlot w z) (hp : MagN w (.slice A k c) p L) (hq : MagN w (.slice A' k' c') q L) (h0 : 0 < q) :
    RatL (put2 w z neg (.slice A k c) (.slice A' k' c')) z neg p q L ∧ RSlot (put2 w z neg (.slice A k c) (.slice A' k' c')) z ∧ Below z w (put2 w z neg (.slice A k c) (.slice A' k' c')) := by
  have h1 := two_putL (neg := neg) h hp (Below.refl _ _) (h.1.magN hq neg (.slice A k c)) h0
  exact h1.2
set_option maxRecDepth 8000 in
theorem raw_putL (z p L : Nat) (neg : Bool) (A A' : Option Addr) (k c k' c' : Nat) (w : World) (h : RSlot w z) (hp : MagN w (.slice A k c) p L) (hn : neg = true → p ≠ 0) :
    Calls Tryz.prog 104 #[.pointer (some ⟨z, 0, none⟩), .bool neg, .slice A k c, .slice A' k' c'] w fun e w' => e = .returned (.pointer (some ⟨z, 0, none⟩)) ∧ w' = put2 w z neg (.slice A k c) (.slice A' k' c') := by
  have H1 := Lib.hid (made_any z 0 neg A k c w h.1)
  rw [neg_len hp hn] at H1
  have s2 := h.2.put (b' := z) (o' := 0) (.inr (by omega)) neg (.slice A k c)
  have H2 := Lib.hid (made_any z 2 false A' k' c' (put w z 0 neg (.slice A k c)) s2)
  clear h s2 hp hn
  go_enter Tryz.func104, Tryz.ntmps104
  go_wp2_with fail
  refine H1.out.mono ?_
  rintro e w1 ⟨rfl, rfl⟩
  go_wp2_with fail
  refine H2.out.mono ?_
  rintro e w2 ⟨rfl, rfl⟩
  go_wp2_with fail
  go_ret
  exact ⟨rfl, rfl⟩

set_option maxRecDepth 8000 in
set_option maxHeartbeats 300000 in
theorem setintL (z b o n L : Nat) (w : World) (h : RSlot w z) (hx : IntL w b o false n L) (hL : L ≤ 268435456) (hL1 : 1 ≤ L) (hne : b ≠ z) :
    Calls Tryz.prog 50 #[.pointer (some ⟨z, 0, none⟩), .pointer (some ⟨b, o, none⟩)] w (WroteRL w z false n 1 L) := by
  obtain ⟨hb, h2, A, k, c, h3, h4⟩ := hx
  have HS := Lib.hid (fun (W : World) (hW : Below w.heap.size w W) => (show W.cell? ⟨b, o, none⟩ = some (.bool false) ∧ W.cell? ⟨b, o + 1, none⟩ = some (.slice A k c) from ⟨(hW.cell (p := ⟨b, o, none⟩) (by exact hb)).trans h2, (hW.cell (p := ⟨b, o + 1, none⟩) (by exact hb)).trans h3⟩))
  have HS2 := Lib.hid (fun (W : World) (hW : Below w.heap.size w W) (neg : Bool) (v v' : Value) => (show (put2 W z neg v v').cell? ⟨b, o, none⟩ = some (.bool false) ∧ (put2 W z neg v v').cell? ⟨b, o + 1, none⟩ = some (.slice A k c) from ⟨(put2_cell _ _ _ hne).trans (HS.out W hW).1, (put2_cell _ _ _ hne).trans (HS.out W hW).2⟩))
  have HC := Lib.hid (fun (W : World) (hW : Below w.heap.size w W) => clone_any _ n L W (h4.below hW) (by omega))
  have H := Lib.hid h
  have hz : z ≤ w.heap.size := Nat.le_of_lt h.1.1
  clear h4 h
  have hcur : Below w.heap.size w w.drew := (Below.refl _ _).drew
  go_enter Tryz.func50, Tryz.ntmps50
  go_wp2_with fail
  go_region_held3 (fun w' => w'.cell? ⟨b, o, none⟩ = some (.bool false) ∧ w'.cell? ⟨b, o + 1, none⟩ = some (.slice A k c)) (first | exact hk4 | exact HS.out _ (by first | exact hcur3 | exact hcur3.alloc hcur3.size _ | exact hcur | exact hcur.alloc hcur.size _)) (first | (go_at_call 105; refine (HC.out _ (by first | exact hcur | exact hcur.alloc hcur.size _)).mono ?_; rintro e w3 ⟨x, rfl, hm, hb3⟩; obtain ⟨A1, k1, c1, rfl⟩ := hm.slice; have hcur3 : Below w.heap.size w w3 := (by first | exact back_of' hcur hb3 | exact back_of' (hcur.alloc hcur.size (.cells #[.int .u64 1] 74)) hb3); (first | (have HA : Hid (Below w.drew.heap.size w.drew w3) := Lib.hid hb3) | (have HB : Hid (Below (w.drew.alloc (.cells #[.int .u64 1] 74)).heap.size (w.drew.alloc (.cells #[.int .u64 1] 74)) w3) := Lib.hid hb3)); have HM := Lib.hid hm; clear hm hb3) | (go_at_call 104; refine (raw_putL z n L false A1 _ k1 c1 1 1 _ (by first | exact H.out.below hcur3 (Nat.le_refl _) | exact H.out.below (hcur3.alloc hcur3.size _) (Nat.le_refl _)) (by first | exact HM.out | exact HM.out.below ((Below.refl _ _).alloc (Nat.le_refl _) _)) (by simp)).mono ?_; rintro e w4 ⟨rfl, hw4⟩; have hk4 : w4.cell? ⟨b, o, none⟩ = some (.bool false) ∧ w4.cell? ⟨b, o + 1, none⟩ = some (.slice A k c) := (by rw [hw4]; exact HS2.out _ (by first | exact hcur3 | exact hcur3.alloc hcur3.size _) _ _ _); have HW4 := Lib.hid hw4; clear hw4))
  all_goals go_wp2_with fail
  all_goals go_ret
  · have h := put2_wroteL (neg := false) (H.out.below (hcur3.alloc hcur3.size (.cells #[.int .u64 1] 74)) (Nat.le_refl _)) (HM.out.below ((Below.refl _ _).alloc (Nat.le_refl _) (.cells #[.int .u64 1] 74))) ((one_new w3 74).more hL1) (by omega)
    have hw := HW4.out
    subst hw
    exact ⟨rfl, h.1, h.2.1, ((hcur3.alloc hcur3.size (.cells #[.int .u64 1] 74)).mono hz).trans h.2.2⟩
  · have h := put2_wroteL (neg := false) (H.out.below hcur3 (Nat.le_refl _)) HM.out (((one_new w.drew 74).below HB.out).more hL1) (by omega)
    have hw := HW4.out
    subst hw
    exact ⟨rfl, h.1, h.2.1, (hcur3.mono hz).trans h.2.2⟩
end Go.Proofs.YtbidlkmagbjllaaGreatDoor.Nb

namespace Go.Proofs.YtbidlkmagbjllaaGreatDoor.Nb
open Go Go.RowKit

theorem gcd_parts {p q g : Nat} (hg : Nat.gcd p q = g) (h0 : 0 < q) : 0 < g ∧ 0 < q / g ∧ (p ≠ 0 → p / g ≠ 0) ∧ p / g ≤ p ∧ q / g ≤ q := by
  have g0 : 0 < g := by rw [← hg]; exact Nat.gcd_pos_of_pos_right _ h0
  have d1 : g ∣ p := by rw [← hg]; exact Nat.gcd_dvd_left _ _
  have d2 : g ∣ q := by rw [← hg]; exact Nat.gcd_dvd_right _ _
  refine ⟨g0, Nat.div_pos (Nat.le_of_dvd h0 d2) g0, fun hp => ?_, Nat.div_le_self _ _, Nat.div_le_self _ _⟩
  have := Nat.div_pos (Nat.le_of_dvd (by omega) d1) g0
  omega
set_option maxRecDepth 8000 in
set_option maxHeartbeats 4000000 in
/-- made of an amount and another one: in lowest terms -/
theorem ratmadeL (z p q L : Nat) (neg : Bool) (u v : Value) (w : World) (h : RSlot w z) (hu : MagN w u p L) (hv : MagN w v q L) (hn : neg = true → p ≠ 0) (h0 : 0 < q) (hL : L ≤ 16777216) (hL1 : 1 ≤ L) :
    Calls Tryz.prog 180 #[.pointer (some ⟨z, 0, none⟩), .bool neg, u, v] w (WroteRL w z neg (p / Nat.gcd p q) (q / Nat.gcd p q) L) := by
  obtain ⟨A, k, c, rfl⟩ := hu.slice
  obtain ⟨A', k', c', rfl⟩ := hv.slice
  have HD := Lib.hid (divisor_any _ _ p q L w hu hv hL hL1)
  obtain ⟨g, hg⟩ : ∃ g, Nat.gcd p q = g := ⟨_, rfl⟩
  obtain ⟨g0, q0, hpn, -⟩ := gcd_parts hg h0
  rw [hg] at HD ⊢
  have HU0 := Lib.hid hu
  have HV0 := Lib.hid hv
  have H0 := Lib.hid h
  have HZ := Lib.hid h.1.1
  have HN := Lib.hid (And.intro (fun h => hpn (hn h)) q0)
  have HGG := Lib.hid g0
  clear h hu hv hg hn h0 g0 q0 hpn
  go_enter Tryz.func180, Tryz.ntmps180
  go_wp2_with fail
  refine HD.out.mono ?_
  rintro e w1 ⟨gv, rfl, hm, hb⟩
  have hal := (Below.refl w1.heap.size w1).alloc (Nat.le_refl _) (.cells #[.int .u64 1] 74)
  have HC := Lib.hid (compare_any _ _ g 1 L _ (hm.below hal) ((one_new w1 74).more hL1) (by omega))
  have HB := Lib.hid (onto hb hal)
  have HGM := Lib.hid (hm.below hal)
  obtain ⟨Ag, kg, cg, rfl⟩ := hm.slice
  clear hm hb hal HD
  go_wp2_with fail
  refine HC.out.mono ?_
  rintro e w2 ⟨rfl, j, rfl⟩
  have HWB0 := Lib.hid (show Below w.heap.size w ((w1.alloc (.cells #[.int .u64 1] 74)).drewN j) from below_dN HB.out j)
  have HGM := Lib.hid (show MagN ((w1.alloc (.cells #[.int .u64 1] 74)).drewN j) _ g L from HGM.out)
  generalize (w1.alloc (.cells #[.int .u64 1] 74)).drewN j = wa at *
  clear HC HB
  by_cases hg1 : g = 1
  · subst hg1
    have hc1 : cmpN 1 1 = 0 := by unfold cmpN; simp
    rw [Nat.div_one, Nat.div_one] at HN
    go_wp2_with fail
    obtain ⟨wb, rfl⟩ : ∃ wb : World, wb = wa := ⟨_, rfl⟩
    have HWB := Lib.hid HWB0.out
    have hub := HU0.out.below HWB.out
    have hvb := HV0.out.below HWB.out
    have hzb := H0.out.below HWB.out (Nat.le_refl _)
    clear hc1 HU0 HV0 H0 HWB0 HGM
    have HU := Lib.hid (fun (W : World) (hW : Below wb.heap.size wb W) => clone_any _ (p) L W (hub.below hW) (by omega))
    have HV := Lib.hid (fun (W : World) (hW : Below wb.heap.size wb W) => hvb.below hW)
    have H := Lib.hid hzb
    have hz : z < wb.heap.size := hzb.1.1
    clear hub hvb hzb
    have hcur : Below wb.heap.size wb wb.drew := (Below.refl _ _).drew
    go_region_held3 (fun _ => True) (trivial) (first | (go_at_call 105; refine (HU.out _ hcur).mono ?_; rintro e w3 ⟨x, rfl, hm, hb3⟩; obtain ⟨A1, k1, c1, rfl⟩ := hm.slice; have hcur3 := back_of' hcur hb3; have s1 := H.out.below hcur3 (Nat.le_refl _); have HW := Lib.hid (s1.1.magN (HV.out _ hcur3) neg (.slice A1 k1 c1)); have HM := Lib.hid (made_any z 0 neg A1 k1 c1 w3 s1.1); rw [neg_len hm HN.out.1] at HM; have HF := Lib.hid (And.intro hm hcur3); clear s1 hm hb3 hcur3) | (go_at_call 101; refine HM.out.mono ?_; rintro e w4 ⟨rfl, rfl⟩))
    have HX := Lib.hid (fun (W : World) (hW : Below (put w3 z 0 neg (.slice A1 k1 c1)).heap.size (put w3 z 0 neg (.slice A1 k1 c1)) W) (A2 : Option Addr) (k2 c2 : Nat) (hm : MagN W (.slice A2 k2 c2) (q) L) => two_putL (H.out.below HF.out.2 (Nat.le_refl _)) HF.out.1 hW hm HN.out.2)
    have HG := Lib.hid ((HWB.out.trans (HF.out.2.mono HWB.out.size)).mono (Nat.le_of_lt HZ.out))
    obtain ⟨W4, hW4⟩ : ∃ W4, put w3 z 0 neg (.slice A1 k1 c1) = W4 := ⟨_, rfl⟩
    rw [hW4] at HX HW
    rw [hW4]
    clear hcur HM HF hW4
    go_wp2_with fail
    have hcur : Below W4.heap.size W4 W4.drew := (Below.refl _ _).drew
    go_region_held3 (fun _ => True) (trivial) (first | (go_at_call 105; refine (clone_any _ (q) L _ (HW.out.below hcur) (by omega)).mono ?_; rintro e w5 ⟨x, rfl, hm, hb5⟩; obtain ⟨A2, k2, c2, rfl⟩ := hm.slice; obtain ⟨s2, r1, r2, r3⟩ := HX.out _ (back_of' hcur hb5) _ _ _ hm; have HM := Lib.hid (made_any z 2 false A2 k2 c2 w5 s2); have HF := Lib.hid (And.intro r1 (And.intro r2 r3)); clear s2 hm hb5 r1 r2 r3) | (go_at_call 101; refine HM.out.mono ?_; rintro e w4 ⟨rfl, rfl⟩))
    all_goals go_wp2_with fail
    all_goals (go_ret; exact ⟨rfl, by rw [Nat.div_one, Nat.div_one]; exact HF.out.1, HF.out.2.1, HG.out.trans HF.out.2.2⟩)
  · obtain ⟨cm, hcm⟩ : ∃ z, cmpN g 1 = z := ⟨_, rfl⟩
    have hc1 : (cm != 0) = true := by
      have hz : cmpN g 1 ≠ 0 := by
        unfold cmpN
        by_cases h1 : g < 1
        · rw [if_pos h1]; omega
        · rw [if_neg h1, if_pos (by omega)]; omega
      rw [← hcm]
      simpa using hz
    rw [hcm]
    have HQ1 := Lib.hid (quotient_any _ _ p g L wa (HU0.out.below HWB0.out) HGM.out HGG.out (by omega) hL1)
    clear hcm
    go_wp2_with fail
    refine HQ1.out.mono ?_
    rintro e w5 ⟨A5, k5, c5, A6, k6, c6, rfl, hm5, -, hb5⟩
    have HWB5 := Lib.hid (onto HWB0.out hb5)
    have HM5 := Lib.hid hm5
    have HQ2 := Lib.hid (quotient_any _ _ q g L w5 (HV0.out.below HWB5.out) (HGM.out.below hb5) HGG.out (by omega) hL1)
    clear hm5 hb5 HQ1
    go_wp2_with fail
    refine HQ2.out.mono ?_
    rintro e wb ⟨A7, k7, c7, A8, k8, c8, rfl, hm7, -, hb7⟩
    have HWB := Lib.hid (onto HWB5.out hb7)
    have hub := HM5.out.below hb7
    have hvb := hm7
    have hzb := H0.out.below HWB.out (Nat.le_refl _)
    clear hm7 hb7 HQ2 HM5 HWB5 HGM HU0 HV0 H0 HWB0 hc1
    go_wp2_with fail
    have HU := Lib.hid (fun (W : World) (hW : Below wb.heap.size wb W) => clone_any _ (p / g) L W (hub.below hW) (by omega))
    have HV := Lib.hid (fun (W : World) (hW : Below wb.heap.size wb W) => hvb.below hW)
    have H := Lib.hid hzb
    have hz : z < wb.heap.size := hzb.1.1
    clear hub hvb hzb
    have hcur : Below wb.heap.size wb wb.drew := (Below.refl _ _).drew
    go_region_held3 (fun _ => True) (trivial) (first | (go_at_call 105; refine (HU.out _ hcur).mono ?_; rintro e w3 ⟨x, rfl, hm, hb3⟩; obtain ⟨A1, k1, c1, rfl⟩ := hm.slice; have hcur3 := back_of' hcur hb3; have s1 := H.out.below hcur3 (Nat.le_refl _); have HW := Lib.hid (s1.1.magN (HV.out _ hcur3) neg (.slice A1 k1 c1)); have HM := Lib.hid (made_any z 0 neg A1 k1 c1 w3 s1.1); rw [neg_len hm HN.out.1] at HM; have HF := Lib.hid (And.intro hm hcur3); clear s1 hm hb3 hcur3) | (go_at_call 101; refine HM.out.mono ?_; rintro e w4 ⟨rfl, rfl⟩))
    have HX := Lib.hid (fun (W : World) (hW : Below (put w3 z 0 neg (.slice A1 k1 c1)).heap.size (put w3 z 0 neg (.slice A1 k1 c1)) W) (A2 : Option Addr) (k2 c2 : Nat) (hm : MagN W (.slice A2 k2 c2) (q / g) L) => two_putL (H.out.below HF.out.2 (Nat.le_refl _)) HF.out.1 hW hm HN.out.2)
    have HG := Lib.hid ((HWB.out.trans (HF.out.2.mono HWB.out.size)).mono (Nat.le_of_lt HZ.out))
    obtain ⟨W4, hW4⟩ : ∃ W4, put w3 z 0 neg (.slice A1 k1 c1) = W4 := ⟨_, rfl⟩
    rw [hW4] at HX HW
    rw [hW4]
    clear hcur HM HF hW4
    go_wp2_with fail
    have hcur : Below W4.heap.size W4 W4.drew := (Below.refl _ _).drew
    go_region_held3 (fun _ => True) (trivial) (first | (go_at_call 105; refine (clone_any _ (q / g) L _ (HW.out.below hcur) (by omega)).mono ?_; rintro e w5 ⟨x, rfl, hm, hb5⟩; obtain ⟨A2, k2, c2, rfl⟩ := hm.slice; obtain ⟨s2, r1, r2, r3⟩ := HX.out _ (back_of' hcur hb5) _ _ _ hm; have HM := Lib.hid (made_any z 2 false A2 k2 c2 w5 s2); have HF := Lib.hid (And.intro r1 (And.intro r2 r3)); clear s2 hm hb5 r1 r2 r3) | (go_at_call 101; refine HM.out.mono ?_; rintro e w4 ⟨rfl, rfl⟩))
    all_goals go_wp2_with fail
    all_goals (go_ret; exact ⟨rfl, HF.out.1, HF.out.2.1, HG.out.trans HF.out.2.2⟩)

set_option maxRecDepth 8000 in
set_option maxHeartbeats 1000000 in
theorem setfracL (z b o b' o' p q L : Nat) (neg : Bool) (w : World) (h : RSlot w z) (hx : IntL w b o neg p L) (hy : IntL w b' o' false q L) (hn : neg = true → p ≠ 0) (h0 : 0 < q) (hL : L ≤ 16777216) (hL1 : 1 ≤ L) :
    Calls Tryz.prog 136 #[.pointer (some ⟨z, 0, none⟩), .pointer (some ⟨b, o, none⟩), .pointer (some ⟨b', o', none⟩)] w (WroteRL w z neg (p / Nat.gcd p q) (q / Nat.gcd p q) L) := by
  obtain ⟨hb, h2, A, k, c, h3, h4⟩ := hx
  obtain ⟨hb', h2', A', k', c', h3', h4'⟩ := hy
  have HM := Lib.hid (fun (W : World) (hW : Below w.heap.size w W) => ratmadeL z p q L neg _ _ W (h.below hW (Nat.le_refl _)) (h4.below hW) (h4'.below hW) hn h0 hL hL1)
  have hz : z ≤ w.heap.size := Nat.le_of_lt h.1.1
  clear h4 h4' h
  have hcur : Below w.heap.size w w.drew := (Below.refl _ _).drew
  have e1 : (neg != false) = neg := by cases neg <;> rfl
  go_enter Tryz.func136, Tryz.ntmps136
  go_wp2_with fail
  go_still_tail 18, (by kernel_rfl)
  change wpList _ _ _ _ _ w.drew
  go_wp2_with fail
  refine (HM.out _ hcur).mono ?_
  rintro e w1 h
  have HF := Lib.hid (h.after (hcur.mono hz))
  obtain ⟨rfl, -⟩ := h
  go_wp2_with fail
  go_ret
  exact HF.out
end Go.Proofs.YtbidlkmagbjllaaGreatDoor.Nb

namespace Go.Proofs.YtbidlkmagbjllaaGreatDoor.Nb
open Go Go.RowKit

theorem MagN.one_cell {w : World} {A : Option Addr} {c d L : Nat} (h : MagN w (.slice A 1 c) d L) : ∃ b off, A = some ⟨b, off, none⟩ ∧ w.cell? ⟨b, off, none⟩ = some (.int .u64 (d : Nat)) ∧ b < w.heap.size := by
  obtain ⟨ws, hm, hn, hv, hl⟩ := h
  have h1 := hm.lenN
  obtain ⟨b, off, e, hb, hc⟩ := hm.at (j := 0) (by omega)
  refine ⟨b, off, e, ?_, hb⟩
  match ws, h1 with
  | [x], _ => simp [val] at hv; subst hv; simpa using hc
set_option maxRecDepth 8000 in
set_option maxHeartbeats 1000000 in
theorem over_any (u v : Value) (m d L : Nat) (w : World) (hu : MagN w u m L) (hv : MagN w v d L) (hd : 0 < d) (hL : L ≤ 268435456) (hL1 : 1 ≤ L) :
    Calls Tryz.prog 157 #[u, v] w (Num w (m / d) L) := by
  have HQ := Lib.hid (quotient_any u v m d L w hu hv hd hL hL1)
  have HU := Lib.hid hu
  obtain ⟨A, k, cu, rfl⟩ := hu.slice
  obtain ⟨A', k', c, rfl⟩ := hv.slice
  by_cases hk : k' = 1
  · subst hk
    obtain ⟨b, off, rfl, hcell, hb⟩ := hv.one_cell
    by_cases h1 : d = 1
    · subst h1
      rw [Nat.div_one]
      clear hu hv hd
      go_enter Tryz.func157, Tryz.ntmps157
      go_wp2_with fail
      go_ret
      exact ⟨_, rfl, HU.out, Below.refl _ _⟩
    · have hne : ((d : Int) == 1) = false := by simp; omega
      clear hu hv
      go_enter Tryz.func157, Tryz.ntmps157
      go_wp2_with fail
      refine HQ.out.mono ?_
      rintro e w1 ⟨A1, k1, c1, A2, k2, c2, rfl, hm1, -, hb1⟩
      have HM := Lib.hid (And.intro hm1 hb1)
      clear hm1 hb1
      go_wp2_with fail
      go_ret
      exact ⟨_, rfl, HM.out.1, HM.out.2⟩
  · have hne : ((k' : Int) == 1) = false := by simp; omega
    clear hu hv
    go_enter Tryz.func157, Tryz.ntmps157
    go_wp2_with fail
    refine HQ.out.mono ?_
    rintro e w1 ⟨A1, k1, c1, A2, k2, c2, rfl, hm1, -, hb1⟩
    have HM := Lib.hid (And.intro hm1 hb1)
    clear hm1 hb1
    go_wp2_with fail
    go_ret
    exact ⟨_, rfl, HM.out.1, HM.out.2⟩
theorem raw_anyL (z p q L : Nat) (neg : Bool) (A A' : Option Addr) (k c k' c' : Nat) (w : World) (h : RSlot w z) (hp : MagN w (.slice A k c) p L) (hq : MagN w (.slice A' k' c') q L) (hn : neg = true → p ≠ 0) (h0 : 0 < q) :
    Calls Tryz.prog 104 #[.pointer (some ⟨z, 0, none⟩), .bool neg, .slice A k c, .slice A' k' c'] w (WroteRL w z neg p q L) := by
  refine (raw_putL z p L neg A A' k c k' c' w h hp hn).mono ?_
  rintro e w' ⟨rfl, rfl⟩
  have h1 := put2_wroteL (neg := neg) h hp hq h0
  exact ⟨rfl, h1.1, h1.2.1, h1.2.2⟩
theorem RatL.open {w : World} {b p q L : Nat} {neg : Bool} (h : RatL w b neg p q L) : ∃ A k c A' k' c', b < w.heap.size ∧ w.cell? ⟨b, 0, none⟩ = some (.bool neg) ∧ w.cell? ⟨b, 1, none⟩ = some (.slice A k c) ∧ w.cell? ⟨b, 3, none⟩ = some (.slice A' k' c') ∧ MagN w (.slice A k c) p L ∧ MagN w (.slice A' k' c') q L ∧ 0 < q ∧ ¬ k' = 0 := by
  obtain ⟨⟨hb, h2, A, k, c, h3, h4⟩, ⟨-, -, A', k', c', h3', h4'⟩, h0⟩ := h
  refine ⟨A, k, c, A', k', c', hb, h2, h3, h3', h4, h4', h0, fun hk => ?_⟩
  have := h4'.len.1 hk
  omega
set_option maxRecDepth 8000 in
theorem under_atL (b : Nat) (A : Option Addr) (k c : Nat) (w : World) (h : w.cell? ⟨b, 3, none⟩ = some (.slice A k c)) (hk : ¬ k = 0) :
    Calls Tryz.prog 103 #[.pointer (some ⟨b, 0, none⟩)] w fun e w' => e = .returned (.slice A k c) ∧ w' = w := by
  have hne : ((k : Int) == 0) = false := by simp; omega
  go_enter Tryz.func103, Tryz.ntmps103
  go_wp2_with fail
  go_ret
  exact ⟨rfl, rfl⟩
set_option maxRecDepth 8000 in
set_option maxHeartbeats 2000000 in
theorem productL (neg : Bool) (z p q r s P Q L L' : Nat) (a b c d : Value) (w : World) (h : RSlot w z) (ha : MagN w a p L) (hb : MagN w b q L) (hc : MagN w c r L) (hd : MagN w d s L) (hq : 0 < q) (hs : 0 < s)
    (hP : p / Nat.gcd p s * (r / Nat.gcd r q) = P) (hQ : q / Nat.gcd r q * (s / Nat.gcd p s) = Q) (hPl : P < 18446744073709551616 ^ L') (hQl : Q < 18446744073709551616 ^ L') (h0 : 0 < Q) (hn : neg = true → P ≠ 0) (hL : L ≤ 16777216) (hL1 : 1 ≤ L) :
    Calls Tryz.prog 102 #[.pointer (some ⟨z, 0, none⟩), .bool neg, a, b, c, d] w (WroteRL w z neg P Q L') := by
  obtain ⟨G, hG⟩ : ∃ G, Nat.gcd p s = G := ⟨_, rfl⟩
  obtain ⟨K, hK⟩ : ∃ K, Nat.gcd r q = K := ⟨_, rfl⟩
  have hG0 : 0 < G := hG ▸ Nat.gcd_pos_of_pos_right _ hs
  have hK0 : 0 < K := hK ▸ Nat.gcd_pos_of_pos_right _ hq
  have HD1 := Lib.hid (divisor_any _ _ p s L w ha hd hL hL1)
  have HD2 := Lib.hid (fun (W : World) (hW : Below w.heap.size w W) => divisor_any _ _ r q L W (hc.below hW) (hb.below hW) hL hL1)
  rw [hG] at HD1 hP hQ
  rw [hK] at HD2 hP hQ
  have HO := Lib.hid (And.intro ha (And.intro hb (And.intro hc (And.intro hd (And.intro hG0 (And.intro hK0 h))))))
  have HE := Lib.hid (And.intro hP (And.intro hQ (And.intro hPl (And.intro hQl h0))))
  have HNE := Lib.hid hn
  have HLL := Lib.hid (And.intro hL hL1)
  have hz : z ≤ w.heap.size := Nat.le_of_lt h.1.1
  clear h ha hb hc hd hG hK hG0 hK0 hP hQ hPl hQl h0 hq hs hn hL hL1
  go_enter Tryz.func102, Tryz.ntmps102
  go_wp2_with fail
  refine HD1.out.mono ?_
  rintro e w1 ⟨g, rfl, m1, b1⟩
  have C1 := Lib.hid b1
  have M1 := Lib.hid m1
  clear m1 b1
  go_wp2_with fail
  refine (HD2.out _ C1.out).mono ?_
  rintro e w2 ⟨g', rfl, m2, b2⟩
  have C2 := Lib.hid (back_of' C1.out b2)
  have M1 := Lib.hid (M1.out.below b2)
  have M2 := Lib.hid m2
  clear m2 b2
  go_wp2_with fail
  refine (over_any _ _ p G L w2 (HO.out.1.below C2.out) M1.out HO.out.2.2.2.2.1 (by have := HLL.out; omega) HLL.out.2).mono ?_
  rintro e w3 ⟨v1, rfl, m3, b3⟩
  have C3 := Lib.hid (back_of' C2.out b3)
  have M1 := Lib.hid (M1.out.below b3)
  have M2 := Lib.hid (M2.out.below b3)
  have M3 := Lib.hid m3
  clear m3 b3
  go_wp2_with fail
  refine (over_any _ _ r K L w3 (HO.out.2.2.1.below C3.out) M2.out HO.out.2.2.2.2.2.1 (by have := HLL.out; omega) HLL.out.2).mono ?_
  rintro e w4 ⟨v2, rfl, m4, b4⟩
  have C4 := Lib.hid (back_of' C3.out b4)
  have M1 := Lib.hid (M1.out.below b4)
  have M2 := Lib.hid (M2.out.below b4)
  have M3 := Lib.hid (M3.out.below b4)
  have M4 := Lib.hid m4
  clear m4 b4
  go_wp2_with fail
  refine (times_mag _ _ _ _ L L w4 M3.out M4.out (by have := HLL.out; omega) (by have := HLL.out; omega)).mono ?_
  rintro e w5 ⟨v3, rfl, m5, b5⟩
  have C5 := Lib.hid (back_of' C4.out b5)
  have M1 := Lib.hid (M1.out.below b5)
  have M2 := Lib.hid (M2.out.below b5)
  have M5 : Hid (MagN w5 v3 P L') := Lib.hid (by rw [← HE.out.1]; exact m5.less (by rw [HE.out.1]; exact HE.out.2.2.1))
  clear M3 M4 m5 b5
  go_wp2_with fail
  refine (over_any _ _ q K L w5 (HO.out.2.1.below C5.out) M2.out HO.out.2.2.2.2.2.1 (by have := HLL.out; omega) HLL.out.2).mono ?_
  rintro e w6 ⟨v4, rfl, m6, b6⟩
  have C6 := Lib.hid (back_of' C5.out b6)
  have M1 := Lib.hid (M1.out.below b6)
  have M5 := Lib.hid (M5.out.below b6)
  have M6 := Lib.hid m6
  clear m6 b6
  go_wp2_with fail
  refine (over_any _ _ s G L w6 (HO.out.2.2.2.1.below C6.out) M1.out HO.out.2.2.2.2.1 (by have := HLL.out; omega) HLL.out.2).mono ?_
  rintro e w7 ⟨v5, rfl, m7, b7⟩
  have C7 := Lib.hid (back_of' C6.out b7)
  have M5 := Lib.hid (M5.out.below b7)
  have M6 := Lib.hid (M6.out.below b7)
  have M7 := Lib.hid m7
  clear m7 b7
  go_wp2_with fail
  refine (times_mag _ _ _ _ L L w7 M6.out M7.out (by have := HLL.out; omega) (by have := HLL.out; omega)).mono ?_
  rintro e w8 ⟨v6, rfl, m8, b8⟩
  have C8 := Lib.hid (back_of' C7.out b8)
  have M5 := Lib.hid (M5.out.below b8)
  have M8 : Hid (MagN w8 v6 Q L') := Lib.hid (by rw [← HE.out.2.1]; exact m8.less (by rw [HE.out.2.1]; exact HE.out.2.2.2.1))
  clear M6 M7 m8 b8
  go_wp2_with fail
  obtain ⟨A1, k1, c1, rfl⟩ := M5.out.slice
  obtain ⟨A2, k2, c2, rfl⟩ := M8.out.slice
  refine (raw_anyL z P Q L' neg A1 A2 k1 c1 k2 c2 w8 (HO.out.2.2.2.2.2.2.below C8.out (Nat.le_refl _)) M5.out M8.out HNE.out HE.out.2.2.2.2).mono ?_
  rintro e w9 h
  have HF := Lib.hid (h.after (C8.out.mono hz))
  obtain ⟨rfl, -⟩ := h
  go_wp2_with fail
  go_ret
  exact HF.out

set_option maxRecDepth 8000 in
set_option maxHeartbeats 1000000 in
theorem ratmulL (z x y p q r s P Q L L' : Nat) (w : World) (h : RSlot w z) (hx : RatL w x false p q L) (hy : RatL w y false r s L)
    (hP : p / Nat.gcd p s * (r / Nat.gcd r q) = P) (hQ : q / Nat.gcd r q * (s / Nat.gcd p s) = Q) (hPl : P < 18446744073709551616 ^ L') (hQl : Q < 18446744073709551616 ^ L') (h0 : 0 < Q) (hL : L ≤ 16777216) (hL1 : 1 ≤ L) :
    Calls Tryz.prog 49 #[.pointer (some ⟨z, 0, none⟩), .pointer (some ⟨x, 0, none⟩), .pointer (some ⟨y, 0, none⟩)] w (WroteRL w z false P Q L') := by
  obtain ⟨A1, k1, c1, A2, k2, c2, hb, e0, e1, e3, m1, m2, q0, hk2⟩ := hx.open
  obtain ⟨B1, l1, d1, B2, l2, d2, hb', f0, f1, f3, n1, n2, s0, hl2⟩ := hy.open
  have HM := Lib.hid (fun (W : World) (hW : Below w.heap.size w W) => productL false z p q r s P Q L L' _ _ _ _ W (h.below hW (Nat.le_refl _)) (m1.below hW) (m2.below hW) (n1.below hW) (n2.below hW) q0 s0 hP hQ hPl hQl h0 (by simp) hL hL1)
  have hz : z ≤ w.heap.size := Nat.le_of_lt h.1.1
  have U1 := under_atL x A2 k2 c2 w.drew e3 hk2
  have U2 := under_atL y B2 l2 d2 w.drew f3 hl2
  clear h hx hy m1 m2 n1 n2 hP hQ hPl hQl h0 q0 s0
  have hcur : Below w.heap.size w w.drew := (Below.refl _ _).drew
  go_enter Tryz.func49, Tryz.ntmps49
  go_wp2_with fail
  go_still_tail 26, (by kernel_rfl)
  still_call U1
  repeat still_step
  still_call U2
  repeat still_step
  refine wpStill_nil ?_
  change wpList _ _ _ _ _ w.drew
  go_wp2_with fail
  refine (HM.out _ hcur).mono ?_
  rintro e w1 h
  have HF := Lib.hid (h.after (hcur.mono hz))
  obtain ⟨rfl, -⟩ := h
  go_wp2_with fail
  go_ret
  exact HF.out

set_option maxRecDepth 8000 in
set_option maxHeartbeats 1000000 in
theorem ratquoL (z x y p q r s P Q L L' : Nat) (w : World) (h : RSlot w z) (hx : RatL w x false p q L) (hy : RatL w y false r s L) (hr : 0 < r)
    (hP : p / Nat.gcd p r * (s / Nat.gcd s q) = P) (hQ : q / Nat.gcd s q * (r / Nat.gcd p r) = Q) (hPl : P < 18446744073709551616 ^ L') (hQl : Q < 18446744073709551616 ^ L') (h0 : 0 < Q) (hL : L ≤ 16777216) (hL1 : 1 ≤ L) :
    Calls Tryz.prog 76 #[.pointer (some ⟨z, 0, none⟩), .pointer (some ⟨x, 0, none⟩), .pointer (some ⟨y, 0, none⟩)] w (WroteRL w z false P Q L') := by
  obtain ⟨A1, k1, c1, A2, k2, c2, hb, e0, e1, e3, m1, m2, q0, hk2⟩ := hx.open
  obtain ⟨B1, l1, d1, B2, l2, d2, hb', f0, f1, f3, n1, n2, s0, hl2⟩ := hy.open
  have HM := Lib.hid (fun (W : World) (hW : Below w.heap.size w W) => productL false z p q s r P Q L L' _ _ _ _ W (h.below hW (Nat.le_refl _)) (m1.below hW) (m2.below hW) (n2.below hW) (n1.below hW) q0 hr hP hQ hPl hQl h0 (by simp) hL hL1)
  have hz : z ≤ w.heap.size := Nat.le_of_lt h.1.1
  have U1 := under_atL x A2 k2 c2 w.drew e3 hk2
  have U2 := under_atL y B2 l2 d2 w.drew f3 hl2
  clear h hx hy m1 m2 n1 n2 hP hQ hPl hQl h0 q0 s0 hr
  have hcur : Below w.heap.size w w.drew := (Below.refl _ _).drew
  go_enter Tryz.func76, Tryz.ntmps76
  go_wp2_with fail
  go_still_tail 26, (by kernel_rfl)
  still_call U1
  repeat still_step
  still_call U2
  repeat still_step
  refine wpStill_nil ?_
  change wpList _ _ _ _ _ w.drew
  go_wp2_with fail
  refine (HM.out _ hcur).mono ?_
  rintro e w1 h
  have HF := Lib.hid (h.after (hcur.mono hz))
  obtain ⟨rfl, -⟩ := h
  go_wp2_with fail
  go_ret
  exact HF.out
end Go.Proofs.YtbidlkmagbjllaaGreatDoor.Nb

namespace Go.Proofs.YtbidlkmagbjllaaGreatDoor.Nb
open Go Go.RowKit

theorem WroteRL.one {w : World} {b T L : Nat} {e : Ending} {w' : World} (h : WroteRL w b false (1 / Nat.gcd 1 T) (T / Nat.gcd 1 T) L e w') : WroteRL w b false 1 T L e w' := by
  rw [gcd_one, Nat.div_one, Nat.div_one] at h; exact h
set_option maxRecDepth 8000 in
set_option maxHeartbeats 1000000 in
/-- the head of power: base to the power of k, in new memory -/
theorem power_posL (base k T L : Nat) (w : World) (hb0 : 0 < base) (hb : base ≤ 9223372036854775807) (hk : k ≤ 9223372036854775807) (hT : base ^ k = T) (hT1 : T < 18446744073709551616 ^ L) (hL : L ≤ 16777216) (hL1 : 1 ≤ L) :
    Calls Tryz.prog 106 #[.int .i64 (base : Int), .int .i64 (k : Int)] w (NewRL w false T 1 L) := by
  have hA := (Below.refl w.heap.size w).alloc (Nat.le_refl _) (.cells #[.bool false, .slice none 0 0] 102)
  have HZ := Lib.hid (ISlot.new w 102)
  have HA := Lib.hid hA
  have HT := Lib.hid (And.intro hT hT1)
  have hw1 : max (k : Int) (-(k : Int)) = (k : Int) := by omega
  have hk0 : ¬ (k : Int) < 0 := by omega
  obtain ⟨W, hW⟩ : ∃ W, w.alloc (.cells #[.bool false, .slice none 0 0] 102) = W := ⟨_, rfl⟩
  have hws : w.heap.size < W.heap.size := by rw [← hW]; simp
  rw [hW] at HZ HA
  clear hA hT hT1
  go_enter Tryz.func106, Tryz.ntmps106
  go_wp2_with fail
  refine (newInt_any base W hb).mono ?_
  rintro e w1 ⟨b1, rfl, hb1, i1, -, c1⟩
  have H1 := Lib.hid (And.intro i1 c1)
  clear i1 c1
  go_wp2_with fail
  refine (newInt_any k w1 hk).mono ?_
  rintro e w2 ⟨b2, rfl, hb2, i2, -, c2⟩
  have H2 := Lib.hid (And.intro (H1.out.1.below c2 (Nat.le_refl _)) (And.intro i2 (back_of' H1.out.2 c2)))
  have hs1 := H1.out.2.size
  clear i2 c2
  go_wp2_with fail
  refine (expL w.heap.size 0 b1 0 base b2 0 k L w2 (HZ.out.below H2.out.2.2 (Nat.le_refl _)) (H2.out.1.any hL1) H2.out.2.1 hb0 (by rw [HT.out.1]; exact HT.out.2) (by omega) hL1 (by omega) (by omega)).mono ?_
  rintro e w3 ⟨rfl, i3, s3, c3⟩
  rw [HT.out.1] at i3
  have HB3 := Lib.hid ((HA.out.trans (H2.out.2.2.mono HA.out.size)).trans c3)
  have HI := Lib.hid i3
  clear i3 s3 c3 H1 H2 HZ HA
  go_wp2_with fail
  have hA2 := (Below.refl w3.heap.size w3).alloc (Nat.le_refl _) (.cells #[.bool false, .slice none 0 0, .bool false, .slice none 0 0] 104)
  refine (setintL w3.heap.size w.heap.size 0 T L _ (RSlot.new w3 104) (HI.out.below hA2 (Nat.le_refl _)) (by omega) hL1 (Nat.ne_of_lt HI.out.1)).mono ?_
  rintro e w4 ⟨rfl, r4, s4, c4⟩
  have HF := Lib.hid (And.intro HB3.out.size (And.intro r4 (And.intro s4 (back_of' HB3.out (hA2.trans c4)))))
  clear r4 s4 c4 hA2
  go_wp2_with fail
  go_ret
  exact ⟨_, rfl, HF.out⟩

set_option maxRecDepth 8000 in
set_option maxHeartbeats 1000000 in
theorem power_negL (base k T L : Nat) (E : Int) (w : World) (hb0 : 0 < base) (hb : base ≤ 9223372036854775807) (hk : k ≤ 9223372036854775807) (hk0 : 0 < k) (hE : E = -(k : Int)) (hT : base ^ k = T) (hT1 : T < 18446744073709551616 ^ L) (hL : L ≤ 16777216) (hL1 : 1 ≤ L) :
    Calls Tryz.prog 106 #[.int .i64 (base : Int), .int .i64 E] w (NewRL w false 1 T L) := by
  have hA := (Below.refl w.heap.size w).alloc (Nat.le_refl _) (.cells #[.bool false, .slice none 0 0] 102)
  have HZ := Lib.hid (ISlot.new w 102)
  have HA := Lib.hid hA
  have HT := Lib.hid (And.intro hT hT1)
  have hT0 : 0 < T := by rw [← hT]; exact Nat.pow_pos hb0
  have hw0 : wrap64 (-E) = (k : Int) := by unfold wrap64; omega
  have hw1 : max E (k : Int) = (k : Int) := by omega
  have hlt : E < 0 := by omega
  obtain ⟨W, hW⟩ : ∃ W, w.alloc (.cells #[.bool false, .slice none 0 0] 102) = W := ⟨_, rfl⟩
  have hws : w.heap.size < W.heap.size := by rw [← hW]; simp
  rw [hW] at HZ HA
  clear hA hT hT1 hE
  go_enter Tryz.func106, Tryz.ntmps106
  go_wp2_with fail
  refine (newInt_any base W hb).mono ?_
  rintro e w1 ⟨b1, rfl, hb1, i1, -, c1⟩
  have H1 := Lib.hid (And.intro i1 c1)
  clear i1 c1
  go_wp2_with fail
  refine (newInt_any k w1 hk).mono ?_
  rintro e w2 ⟨b2, rfl, hb2, i2, -, c2⟩
  have H2 := Lib.hid (And.intro (H1.out.1.below c2 (Nat.le_refl _)) (And.intro i2 (back_of' H1.out.2 c2)))
  have hs1 := H1.out.2.size
  clear i2 c2
  go_wp2_with fail
  refine (expL w.heap.size 0 b1 0 base b2 0 k L w2 (HZ.out.below H2.out.2.2 (Nat.le_refl _)) (H2.out.1.any hL1) H2.out.2.1 hb0 (by rw [HT.out.1]; exact HT.out.2) (by omega) hL1 (by omega) (by omega)).mono ?_
  rintro e w3 ⟨rfl, i3, s3, c3⟩
  rw [HT.out.1] at i3
  have HB3 := Lib.hid ((HA.out.trans (H2.out.2.2.mono HA.out.size)).trans c3)
  have HI := Lib.hid i3
  clear i3 s3 c3 H1 H2 HZ HA
  go_wp2_with fail
  have hA2 := (Below.refl w3.heap.size w3).alloc (Nat.le_refl _) (.cells #[.bool false, .slice none 0 0, .bool false, .slice none 0 0] 104)
  have HA2 := Lib.hid (And.intro hA2 (And.intro (RSlot.new w3 104) (HI.out.below hA2 (Nat.le_refl _))))
  clear hA2
  refine (newInt_any 1 _ (by omega)).mono ?_
  rintro e w4 ⟨b4, rfl, hb4, i4, -, c4⟩
  have H4 := Lib.hid (And.intro i4 c4)
  clear i4 c4
  go_wp2_with fail
  refine (setfracL w3.heap.size b4 0 w.heap.size 0 1 T L false w4 (HA2.out.2.1.below H4.out.2 (Nat.le_refl _)) (H4.out.1.any hL1) (HA2.out.2.2.below H4.out.2 (Nat.le_refl _)) (by simp) hT0 hL hL1).mono ?_
  rintro e w5 h5
  obtain ⟨rfl, r5, s5, c5⟩ := h5.one
  have HF := Lib.hid (And.intro HB3.out.size (And.intro r5 (And.intro s5 (back_of' HB3.out ((HA2.out.1.trans (H4.out.2.mono HA2.out.1.size)).trans c5)))))
  clear r5 s5 c5
  go_wp2_with fail
  go_ret
  exact ⟨_, rfl, HF.out⟩

set_option maxRecDepth 8000 in
theorem ten_posL (k T L : Nat) (w : World) (hk : k ≤ 9223372036854775807) (hT : 10 ^ k = T) (hT1 : T < 18446744073709551616 ^ L) (hL : L ≤ 16777216) (hL1 : 1 ≤ L) :
    Calls Tryz.prog 51 #[.int .i64 (k : Int)] w (NewRL w false T 1 L) := by
  have HP := Lib.hid (power_posL 10 k T L w (by omega) (by omega) hk hT hT1 hL hL1)
  clear hT hT1
  go_enter Tryz.func51, Tryz.ntmps51
  go_wp2_with fail
  refine HP.out.mono ?_
  rintro e w1 ⟨b, rfl, h⟩
  have HF := Lib.hid h
  clear h
  go_wp2_with fail
  go_ret
  exact ⟨b, rfl, HF.out⟩
set_option maxRecDepth 8000 in
theorem ten_negL (k T L : Nat) (E : Int) (w : World) (hk : k ≤ 9223372036854775807) (hk0 : 0 < k) (hE : E = -(k : Int)) (hT : 10 ^ k = T) (hT1 : T < 18446744073709551616 ^ L) (hL : L ≤ 16777216) (hL1 : 1 ≤ L) :
    Calls Tryz.prog 51 #[.int .i64 E] w (NewRL w false 1 T L) := by
  have HP := Lib.hid (power_negL 10 k T L E w (by omega) (by omega) hk hk0 hE hT hT1 hL hL1)
  clear hT hT1 hE
  go_enter Tryz.func51, Tryz.ntmps51
  go_wp2_with fail
  refine HP.out.mono ?_
  rintro e w1 ⟨b, rfl, h⟩
  have HF := Lib.hid h
  clear h
  go_wp2_with fail
  go_ret
  exact ⟨b, rfl, HF.out⟩
set_option maxRecDepth 8000 in
theorem two_negL (k T L : Nat) (E : Int) (w : World) (hk : k ≤ 9223372036854775807) (hk0 : 0 < k) (hE : E = -(k : Int)) (hT : 2 ^ k = T) (hT1 : T < 18446744073709551616 ^ L) (hL : L ≤ 16777216) (hL1 : 1 ≤ L) :
    Calls Tryz.prog 90 #[.int .i64 E] w (NewRL w false 1 T L) := by
  have HP := Lib.hid (power_negL 2 k T L E w (by omega) (by omega) hk hk0 hE hT hT1 hL hL1)
  clear hT hT1 hE
  go_enter Tryz.func90, Tryz.ntmps90
  go_wp2_with fail
  refine HP.out.mono ?_
  rintro e w1 ⟨b, rfl, h⟩
  have HF := Lib.hid h
  clear h
  go_wp2_with fail
  go_ret
  exact ⟨b, rfl, HF.out⟩
set_option maxRecDepth 8000 in
theorem two_posL (k T L : Nat) (w : World) (hk : k ≤ 9223372036854775807) (hT : 2 ^ k = T) (hT1 : T < 18446744073709551616 ^ L) (hL : L ≤ 16777216) (hL1 : 1 ≤ L) :
    Calls Tryz.prog 90 #[.int .i64 (k : Int)] w (NewRL w false T 1 L) := by
  have HP := Lib.hid (power_posL 2 k T L w (by omega) (by omega) hk hT hT1 hL hL1)
  clear hT hT1
  go_enter Tryz.func90, Tryz.ntmps90
  go_wp2_with fail
  refine HP.out.mono ?_
  rintro e w1 ⟨b, rfl, h⟩
  have HF := Lib.hid h
  clear h
  go_wp2_with fail
  go_ret
  exact ⟨b, rfl, HF.out⟩
end Go.Proofs.YtbidlkmagbjllaaGreatDoor.Nb

namespace Go.Proofs.YtbidlkmagbjllaaGreatDoor.Nb
open Go Go.RowKit

theorem ten_ltL {n L : Nat} (h : n < L) : 10 ^ n < 18446744073709551616 ^ L := by
  have h1 : 10 ^ n ≤ 18446744073709551616 ^ n := Nat.pow_le_pow_left (by omega) n
  have h2 : 18446744073709551616 ^ n < 18446744073709551616 ^ L := Nat.pow_lt_pow_right (by omega) h
  omega
theorem not_empty_size {Z : ByteArray} (h : 0 < Z.size) : Z.toList.isEmpty = false := by
  rw [Lib.toList_data]
  have h1 := size_list Z
  cases hl : Z.data.toList with
  | nil => rw [hl] at h1; simp at h1; omega
  | cons a t => rfl
/-- ten to any power, in new memory -/
theorem ten_any (E : Int) (r s L : Nat) (w : World) (hE : -1000000 ≤ E ∧ E ≤ 1000000) (hr : 10 ^ E.toNat = r) (hs : 10 ^ (-E).toNat = s) (hrl : r < 18446744073709551616 ^ L) (hsl : s < 18446744073709551616 ^ L) (hL : L ≤ 16777216) (hL1 : 1 ≤ L) :
    Calls Tryz.prog 51 #[.int .i64 E] w (NewRL w false r s L) := by
  by_cases h : 0 ≤ E
  · obtain ⟨k, rfl⟩ : ∃ k : Nat, E = (k : Int) := ⟨E.toNat, by omega⟩
    have e1 : (k : Int).toNat = k := by omega
    have e2 : (-(k : Int)).toNat = 0 := by omega
    rw [e1] at hr
    rw [e2, Nat.pow_zero] at hs
    subst hs
    exact ten_posL k r L w (by omega) hr hrl hL hL1
  · obtain ⟨k, rfl⟩ : ∃ k : Nat, E = -(k : Int) := ⟨(-E).toNat, by omega⟩
    have e1 : (-(k : Int)).toNat = 0 := by omega
    have e2 : (- -(k : Int)).toNat = k := by omega
    rw [e1, Nat.pow_zero] at hr
    rw [e2] at hs
    subst hr
    exact ten_negL k s L _ w (by omega) (by omega) rfl hs hsl hL hL1
/-- a whole number by a fraction, in lowest terms -/
theorem mul_law {n r s : Nat} (hs : 0 < s) : n / Nat.gcd n s * (r / Nat.gcd r 1) * s = n * r * (1 / Nat.gcd r 1 * (s / Nat.gcd n s)) ∧ 0 < 1 / Nat.gcd r 1 * (s / Nat.gcd n s) ∧ n / Nat.gcd n s * (r / Nat.gcd r 1) ≤ n * r ∧ 1 / Nat.gcd r 1 * (s / Nat.gcd n s) ≤ s := by
  have hg : 0 < Nat.gcd n s := Nat.gcd_pos_of_pos_right n hs
  obtain ⟨n', hn⟩ := Nat.gcd_dvd_left n s
  obtain ⟨s', hs'⟩ := Nat.gcd_dvd_right n s
  have e1 : n / Nat.gcd n s = n' := Nat.div_eq_of_eq_mul_right hg hn
  have e2 : s / Nat.gcd n s = s' := Nat.div_eq_of_eq_mul_right hg hs'
  rw [Nat.gcd_one_right, Nat.div_one, Nat.div_one, Nat.one_mul, e1, e2]
  generalize Nat.gcd n s = g at *
  subst hn
  subst hs'
  refine ⟨by ac_rfl, ?_, ?_, Nat.le_mul_of_pos_left _ hg⟩
  · rcases Nat.eq_zero_or_pos s' with q | q
    · subst q; simp at hs
    · exact q
  · exact Nat.mul_le_mul_right r (Nat.le_mul_of_pos_left _ hg)
set_option maxRecDepth 8000 in
set_option maxHeartbeats 300000 in
theorem setintLK (z b o n L : Nat) (w : World) (h : RSlot w z) (hx : IntL w b o false n L) (hL : L ≤ 268435456) (hL1 : 1 ≤ L) (hne : b ≠ z) :
    Calls Tryz.prog 50 #[.pointer (some ⟨z, 0, none⟩), .pointer (some ⟨b, o, none⟩)] w fun e w' => WroteRL w z false n 1 L e w' ∧ Kept w w' z := by
  obtain ⟨hb, h2, A, k, c, h3, h4⟩ := hx
  have HS := Lib.hid (fun (W : World) (hW : Below w.heap.size w W) => (show W.cell? ⟨b, o, none⟩ = some (.bool false) ∧ W.cell? ⟨b, o + 1, none⟩ = some (.slice A k c) from ⟨(hW.cell (p := ⟨b, o, none⟩) (by exact hb)).trans h2, (hW.cell (p := ⟨b, o + 1, none⟩) (by exact hb)).trans h3⟩))
  have HS2 := Lib.hid (fun (W : World) (hW : Below w.heap.size w W) (neg : Bool) (v v' : Value) => (show (put2 W z neg v v').cell? ⟨b, o, none⟩ = some (.bool false) ∧ (put2 W z neg v v').cell? ⟨b, o + 1, none⟩ = some (.slice A k c) from ⟨(put2_cell _ _ _ hne).trans (HS.out W hW).1, (put2_cell _ _ _ hne).trans (HS.out W hW).2⟩))
  have HC := Lib.hid (fun (W : World) (hW : Below w.heap.size w W) => clone_any _ n L W (h4.below hW) (by omega))
  have H := Lib.hid h
  have hz : z ≤ w.heap.size := Nat.le_of_lt h.1.1
  clear h4 h
  have hcur : Below w.heap.size w w.drew := (Below.refl _ _).drew
  go_enter Tryz.func50, Tryz.ntmps50
  go_wp2_with fail
  go_region_held3 (fun w' => w'.cell? ⟨b, o, none⟩ = some (.bool false) ∧ w'.cell? ⟨b, o + 1, none⟩ = some (.slice A k c)) (first | exact hk4 | exact HS.out _ (by first | exact hcur3 | exact hcur3.alloc hcur3.size _ | exact hcur | exact hcur.alloc hcur.size _)) (first | (go_at_call 105; refine (HC.out _ (by first | exact hcur | exact hcur.alloc hcur.size _)).mono ?_; rintro e w3 ⟨x, rfl, hm, hb3⟩; obtain ⟨A1, k1, c1, rfl⟩ := hm.slice; have hcur3 : Below w.heap.size w w3 := (by first | exact back_of' hcur hb3 | exact back_of' (hcur.alloc hcur.size (.cells #[.int .u64 1] 74)) hb3); (first | (have HA : Hid (Below w.drew.heap.size w.drew w3) := Lib.hid hb3) | (have HB : Hid (Below (w.drew.alloc (.cells #[.int .u64 1] 74)).heap.size (w.drew.alloc (.cells #[.int .u64 1] 74)) w3) := Lib.hid hb3)); have HM := Lib.hid hm; clear hm hb3) | (go_at_call 104; refine (raw_putL z n L false A1 _ k1 c1 1 1 _ (by first | exact H.out.below hcur3 (Nat.le_refl _) | exact H.out.below (hcur3.alloc hcur3.size _) (Nat.le_refl _)) (by first | exact HM.out | exact HM.out.below ((Below.refl _ _).alloc (Nat.le_refl _) _)) (by simp)).mono ?_; rintro e w4 ⟨rfl, hw4⟩; have hk4 : w4.cell? ⟨b, o, none⟩ = some (.bool false) ∧ w4.cell? ⟨b, o + 1, none⟩ = some (.slice A k c) := (by rw [hw4]; exact HS2.out _ (by first | exact hcur3 | exact hcur3.alloc hcur3.size _) _ _ _); have HW4 := Lib.hid hw4; clear hw4))
  all_goals go_wp2_with fail
  all_goals go_ret
  · have h := put2_wroteL (neg := false) (H.out.below (hcur3.alloc hcur3.size (.cells #[.int .u64 1] 74)) (Nat.le_refl _)) (HM.out.below ((Below.refl _ _).alloc (Nat.le_refl _) (.cells #[.int .u64 1] 74))) ((one_new w3 74).more hL1) (by omega)
    have hw := HW4.out
    subst hw
    exact ⟨⟨rfl, h.1, h.2.1, ((hcur3.alloc hcur3.size (.cells #[.int .u64 1] 74)).mono hz).trans h.2.2⟩, (Kept.of_below (hcur3.alloc hcur3.size (.cells #[.int .u64 1] 74))).put2 _ _ _⟩
  · have h := put2_wroteL (neg := false) (H.out.below hcur3 (Nat.le_refl _)) HM.out (((one_new w.drew 74).below HB.out).more hL1) (by omega)
    have hw := HW4.out
    subst hw
    exact ⟨⟨rfl, h.1, h.2.1, (hcur3.mono hz).trans h.2.2⟩, (Kept.of_below hcur3).put2 _ _ _⟩

set_option maxRecDepth 8000 in
set_option maxHeartbeats 2000000 in
theorem value_over (neg : Bool) (Z : ByteArray) (E : Int) (w : World) (h0 : 0 < Z.size) (hs : Z.size ≤ 1000000) (hE : E ≤ 1000000) (ht : 400 < E + (Z.size : Int) - 1) :
    Calls Tryz.prog 15 #[.agg #[.bool neg, .string Z, .int .i64 E]] w fun e w' => e = .returned (.tuple #[.pointer none, .bool false]) ∧ Below w.heap.size w w' := by
  have he0 := not_empty_size h0
  have ht2 : ¬ E + (Z.size : Int) - 1 < -400 := by omega
  have hB := (Below.refl w.heap.size w).alloc (Nat.le_refl _) (.cells #[.bool neg, .string Z, .int .i64 E] 46)
  go_enter Tryz.func15, Tryz.ntmps15
  go_wp2_with fail
  go_ret2
  exact ⟨rfl, hB⟩
set_option maxRecDepth 8000 in
set_option maxHeartbeats 2000000 in
theorem value_mid (neg : Bool) (Z : ByteArray) (E : Int) (r s L : Nat) (w : World) (hd : ∀ b ∈ Z.data.toList, 48 ≤ b.toNat ∧ b.toNat ≤ 57) (h0 : 0 < Z.size) (hs : Z.size ≤ 100000) (hlo : -400 ≤ E + (Z.size : Int) - 1) (hhi : E + (Z.size : Int) - 1 ≤ 400) (hr : 10 ^ E.toNat = r) (hsd : 10 ^ (-E).toNat = s) (hL : 2 * Z.size + 1000 ≤ L) (hLm : L ≤ 16777216) :
    Calls Tryz.prog 15 #[.agg #[.bool neg, .string Z, .int .i64 E]] w fun e w' => ∃ z p q, e = .returned (.tuple #[.pointer (some ⟨z, 0, none⟩), .bool true]) ∧ RatL w' z false p q L ∧ p * s = decN Z.data.toList * r * q ∧ Below w.heap.size w w' := by
  have hL1 : 1 ≤ L := by omega
  have hrl : r < 18446744073709551616 ^ L := by rw [← hr]; exact ten_ltL (by omega)
  have hsl : s < 18446744073709551616 ^ L := by rw [← hsd]; exact ten_ltL (by omega)
  have hn10 := decN_lt Z.data.toList hd
  rw [size_list] at hn10
  have hnl : decN Z.data.toList < 18446744073709551616 ^ L := Nat.lt_trans hn10 (ten_ltL (by omega))
  have hs0 : 0 < s := by rw [← hsd]; exact Nat.pow_pos (by omega)
  obtain ⟨heq, hQ0, hPle, hQle⟩ := mul_law (n := decN Z.data.toList) (r := r) hs0
  have hnr : decN Z.data.toList * r < 18446744073709551616 ^ L := by
    refine Nat.lt_of_lt_of_le (Nat.mul_lt_mul_of_pos_right hn10 (by rw [← hr]; exact Nat.pow_pos (by omega))) ?_
    rw [← hr, ← Nat.pow_add]
    exact Nat.le_of_lt (ten_ltL (by omega))
  have hPl := Nat.lt_of_le_of_lt hPle hnr
  have hQl := Nat.lt_of_le_of_lt hQle hsl
  clear hn10 hnr hPle hQle hs0
  have HN0 := Lib.hid (setStringL (w.heap.size + 1) 0 Z ((w.alloc (.cells #[.bool neg, .string Z, .int .i64 E] 46)).alloc (.cells #[.bool false, .slice none 0 0] 102)) (by have := ISlot.new (w.alloc (.cells #[.bool neg, .string Z, .int .i64 E] 46)) 102; simpa using this) h0 (by omega) hd)
  have hb0 : Below w.heap.size w ((w.alloc (.cells #[.bool neg, .string Z, .int .i64 E] 46)).alloc (.cells #[.bool false, .slice none 0 0] 102)) := ((Below.refl _ _).alloc (Nat.le_refl _) _).alloc (by simp) _
  have c0 : ((w.alloc (.cells #[.bool neg, .string Z, .int .i64 E] 46)).alloc (.cells #[.bool false, .slice none 0 0] 102)).cell? ⟨w.heap.size, 2, none⟩ = some (.int .i64 E) := by simp [go_sem]
  have HB0 := Lib.hid (And.intro hb0 c0)
  have HT := Lib.hid (fun W => ten_any E r s L W (by omega) hr hsd hrl hsl (by omega) (by omega))
  have HLL := Lib.hid (And.intro hnl (And.intro hLm hL1))
  have he0 := not_empty_size h0
  have HM := Lib.hid (And.intro hPl (And.intro hQl (And.intro hQ0 heq)))
  have ht1 : ¬ E + (Z.size : Int) - 1 < -400 := by omega
  have ht2 : ¬ 400 < E + (Z.size : Int) - 1 := by omega
  clear hb0 c0 hr hsd hrl hsl hnl hLm hL1 hPl hQl hQ0 heq hd
  go_enter Tryz.func15, Tryz.ntmps15
  go_wp2_with fail
  refine HN0.out.mono ?_
  rintro e W ⟨rfl, i1, s1, b1⟩
  have hc2 := (b1.cell (p := ⟨w.heap.size, 2, none⟩) (by show w.heap.size < w.heap.size + 1; omega)).trans HB0.out.2
  have hs : w.heap.size + 1 < W.heap.size := i1.1
  have HW := Lib.hid (HB0.out.1.trans (b1.mono (by omega)))
  have HN := Lib.hid (i1.less HLL.out.1)
  clear i1 s1 b1 HN0 HB0
  go_wp2_with fail
  have hcur : Below W.heap.size W W.drew := (Below.refl _ _).drew
  have HS := Lib.hid (fun (V : World) (hV : Below W.heap.size W V) => (show V.cell? ⟨w.heap.size, 2, none⟩ = some (.int .i64 E) from (hV.cell (p := ⟨w.heap.size, 2, none⟩) (by show w.heap.size < W.heap.size; omega)).trans hc2))
  have H1 : Hid (RSlot ((W.drew.alloc (.cells #[.bool false, .slice none 0 0, .bool false, .slice none 0 0] 104)).alloc (.cells #[.bool false, .slice none 0 0, .bool false, .slice none 0 0] 104)) (W.heap.size + 1)) := Lib.hid (by have := RSlot.new (W.drew.alloc (.cells #[.bool false, .slice none 0 0, .bool false, .slice none 0 0] 104)) 104; simpa using this)
  have H2 : Hid (RSlot ((W.drew.alloc (.cells #[.bool false, .slice none 0 0, .bool false, .slice none 0 0] 104)).alloc (.cells #[.bool false, .slice none 0 0, .bool false, .slice none 0 0] 104)) W.heap.size) := Lib.hid ((RSlot.new W.drew 104).below ((Below.refl _ _).alloc (Nat.le_refl _) _) (Nat.le_refl _))
  have H3 : Hid (RSlot (W.drew.alloc (.cells #[.bool false, .slice none 0 0, .bool false, .slice none 0 0] 104)) W.heap.size) := Lib.hid (RSlot.new W.drew 104)
  have HZ := Lib.hid hs
  go_region_held3 (fun w' => w'.cell? ⟨w.heap.size, 2, none⟩ = some (.int .i64 E)) (first | exact HS.out _ (by first | exact hcur6 | exact hcur5 | exact hcur5.alloc hcur5.size _ | exact hcur3 | exact hcur3.alloc hcur3.size _ | exact hcur | exact hcur.alloc hcur.size _ | exact (hcur.alloc hcur.size _).alloc (hcur.alloc hcur.size _).size _)) (first | (go_at_call 50; refine (setintLK _ (w.heap.size + 1) 0 _ L _ (by first | exact H3.out | exact H1.out | exact H2.out) (HN.out.below (by first | exact hcur.alloc hcur.size _ | exact (hcur.alloc hcur.size _).alloc (hcur.alloc hcur.size _).size _) (Nat.le_refl _)) (by have := HLL.out.2.1; omega) HLL.out.2.2 (by have := HZ.out; omega)).mono ?_; rintro e w3 ⟨⟨rfl, r3, s3, b3⟩, k3⟩; have hcur3 : Below W.heap.size W w3 := (by first | exact (hcur.alloc hcur.size (.cells #[.bool false, .slice none 0 0, .bool false, .slice none 0 0] 104)).trans (b3.mono (by omega)) | exact ((hcur.alloc hcur.size (.cells #[.bool false, .slice none 0 0, .bool false, .slice none 0 0] 104)).alloc (hcur.alloc hcur.size (.cells #[.bool false, .slice none 0 0, .bool false, .slice none 0 0] 104)).size (.cells #[.bool false, .slice none 0 0, .bool false, .slice none 0 0] 104)).trans (b3.mono (by omega))); (first | (have HRa : Hid (RatL w3 W.heap.size false (decN Z.data.toList) 1 L) := Lib.hid r3) | (have HRb : Hid (RatL w3 (W.heap.size + 1) false (decN Z.data.toList) 1 L) := Lib.hid r3)); have HK := Lib.hid k3; clear r3 s3 b3 k3) | (go_at_call 51; refine (HT.out _).mono ?_; rintro e w5 ⟨b5, rfl, hb5, r5, s5, c5⟩; have hcur5 : Below W.heap.size W w5 := (by first | exact back_of' hcur3 c5 | exact back_of' (hcur3.alloc hcur3.size (.cells #[.bool false, .slice none 0 0, .bool false, .slice none 0 0] 104)) c5); (first | (have HRa5 := Lib.hid (HRa.out.below c5 (Nat.le_refl _))) | (have HRb5 := Lib.hid (HRb.out.below c5 (Nat.le_refl _))) | (have HRa5 := Lib.hid ((HRa.out.below ((Below.refl _ _).alloc (Nat.le_refl _) (.cells #[.bool false, .slice none 0 0, .bool false, .slice none 0 0] 104)) (Nat.le_refl _)).below c5 (Nat.le_refl _)))); have H5 := Lib.hid r5; have HC5 := Lib.hid c5; clear r5 s5 c5) | (go_at_call 49; refine (ratmulL _ _ b5 _ 1 r s _ _ L L _ (by first | exact (H2.out.kept HK.out (by omega)).below HC5.out (Nat.le_refl _) | exact (H1.out.kept HK.out (by omega)).below HC5.out (Nat.le_refl _) | exact (RSlot.new w3 104).below HC5.out (Nat.le_refl _) | exact RSlot.new w5 104) (by first | exact HRa5.out | exact HRb5.out | exact HRa5.out.below ((Below.refl _ _).alloc (Nat.le_refl _) _) (Nat.le_refl _)) (by first | exact H5.out | exact H5.out.below ((Below.refl _ _).alloc (Nat.le_refl _) _) (Nat.le_refl _)) rfl rfl HM.out.1 HM.out.2.1 HM.out.2.2.1 HLL.out.2.1 HLL.out.2.2).mono ?_; rintro e w6 ⟨rfl, r6, s6, b6⟩; have hcur6 : Below W.heap.size W w6 := (by have z3 := hcur3.size; have z5 := hcur5.size; first | exact hcur5.trans (b6.mono (by omega)) | exact (hcur5.alloc hcur5.size (.cells #[.bool false, .slice none 0 0, .bool false, .slice none 0 0] 104)).trans (b6.mono (by omega))); have HF := Lib.hid r6; clear r6 s6 b6))
  all_goals go_wp2_with fail
  all_goals go_ret2
  all_goals exact ⟨_, _, _, rfl, HF.out, HM.out.2.2.2, back_of' HW.out hcur6⟩
end Go.Proofs.YtbidlkmagbjllaaGreatDoor.Nb
