/- Y22 Y23 Y24 Y25 Y26 Y27 Y28 in one text. -/
import Derived.Test.YtbidlkmagbjllaaGreatDoorP12
import Derived.Test.YtbidlkmagbjllaaGreatDoorP13
import Derived.StillTailTactics
import Derived.Laws.Externs

namespace Go.Proofs.YtbidlkmagbjllaaGreatDoor.Nb
open Go Go.RowKit

set_option maxRecDepth 8000 in
set_option maxHeartbeats 1000000 in
theorem setfrac_any (z b o b' o' p q : Nat) (neg : Bool) (w : World) (h : RSlot w z) (hx : IntN w b o neg p) (hy : IntN w b' o' false q) (hg : Nat.gcd p q = 1) (hn : neg = true → p ≠ 0) (h0 : 0 < q) :
    Calls Tryz.prog 136 #[.pointer (some ⟨z, 0, none⟩), .pointer (some ⟨b, o, none⟩), .pointer (some ⟨b', o', none⟩)] w (WroteR w z neg p q) := by
  obtain ⟨hb, h2, A, k, c, h3, h4⟩ := hx
  obtain ⟨hb', h2', A', k', c', h3', h4'⟩ := hy
  have HM := Lib.hid (fun (W : World) (hW : Below w.heap.size w W) => ratmade_any z p q neg _ _ W (h.below hW (Nat.le_refl _)) (h4.below hW) (h4'.below hW) hg hn h0)
  have hz : z ≤ w.heap.size := Nat.le_of_lt h.1.1
  clear h4 h4' h
  have hcur : Below w.heap.size w w.drew := (Below.refl _ _).drew
  have e1 : (neg != false) = neg := by cases neg <;> rfl
  go_enter Tryz.func136, Tryz.ntmps136
  go_wp2_with fail
  go_still_tail 18, (by kernel_rfl)
  change wpList _ _ _ _ _ w.drew
  go_wp2_with fail
  refine (HM.out _ hcur).mono ?_
  rintro e w1 h
  have HF := Lib.hid (h.after (hcur.mono hz))
  obtain ⟨rfl, -⟩ := h
  go_wp2_with fail
  go_ret
  exact HF.out

/-- raw, and what lies where then -/
def put2 (w : World) (z : Nat) (neg : Bool) (v v' : Value) : World := put (put w z 0 neg v) z 2 false v'
theorem put2_cell {w : World} {z b o : Nat} (neg : Bool) (v v' : Value) (h : b ≠ z) : (put2 w z neg v v').cell? ⟨b, o, none⟩ = w.cell? ⟨b, o, none⟩ := by
  unfold put2; rw [put_cell _ _ (.inl h), put_cell _ _ (.inl h)]
theorem put2_wrote {w : World} {z p q : Nat} {neg : Bool} {A A' : Option Addr} {k c k' c' : Nat} (h : RSlot w z) (hp : MagN w (.slice A k c) p 1) (hq : MagN w (.slice A' k' c') q 1) (h0 : 0 < q) :
    RatN (put2 w z neg (.slice A k c) (.slice A' k' c')) z neg p q ∧ RSlot (put2 w z neg (.slice A k c) (.slice A' k' c')) z ∧ Below z w (put2 w z neg (.slice A k c) (.slice A' k' c')) := by
  have h1 := two_put (neg := neg) h hp (Below.refl _ _) (h.1.magN hq neg (.slice A k c)) h0
  exact h1.2
set_option maxRecDepth 8000 in
theorem raw_put (z p : Nat) (neg : Bool) (A A' : Option Addr) (k c k' c' : Nat) (w : World) (h : RSlot w z) (hp : MagN w (.slice A k c) p 1) (hn : neg = true → p ≠ 0) :
    Calls Tryz.prog 104 #[.pointer (some ⟨z, 0, none⟩), .bool neg, .slice A k c, .slice A' k' c'] w fun e w' => e = .returned (.pointer (some ⟨z, 0, none⟩)) ∧ w' = put2 w z neg (.slice A k c) (.slice A' k' c') := by
  have H1 := Lib.hid (made_any z 0 neg A k c w h.1)
  rw [neg_len hp hn] at H1
  have s2 := h.2.put (b' := z) (o' := 0) (.inr (by omega)) neg (.slice A k c)
  have H2 := Lib.hid (made_any z 2 false A' k' c' (put w z 0 neg (.slice A k c)) s2)
  clear h s2 hp hn
  go_enter Tryz.func104, Tryz.ntmps104
  go_wp2_with fail
  refine H1.out.mono ?_
  rintro e w1 ⟨rfl, rfl⟩
  go_wp2_with fail
  refine H2.out.mono ?_
  rintro e w2 ⟨rfl, rfl⟩
  go_wp2_with fail
  go_ret
  exact ⟨rfl, rfl⟩

set_option maxRecDepth 8000 in
set_option maxHeartbeats 300000 in
theorem setint_any (z b o n : Nat) (w : World) (h : RSlot w z) (hx : IntN w b o false n) (hne : b ≠ z) :
    Calls Tryz.prog 50 #[.pointer (some ⟨z, 0, none⟩), .pointer (some ⟨b, o, none⟩)] w (WroteR w z false n 1) := by
  obtain ⟨hb, h2, A, k, c, h3, h4⟩ := hx
  have HS := Lib.hid (fun (W : World) (hW : Below w.heap.size w W) => (show W.cell? ⟨b, o, none⟩ = some (.bool false) ∧ W.cell? ⟨b, o + 1, none⟩ = some (.slice A k c) from ⟨(hW.cell (p := ⟨b, o, none⟩) (by exact hb)).trans h2, (hW.cell (p := ⟨b, o + 1, none⟩) (by exact hb)).trans h3⟩))
  have HS2 := Lib.hid (fun (W : World) (hW : Below w.heap.size w W) (neg : Bool) (v v' : Value) => (show (put2 W z neg v v').cell? ⟨b, o, none⟩ = some (.bool false) ∧ (put2 W z neg v v').cell? ⟨b, o + 1, none⟩ = some (.slice A k c) from ⟨(put2_cell _ _ _ hne).trans (HS.out W hW).1, (put2_cell _ _ _ hne).trans (HS.out W hW).2⟩))
  have HC := Lib.hid (fun (W : World) (hW : Below w.heap.size w W) => clone_any _ n 1 W (h4.below hW) (by omega))
  have H := Lib.hid h
  have hz : z ≤ w.heap.size := Nat.le_of_lt h.1.1
  clear h4 h
  have hcur : Below w.heap.size w w.drew := (Below.refl _ _).drew
  go_enter Tryz.func50, Tryz.ntmps50
  go_wp2_with fail
  go_region_held3 (fun w' => w'.cell? ⟨b, o, none⟩ = some (.bool false) ∧ w'.cell? ⟨b, o + 1, none⟩ = some (.slice A k c)) (first | exact hk4 | exact HS.out _ (by first | exact hcur3 | exact hcur3.alloc hcur3.size _ | exact hcur | exact hcur.alloc hcur.size _)) (first | (go_at_call 105; refine (HC.out _ (by first | exact hcur | exact hcur.alloc hcur.size _)).mono ?_; rintro e w3 ⟨x, rfl, hm, hb3⟩; obtain ⟨A1, k1, c1, rfl⟩ := hm.slice; have hcur3 : Below w.heap.size w w3 := (by first | exact back_of' hcur hb3 | exact back_of' (hcur.alloc hcur.size (.cells #[.int .u64 1] 74)) hb3); (first | (have HA : Hid (Below w.drew.heap.size w.drew w3) := Lib.hid hb3) | (have HB : Hid (Below (w.drew.alloc (.cells #[.int .u64 1] 74)).heap.size (w.drew.alloc (.cells #[.int .u64 1] 74)) w3) := Lib.hid hb3)); have HM := Lib.hid hm; clear hm hb3) | (go_at_call 104; refine (raw_put z n false A1 _ k1 c1 1 1 _ (by first | exact H.out.below hcur3 (Nat.le_refl _) | exact H.out.below (hcur3.alloc hcur3.size _) (Nat.le_refl _)) (by first | exact HM.out | exact HM.out.below ((Below.refl _ _).alloc (Nat.le_refl _) _)) (by simp)).mono ?_; rintro e w4 ⟨rfl, hw4⟩; have hk4 : w4.cell? ⟨b, o, none⟩ = some (.bool false) ∧ w4.cell? ⟨b, o + 1, none⟩ = some (.slice A k c) := (by rw [hw4]; exact HS2.out _ (by first | exact hcur3 | exact hcur3.alloc hcur3.size _) _ _ _); have HW4 := Lib.hid hw4; clear hw4))
  all_goals go_wp2_with fail
  all_goals go_ret
  · have h := put2_wrote (neg := false) (H.out.below (hcur3.alloc hcur3.size (.cells #[.int .u64 1] 74)) (Nat.le_refl _)) (HM.out.below ((Below.refl _ _).alloc (Nat.le_refl _) (.cells #[.int .u64 1] 74))) (one_new w3 74) (by omega)
    have hw := HW4.out
    subst hw
    exact ⟨rfl, h.1, h.2.1, ((hcur3.alloc hcur3.size (.cells #[.int .u64 1] 74)).mono hz).trans h.2.2⟩
  · have h := put2_wrote (neg := false) (H.out.below hcur3 (Nat.le_refl _)) HM.out ((one_new w.drew 74).below HB.out) (by omega)
    have hw := HW4.out
    subst hw
    exact ⟨rfl, h.1, h.2.1, (hcur3.mono hz).trans h.2.2⟩
end Go.Proofs.YtbidlkmagbjllaaGreatDoor.Nb

namespace Go.Proofs.YtbidlkmagbjllaaGreatDoor.Nb
open Go Go.RowKit

theorem RatN.open {w : World} {b p q : Nat} {neg : Bool} (h : RatN w b neg p q) : ∃ A k c A' c', b < w.heap.size ∧ w.cell? ⟨b, 0, none⟩ = some (.bool neg) ∧ w.cell? ⟨b, 1, none⟩ = some (.slice A k c) ∧ w.cell? ⟨b, 3, none⟩ = some (.slice A' 1 c') ∧ MagN w (.slice A k c) p 1 ∧ MagN w (.slice A' 1 c') q 1 ∧ 0 < q := by
  obtain ⟨⟨hb, h2, A, k, c, h3, h4⟩, ⟨-, -, A', k', c', h3', h4'⟩, h0⟩ := h
  have hk := h4'.one_len h0
  subst hk
  exact ⟨A, k, c, A', c', hb, h2, h3, h3', h4, h4', h0⟩
set_option maxRecDepth 8000 in
theorem under_at (b : Nat) (A : Option Addr) (c : Nat) (w : World) (h : w.cell? ⟨b, 3, none⟩ = some (.slice A 1 c)) :
    Calls Tryz.prog 103 #[.pointer (some ⟨b, 0, none⟩)] w fun e w' => e = .returned (.slice A 1 c) ∧ w' = w := by
  go_enter Tryz.func103, Tryz.ntmps103
  go_wp2_with fail
  go_ret
  exact ⟨rfl, rfl⟩

set_option maxRecDepth 8000 in
set_option maxHeartbeats 2000000 in
theorem product_any (z p q r s P Q : Nat) (a b c d : Value) (w : World) (h : RSlot w z) (ha : MagN w a p 1) (hb : MagN w b q 1) (hc : MagN w c r 1) (hd : MagN w d s 1) (hq : 0 < q) (hs : 0 < s)
    (hP : p / Nat.gcd p s * (r / Nat.gcd r q) = P) (hQ : q / Nat.gcd r q * (s / Nat.gcd p s) = Q) (hPl : P < 18446744073709551616) (hQl : Q < 18446744073709551616) (h0 : 0 < Q) :
    Calls Tryz.prog 102 #[.pointer (some ⟨z, 0, none⟩), .bool false, a, b, c, d] w (WroteR w z false P Q) := by
  obtain ⟨G, hG⟩ : ∃ G, Nat.gcd p s = G := ⟨_, rfl⟩
  obtain ⟨K, hK⟩ : ∃ K, Nat.gcd r q = K := ⟨_, rfl⟩
  have hG0 : 0 < G := hG ▸ Nat.gcd_pos_of_pos_right _ hs
  have hK0 : 0 < K := hK ▸ Nat.gcd_pos_of_pos_right _ hq
  have HD1 := Lib.hid (divisor_one _ _ p s w ha hd)
  have HD2 := Lib.hid (fun (W : World) (hW : Below w.heap.size w W) => divisor_one _ _ r q W (hc.below hW) (hb.below hW))
  rw [hG] at HD1 hP hQ
  rw [hK] at HD2 hP hQ
  have HO := Lib.hid (And.intro ha (And.intro hb (And.intro hc (And.intro hd (And.intro hG0 (And.intro hK0 h))))))
  have HE := Lib.hid (And.intro hP (And.intro hQ (And.intro hPl (And.intro hQl h0))))
  have hz : z ≤ w.heap.size := Nat.le_of_lt h.1.1
  clear h ha hb hc hd hG hK hG0 hK0 hP hQ hPl hQl h0 hq hs
  go_enter Tryz.func102, Tryz.ntmps102
  go_wp2_with fail
  refine HD1.out.mono ?_
  rintro e w1 ⟨g, rfl, m1, b1⟩
  have C1 := Lib.hid b1
  have M1 := Lib.hid m1
  clear m1 b1
  go_wp2_with fail
  refine (HD2.out _ C1.out).mono ?_
  rintro e w2 ⟨g', rfl, m2, b2⟩
  have C2 := Lib.hid (back_of' C1.out b2)
  have M1 := Lib.hid (M1.out.below b2)
  have M2 := Lib.hid m2
  clear m2 b2
  go_wp2_with fail
  refine (over_one _ _ p G w2 (HO.out.1.below C2.out) M1.out HO.out.2.2.2.2.1).mono ?_
  rintro e w3 ⟨v1, rfl, m3, b3⟩
  have C3 := Lib.hid (back_of' C2.out b3)
  have M1 := Lib.hid (M1.out.below b3)
  have M2 := Lib.hid (M2.out.below b3)
  have M3 := Lib.hid m3
  clear m3 b3
  go_wp2_with fail
  refine (over_one _ _ r K w3 (HO.out.2.2.1.below C3.out) M2.out HO.out.2.2.2.2.2.1).mono ?_
  rintro e w4 ⟨v2, rfl, m4, b4⟩
  have C4 := Lib.hid (back_of' C3.out b4)
  have M1 := Lib.hid (M1.out.below b4)
  have M2 := Lib.hid (M2.out.below b4)
  have M3 := Lib.hid (M3.out.below b4)
  have M4 := Lib.hid m4
  clear m4 b4
  go_wp2_with fail
  refine (times_mag _ _ _ _ 1 1 w4 M3.out M4.out (by omega) (by omega)).mono ?_
  rintro e w5 ⟨v3, rfl, m5, b5⟩
  have C5 := Lib.hid (back_of' C4.out b5)
  have M1 := Lib.hid (M1.out.below b5)
  have M2 := Lib.hid (M2.out.below b5)
  have M5 : Hid (MagN w5 v3 P 1) := Lib.hid (by rw [← HE.out.1]; exact m5.less (by rw [Nat.pow_one, HE.out.1]; exact HE.out.2.2.1))
  clear M3 M4 m5 b5
  go_wp2_with fail
  refine (over_one _ _ q K w5 (HO.out.2.1.below C5.out) M2.out HO.out.2.2.2.2.2.1).mono ?_
  rintro e w6 ⟨v4, rfl, m6, b6⟩
  have C6 := Lib.hid (back_of' C5.out b6)
  have M1 := Lib.hid (M1.out.below b6)
  have M5 := Lib.hid (M5.out.below b6)
  have M6 := Lib.hid m6
  clear m6 b6
  go_wp2_with fail
  refine (over_one _ _ s G w6 (HO.out.2.2.2.1.below C6.out) M1.out HO.out.2.2.2.2.1).mono ?_
  rintro e w7 ⟨v5, rfl, m7, b7⟩
  have C7 := Lib.hid (back_of' C6.out b7)
  have M5 := Lib.hid (M5.out.below b7)
  have M6 := Lib.hid (M6.out.below b7)
  have M7 := Lib.hid m7
  clear m7 b7
  go_wp2_with fail
  refine (times_mag _ _ _ _ 1 1 w7 M6.out M7.out (by omega) (by omega)).mono ?_
  rintro e w8 ⟨v6, rfl, m8, b8⟩
  have C8 := Lib.hid (back_of' C7.out b8)
  have M5 := Lib.hid (M5.out.below b8)
  have M8 : Hid (MagN w8 v6 Q 1) := Lib.hid (by rw [← HE.out.2.1]; exact m8.less (by rw [Nat.pow_one, HE.out.2.1]; exact HE.out.2.2.2.1))
  clear M6 M7 m8 b8
  go_wp2_with fail
  obtain ⟨A1, k1, c1, rfl⟩ := M5.out.slice
  obtain ⟨A2, k2, c2, rfl⟩ := M8.out.slice
  refine (raw_any z P Q false A1 A2 k1 c1 k2 c2 w8 (HO.out.2.2.2.2.2.2.below C8.out (Nat.le_refl _)) M5.out M8.out (by simp) HE.out.2.2.2.2).mono ?_
  rintro e w9 h
  have HF := Lib.hid (h.after (C8.out.mono hz))
  obtain ⟨rfl, -⟩ := h
  go_wp2_with fail
  go_ret
  exact HF.out

set_option maxRecDepth 8000 in
set_option maxHeartbeats 1000000 in
theorem ratmul_any (z x y p q r s P Q : Nat) (w : World) (h : RSlot w z) (hx : RatN w x false p q) (hy : RatN w y false r s)
    (hP : p / Nat.gcd p s * (r / Nat.gcd r q) = P) (hQ : q / Nat.gcd r q * (s / Nat.gcd p s) = Q) (hPl : P < 18446744073709551616) (hQl : Q < 18446744073709551616) (h0 : 0 < Q) :
    Calls Tryz.prog 49 #[.pointer (some ⟨z, 0, none⟩), .pointer (some ⟨x, 0, none⟩), .pointer (some ⟨y, 0, none⟩)] w (WroteR w z false P Q) := by
  obtain ⟨A1, k1, c1, A2, c2, hb, e0, e1, e3, m1, m2, q0⟩ := hx.open
  obtain ⟨B1, l1, d1, B2, d2, hb', f0, f1, f3, n1, n2, s0⟩ := hy.open
  have HM := Lib.hid (fun (W : World) (hW : Below w.heap.size w W) => product_any z p q r s P Q _ _ _ _ W (h.below hW (Nat.le_refl _)) (m1.below hW) (m2.below hW) (n1.below hW) (n2.below hW) q0 s0 hP hQ hPl hQl h0)
  have hz : z ≤ w.heap.size := Nat.le_of_lt h.1.1
  have U1 := under_at x A2 c2 w.drew e3
  have U2 := under_at y B2 d2 w.drew f3
  clear h hx hy m1 m2 n1 n2 hP hQ hPl hQl h0 q0 s0
  have hcur : Below w.heap.size w w.drew := (Below.refl _ _).drew
  go_enter Tryz.func49, Tryz.ntmps49
  go_wp2_with fail
  go_still_tail 26, (by kernel_rfl)
  still_call U1
  repeat still_step
  still_call U2
  repeat still_step
  refine wpStill_nil ?_
  change wpList _ _ _ _ _ w.drew
  go_wp2_with fail
  refine (HM.out _ hcur).mono ?_
  rintro e w1 h
  have HF := Lib.hid (h.after (hcur.mono hz))
  obtain ⟨rfl, -⟩ := h
  go_wp2_with fail
  go_ret
  exact HF.out

set_option maxRecDepth 8000 in
set_option maxHeartbeats 1000000 in
theorem ratquo_any (z x y p q r s P Q : Nat) (w : World) (h : RSlot w z) (hx : RatN w x false p q) (hy : RatN w y false r s) (hr : 0 < r)
    (hP : p / Nat.gcd p r * (s / Nat.gcd s q) = P) (hQ : q / Nat.gcd s q * (r / Nat.gcd p r) = Q) (hPl : P < 18446744073709551616) (hQl : Q < 18446744073709551616) (h0 : 0 < Q) :
    Calls Tryz.prog 76 #[.pointer (some ⟨z, 0, none⟩), .pointer (some ⟨x, 0, none⟩), .pointer (some ⟨y, 0, none⟩)] w (WroteR w z false P Q) := by
  obtain ⟨A1, k1, c1, A2, c2, hb, e0, e1, e3, m1, m2, q0⟩ := hx.open
  obtain ⟨B1, l1, d1, B2, d2, hb', f0, f1, f3, n1, n2, s0⟩ := hy.open
  have HM := Lib.hid (fun (W : World) (hW : Below w.heap.size w W) => product_any z p q s r P Q _ _ _ _ W (h.below hW (Nat.le_refl _)) (m1.below hW) (m2.below hW) (n2.below hW) (n1.below hW) q0 hr hP hQ hPl hQl h0)
  have hz : z ≤ w.heap.size := Nat.le_of_lt h.1.1
  have U1 := under_at x A2 c2 w.drew e3
  have U2 := under_at y B2 d2 w.drew f3
  clear h hx hy m1 m2 n1 n2 hP hQ hPl hQl h0 q0 s0 hr
  have hcur : Below w.heap.size w w.drew := (Below.refl _ _).drew
  go_enter Tryz.func76, Tryz.ntmps76
  go_wp2_with fail
  go_still_tail 26, (by kernel_rfl)
  still_call U1
  repeat still_step
  still_call U2
  repeat still_step
  refine wpStill_nil ?_
  change wpList _ _ _ _ _ w.drew
  go_wp2_with fail
  refine (HM.out _ hcur).mono ?_
  rintro e w1 h
  have HF := Lib.hid (h.after (hcur.mono hz))
  obtain ⟨rfl, -⟩ := h
  go_wp2_with fail
  go_ret
  exact HF.out
end Go.Proofs.YtbidlkmagbjllaaGreatDoor.Nb

namespace Go.Proofs.YtbidlkmagbjllaaGreatDoor.Nb
open Go Go.RowKit

set_option maxRecDepth 8000 in
theorem num_any (x p q : Nat) (w : World) (hx : RatN w x false p q) :
    Calls Tryz.prog 78 #[.pointer (some ⟨x, 0, none⟩)] w (New1 w false p) := by
  have hA := (Below.refl w.heap.size w).alloc (Nat.le_refl _) (.cells #[.bool false, .slice none 0 0] 102)
  have HS := Lib.hid (set_any w.heap.size 0 x 0 p false _ (ISlot.new w 102) (hx.1.below hA (Nat.le_refl _)) (by simp))
  have HA := Lib.hid hA
  clear hx hA
  go_enter Tryz.func78, Tryz.ntmps78
  go_wp2_with fail
  refine HS.out.mono ?_
  rintro e w1 ⟨rfl, h1, h2, h3⟩
  have HF := Lib.hid (And.intro h1 (And.intro h2 (HA.out.trans h3)))
  clear h1 h2 h3
  go_wp2_with fail
  go_ret
  exact ⟨_, rfl, Nat.le_refl _, HF.out⟩

set_option maxRecDepth 8000 in
theorem denom_any (x p q : Nat) (w : World) (hx : RatN w x false p q) :
    Calls Tryz.prog 79 #[.pointer (some ⟨x, 0, none⟩)] w (New1 w false q) := by
  have hA := (Below.refl w.heap.size w).alloc (Nat.le_refl _) (.cells #[.bool false, .slice none 0 0] 102)
  obtain ⟨A1, k1, c1, A2, c2, hb, e0, e1, e3, m1, m2, q0⟩ := (hx.below hA (Nat.le_refl _)).open
  have HU := Lib.hid (under_at x A2 c2 _ e3)
  have HC := Lib.hid (clone_any _ q 1 _ m2 (by omega))
  have HZ := Lib.hid (ISlot.new w 102)
  have HA := Lib.hid hA
  clear hx hA m1 m2 e0 e1 e3
  go_enter Tryz.func79, Tryz.ntmps79
  go_wp2_with fail
  refine HU.out.mono ?_
  rintro e w1 ⟨rfl, rfl⟩
  go_wp2_with fail
  refine HC.out.mono ?_
  rintro e w1 ⟨v, rfl, hm, hb⟩
  obtain ⟨A, k, c, rfl⟩ := hm.slice
  have HM := Lib.hid (made_num w.heap.size 0 q false A k c w1 (HZ.out.below hb (Nat.le_refl _)) hm (by simp))
  have HB := Lib.hid (HA.out.trans (hb.mono HA.out.size))
  clear hm hb
  go_wp2_with fail
  refine HM.out.mono ?_
  rintro e w2 ⟨rfl, h1, h2, h3⟩
  have HF := Lib.hid (And.intro h1 (And.intro h2 (HB.out.trans h3)))
  clear h1 h2 h3
  go_wp2_with fail
  go_ret
  exact ⟨_, rfl, Nat.le_refl _, HF.out⟩

set_option maxRecDepth 8000 in
theorem newrat_any (p q : Nat) (w : World) (hp : p ≤ 9223372036854775807) (hq : q ≤ 9223372036854775807) (hg : Nat.gcd p q = 1) (h0 : 0 < q) :
    Calls Tryz.prog 86 #[.int .i64 (p : Int), .int .i64 (q : Int)] w (NewR w false p q) := by
  have hA := (Below.refl w.heap.size w).alloc (Nat.le_refl _) (.cells #[.bool false, .slice none 0 0, .bool false, .slice none 0 0] 104)
  have HZ := Lib.hid (RSlot.new w 104)
  have HA := Lib.hid hA
  obtain ⟨W, hW⟩ : ∃ W, w.alloc (.cells #[.bool false, .slice none 0 0, .bool false, .slice none 0 0] 104) = W := ⟨_, rfl⟩
  rw [hW] at HZ HA
  clear hA
  go_enter Tryz.func86, Tryz.ntmps86
  go_wp2_with fail
  refine (newInt_any p W hp).mono ?_
  rintro e w1 ⟨b1, rfl, hb1, i1, -, c1⟩
  have H1 := Lib.hid (And.intro i1 c1)
  clear i1 c1
  go_wp2_with fail
  refine (newInt_any q w1 hq).mono ?_
  rintro e w2 ⟨b2, rfl, hb2, i2, -, c2⟩
  have H2 := Lib.hid (And.intro (H1.out.1.below c2 (Nat.le_refl _)) (And.intro i2 (back_of' H1.out.2 c2)))
  clear i2 c2
  go_wp2_with fail
  refine (setfrac_any w.heap.size b1 0 b2 0 p q false w2 (HZ.out.below H2.out.2.2 (Nat.le_refl _)) H2.out.1 H2.out.2.1 hg (by simp) h0).mono ?_
  rintro e w3 ⟨rfl, h1, h2, h3⟩
  have HF := Lib.hid (And.intro h1 (And.intro h2 ((HA.out.trans (H2.out.2.2.mono HA.out.size)).trans h3)))
  clear h1 h2 h3
  go_wp2_with fail
  go_ret
  exact ⟨_, rfl, Nat.le_refl _, HF.out⟩

set_option maxRecDepth 8000 in
set_option maxHeartbeats 1000000 in
theorem ratneg_any (z x p q : Nat) (w : World) (h : RSlot w z) (hx : RatN w x false p q) (hne : x ≠ z) (hp : p ≠ 0) :
    Calls Tryz.prog 133 #[.pointer (some ⟨z, 0, none⟩), .pointer (some ⟨x, 0, none⟩)] w (WroteR w z true p q) := by
  obtain ⟨A1, k1, c1, A2, c2, hb, e0, e1, e3, m1, m2, q0⟩ := hx.open
  have HS := Lib.hid (fun (W : World) (hW : Below w.heap.size w W) => (show W.cell? ⟨x, 0, none⟩ = some (.bool false) ∧ W.cell? ⟨x, 1, none⟩ = some (.slice A1 k1 c1) ∧ W.cell? ⟨x, 3, none⟩ = some (.slice A2 1 c2) from ⟨(hW.cell (p := ⟨x, 0, none⟩) (by exact hb)).trans e0, (hW.cell (p := ⟨x, 1, none⟩) (by exact hb)).trans e1, (hW.cell (p := ⟨x, 3, none⟩) (by exact hb)).trans e3⟩))
  have HS2 := Lib.hid (fun (W : World) (hW : Below w.heap.size w W) (neg : Bool) (v v' : Value) => (show (put2 W z neg v v').cell? ⟨x, 0, none⟩ = some (.bool false) ∧ (put2 W z neg v v').cell? ⟨x, 1, none⟩ = some (.slice A1 k1 c1) ∧ (put2 W z neg v v').cell? ⟨x, 3, none⟩ = some (.slice A2 1 c2) from ⟨(put2_cell _ _ _ hne).trans (HS.out W hW).1, (put2_cell _ _ _ hne).trans (HS.out W hW).2.1, (put2_cell _ _ _ hne).trans (HS.out W hW).2.2⟩))
  have HC1 := Lib.hid (fun (W : World) (hW : Below w.heap.size w W) => clone_any _ p 1 W (m1.below hW) (by omega))
  have HC2 := Lib.hid (fun (W : World) (hW : Below w.heap.size w W) => clone_any _ q 1 W (m2.below hW) (by omega))
  have H := Lib.hid h
  have hz : z ≤ w.heap.size := Nat.le_of_lt h.1.1
  clear h m1 m2 hx e0 e1 e3
  have hcur : Below w.heap.size w w.drew := (Below.refl _ _).drew
  go_enter Tryz.func133, Tryz.ntmps133
  go_wp2_with fail
  go_region_held3 (fun w' => w'.cell? ⟨x, 0, none⟩ = some (.bool false) ∧ w'.cell? ⟨x, 1, none⟩ = some (.slice A1 k1 c1) ∧ w'.cell? ⟨x, 3, none⟩ = some (.slice A2 1 c2)) (first | exact hk6 | exact HS.out _ hcurB | exact HS.out _ hcurA | exact HS.out _ hcur) (first | (go_at_call 105; refine (HC2.out _ hcurA).mono ?_; rintro e w5 ⟨v5, rfl, hm5, hb5⟩; obtain ⟨A5, k5, c5, rfl⟩ := hm5.slice; have hcurB := back_of' hcurA hb5; have HM3 := Lib.hid (HM3.out.below hb5); have HM5 := Lib.hid hm5; clear hm5 hb5) | (go_at_call 105; refine (HC1.out _ hcur).mono ?_; rintro e w3 ⟨v3, rfl, hm3, hb3⟩; obtain ⟨A3, k3, c3, rfl⟩ := hm3.slice; have hcurA := back_of' hcur hb3; have HM3 := Lib.hid hm3; clear hm3 hb3) | (go_at_call 103; refine (under_at x A2 c2 _ (HS.out _ hcurA).2.2).mono ?_; rintro e w4 ⟨rfl, rfl⟩) | (go_at_call 104; refine (raw_put z p true A3 A5 k3 c3 k5 c5 _ (H.out.below hcurB (Nat.le_refl _)) HM3.out (fun _ => hp)).mono ?_; rintro e w6 ⟨rfl, hw6⟩; have hk6 : w6.cell? ⟨x, 0, none⟩ = some (.bool false) ∧ w6.cell? ⟨x, 1, none⟩ = some (.slice A1 k1 c1) ∧ w6.cell? ⟨x, 3, none⟩ = some (.slice A2 1 c2) := (by rw [hw6]; exact HS2.out _ hcurB _ _ _); have HW6 := Lib.hid hw6; clear hw6))
  all_goals go_wp2_with fail
  all_goals go_ret
  have hh := put2_wrote (neg := true) (H.out.below hcurB (Nat.le_refl _)) HM3.out HM5.out q0
  have hw := HW6.out
  subst hw
  exact ⟨rfl, hh.1, hh.2.1, (hcurB.mono hz).trans hh.2.2⟩
end Go.Proofs.YtbidlkmagbjllaaGreatDoor.Nb

namespace Go.Proofs.YtbidlkmagbjllaaGreatDoor.Nb
open Go Go.RowKit

/-- what the head of Add leaves behind: the numbers' words -/
structure AddHead (w : World) (wx : World) (vd vg ve vf : Value) (s G E F : Nat) : Prop where
  b : Below w.heap.size w wx
  d : MagN wx vd s 1
  g : MagN wx vg G 1
  e : MagN wx ve E 1
  f : MagN wx vf F 1
theorem AddHead.below {w w1 w2 : World} {vd vg ve vf : Value} {s G E F : Nat} (h : AddHead w w1 vd vg ve vf s G E F) (hb : Below w1.heap.size w1 w2) : AddHead w w2 vd vg ve vf s G E F :=
  ⟨back_of' h.b hb, h.d.below hb, h.g.below hb, h.e.below hb, h.f.below hb⟩

set_option maxRecDepth 8000 in
set_option maxHeartbeats 2000000 in
theorem ratadd_un (z x y p q r s G E F T1 T2 D K L P Q : Nat) (w : World) (h : RSlot w z) (hx : RatN w x false p q) (hy : RatN w y true r s)
    (hG : Nat.gcd q s = G) (hE : q / G = E) (hF : s / G = F) (hT1 : p * F = T1) (hT2 : r * E = T2) (hle : T2 ≤ T1) (hD : T1 - T2 = D) (hK : Nat.gcd D G = K) (hL : s / K = L) (hP : D / K = P) (hQ : E * L = Q)
    (b1 : T1 < 18446744073709551616) (b2 : Q < 18446744073709551616) (b0 : 0 < Q) :
    Calls Tryz.prog 132 #[.pointer (some ⟨z, 0, none⟩), .pointer (some ⟨x, 0, none⟩), .pointer (some ⟨y, 0, none⟩)] w (WroteR w z false P Q) := by
  obtain ⟨A1, k1, c1, A2, c2, hb, e0, e1, e3, m1, m2, q0⟩ := hx.open
  obtain ⟨B1, l1, d1, B2, d2, hb', f0, f1, f3, n1, n2, s0⟩ := hy.open
  have hG0 : 0 < G := hG ▸ Nat.gcd_pos_of_pos_left _ q0
  have hK0 : 0 < K := hK ▸ Nat.gcd_pos_of_pos_right _ hG0
  have HX := Lib.hid (fun (W : World) (hW : Below w.heap.size w W) => (show W.cell? ⟨x, 0, none⟩ = some (.bool false) ∧ W.cell? ⟨x, 1, none⟩ = some (.slice A1 k1 c1) ∧ W.cell? ⟨x, 3, none⟩ = some (.slice A2 1 c2) from ⟨(hW.cell (p := ⟨x, 0, none⟩) (by exact hb)).trans e0, (hW.cell (p := ⟨x, 1, none⟩) (by exact hb)).trans e1, (hW.cell (p := ⟨x, 3, none⟩) (by exact hb)).trans e3⟩))
  have HY := Lib.hid (fun (W : World) (hW : Below w.heap.size w W) => (show W.cell? ⟨y, 0, none⟩ = some (.bool true) ∧ W.cell? ⟨y, 1, none⟩ = some (.slice B1 l1 d1) ∧ W.cell? ⟨y, 3, none⟩ = some (.slice B2 1 d2) from ⟨(hW.cell (p := ⟨y, 0, none⟩) (by exact hb')).trans f0, (hW.cell (p := ⟨y, 1, none⟩) (by exact hb')).trans f1, (hW.cell (p := ⟨y, 3, none⟩) (by exact hb')).trans f3⟩))
  have HM := Lib.hid (fun (W : World) (hW : Below w.heap.size w W) => And.intro (m1.below hW) (And.intro (m2.below hW) (And.intro (n1.below hW) (n2.below hW))))
  have U1 := Lib.hid (under_at x A2 c2 w e3)
  have U2 := Lib.hid (under_at y B2 d2 w f3)
  have H := Lib.hid h
  have hz : z < w.heap.size := h.1.1
  have HN := Lib.hid (And.intro hG (And.intro hE (And.intro hF (And.intro hT1 (And.intro hT2 (And.intro hD (And.intro hK (And.intro hL (And.intro hP hQ)))))))))
  have HB := Lib.hid (And.intro hle (And.intro b1 (And.intro b2 (And.intro b0 (And.intro hG0 hK0)))))
  have HD := Lib.hid (divisor_one _ _ q s w m2 n2)
  rw [hG] at HD
  clear h m1 m2 n1 n2 hx hy e0 e1 e3 f0 f1 f3 hG hE hF hT1 hT2 hle hD hK hL hP hQ b1 b2 b0 hG0 hK0 q0 s0
  go_enter Tryz.func132, Tryz.ntmps132
  go_wp2_with fail
  refine U1.out.mono ?_
  rintro e w1 ⟨rfl, hw⟩
  obtain rfl := hw.symm
  go_wp2_with fail
  refine U2.out.mono ?_
  rintro e w1 ⟨rfl, hw⟩
  obtain rfl := hw.symm
  go_wp2_with fail
  refine HD.out.mono ?_
  rintro e w1 ⟨vg, rfl, mg, b1⟩
  have C1 := Lib.hid (And.intro b1 mg)
  clear b1 mg
  go_wp2_with fail
  refine (over_one _ _ q G w1 (HM.out _ C1.out.1).2.1 C1.out.2 HB.out.2.2.2.2.1).mono ?_
  rintro e w2 ⟨ve, rfl, me, b2⟩
  rw [HN.out.2.1] at me
  have C2 := Lib.hid (And.intro (back_of' C1.out.1 b2) (And.intro (C1.out.2.below b2) me))
  clear b2 me
  go_wp2_with fail
  refine (over_one _ _ s G w2 (HM.out _ C2.out.1).2.2.2 C2.out.2.1 HB.out.2.2.2.2.1).mono ?_
  rintro e w3 ⟨vf, rfl, mf, b3⟩
  rw [HN.out.2.2.1] at mf
  have HH : Hid (AddHead w w3 (.slice B2 1 d2) vg ve vf s G E F) := Lib.hid ⟨back_of' C2.out.1 b3, (HM.out _ (back_of' C2.out.1 b3)).2.2.2, C2.out.2.1.below b3, C2.out.2.2.below b3, mf⟩
  clear b3 mf C1 C2
  go_wp2_with fail
  have hcur : Below w3.heap.size w3 w3.drew := (Below.refl _ _).drew
  have HTm := Lib.hid (fun (W : World) (hW : Below w3.heap.size w3 W) => times_mag (.slice A1 k1 c1) vf p F 1 1 W (HM.out _ (back_of' HH.out.b hW)).1 ((HH.out.below hW).f) (by omega) (by omega))
  have HXW := Lib.hid (fun (W : World) (hW : Below w3.heap.size w3 W) => (show W.cell? ⟨x, 0, none⟩ = some (.bool false) ∧ W.cell? ⟨x, 1, none⟩ = some (.slice A1 k1 c1) from ⟨(HX.out _ (back_of' HH.out.b hW)).1, (HX.out _ (back_of' HH.out.b hW)).2.1⟩))
  go_cut [12] (fun v wx => ∃ za : Nat, v = .pointer (some ⟨za, 0, none⟩) ∧ Hid (IntN wx za 0 false T1 ∧ ISlot wx za 0 ∧ Below w3.heap.size w3 wx ∧ w3.heap.size ≤ za))
  case first =>
    go_region_held3 (fun w' => w'.cell? ⟨x, 0, none⟩ = some (.bool false) ∧ w'.cell? ⟨x, 1, none⟩ = some (.slice A1 k1 c1)) (first | exact HXW.out _ (by first | exact hcur5 | exact hcur4 | exact hcur4.alloc hcur4.size _ | exact hcur | exact hcur.alloc hcur.size _)) (first | (go_at_call 134; refine (HTm.out _ (by first | exact hcur | exact hcur.alloc hcur.size _)).mono ?_; rintro e w4 ⟨v4, rfl, hm4, hb4⟩; obtain ⟨A4, k4, c4, rfl⟩ := hm4.slice; have hcur4 : Below w3.heap.size w3 w4 := (by first | exact back_of' hcur hb4 | exact back_of' (hcur.alloc hcur.size (.cells #[.bool false, .slice none 0 0] 102)) hb4); (first | (have HA : Hid (Below w3.drew.heap.size w3.drew w4) := Lib.hid hb4) | (have HA : Hid (Below (w3.drew.alloc (.cells #[.bool false, .slice none 0 0] 102)).heap.size (w3.drew.alloc (.cells #[.bool false, .slice none 0 0] 102)) w4) := Lib.hid hb4)); rw [HN.out.2.2.2.1] at hm4; have HM4 := Lib.hid (hm4.less (L' := 1) (by rw [Nat.pow_one]; exact HB.out.2.1)); clear hm4 hb4) | (go_at_call 101; refine (made_num _ 0 T1 false A4 k4 c4 _ (by first | exact (ISlot.new w3.drew 102).below HA.out (Nat.le_refl _) | exact ISlot.new w4 102) (by first | exact HM4.out | exact HM4.out.below ((Below.refl _ _).alloc (Nat.le_refl _) _)) (by simp)).mono ?_; rintro e w5 ⟨rfl, i5, s5, b5⟩; have hcur5 : Below w3.heap.size w3 w5 := (by first | exact hcur4.trans (b5.mono (Nat.le_refl _)) | exact (hcur4.alloc hcur4.size _).trans (b5.mono hcur4.size)); have HF := Lib.hid (And.intro i5 (And.intro s5 hcur5)); clear i5 s5 b5))
    all_goals go_wp2_with fail
    all_goals go_meet
    all_goals exact ⟨_, rfl, Lib.hid ⟨HF.out.1, HF.out.2.1, HF.out.2.2, by first | exact Nat.le_refl _ | exact hcur4.size⟩⟩
  case rest =>
    obtain ⟨za, rfl, hcut⟩ := hcut
    have HZ := Lib.hid (And.intro hcut.out.1 hcut.out.2.1)
    have HZ2 := Lib.hid (show za < wc.heap.size ∧ w3.heap.size ≤ za ∧ y < w3.heap.size ∧ w.heap.size ≤ w3.heap.size from ⟨hcut.out.1.1, hcut.out.2.2.2, Nat.lt_of_lt_of_le hb' HH.out.b.size, HH.out.b.size⟩)
    have HB3 := Lib.hid hcut.out.2.2.1
    have HC := Lib.hid (HH.out.below hcut.out.2.2.1)
    clear hcut HTm HXW hcur
    go_wp2_with fail
    have hcur : Below wc.heap.size wc wc.drew := (Below.refl _ _).drew
    have HTm := Lib.hid (fun (W : World) (hW : Below wc.heap.size wc W) => times_mag (.slice B1 l1 d1) ve r E 1 1 W (HM.out _ (back_of' HC.out.b hW)).2.2.1 ((HC.out.below hW).e) (by omega) (by omega))
    have HYW := Lib.hid (fun (W : World) (hW : Below wc.heap.size wc W) => (show W.cell? ⟨y, 0, none⟩ = some (.bool true) ∧ W.cell? ⟨y, 1, none⟩ = some (.slice B1 l1 d1) from ⟨(HY.out _ (back_of' HC.out.b hW)).1, (HY.out _ (back_of' HC.out.b hW)).2.1⟩))
    have HYZ := Lib.hid (fun (W : World) (hW : Below w3.heap.size wc W) => (show W.cell? ⟨y, 0, none⟩ = some (.bool true) ∧ W.cell? ⟨y, 1, none⟩ = some (.slice B1 l1 d1) from (by
      have q := HC.out.b
      have hy1 : y < w3.heap.size := HZ2.out.2.2.1
      have k := HYW.out wc (Below.refl _ _)
      exact ⟨(hW.cell (p := ⟨y, 0, none⟩) (by exact hy1)).trans k.1, (hW.cell (p := ⟨y, 1, none⟩) (by exact hy1)).trans k.2⟩)))
    go_region_held3 (fun w' => w'.cell? ⟨y, 0, none⟩ = some (.bool true) ∧ w'.cell? ⟨y, 1, none⟩ = some (.slice B1 l1 d1)) (first | exact HYZ.out _ hcur5 | exact HYW.out _ hcur4 | exact HYW.out _ hcur) (first | (go_at_call 134; refine (HTm.out _ hcur).mono ?_; rintro e w4 ⟨v4, rfl, hm4, hb4⟩; have hcur4 := back_of' hcur hb4; rw [HN.out.2.2.2.2.1] at hm4; have HM4 := Lib.hid (hm4.less (L' := 1) (by rw [Nat.pow_one]; have := HB.out; omega)); clear hm4 hb4) | (go_at_call 130; refine (plus_neg za 0 za 0 T1 T2 v4 w4 (HZ.out.2.below hcur4 (Nat.le_refl _)) (HZ.out.1.below hcur4 (Nat.le_refl _)) HM4.out HB.out.1).mono ?_; rintro e w5 ⟨rfl, i5, s5, b5⟩; have hcur5 : Below w3.heap.size wc w5 := (hcur4.mono (by have := HZ2.out; omega)).trans (b5.mono HZ2.out.2.1); have HF := Lib.hid (And.intro i5 (And.intro s5 b5)); clear i5 s5 b5))
    rw [HN.out.2.2.2.2.2.1] at HF
    have HC5 := Lib.hid (HH.out.below (HB3.out.trans hcur5))
    obtain ⟨hb5, g0, A5, k5, c5, g1, g2⟩ := HF.out.1
    have g1' : w5.cell? ⟨za, 1, none⟩ = some (.slice A5 k5 c5) := g1
    have G2 := Lib.hid g2
    clear g1 g2 HF HC HH HB3 HTm HYW HYZ hcur hcur4 hcur5 HM4
    go_wp2_with fail
    refine (divisor_one _ _ D G w5 G2.out HC5.out.g).mono ?_
    rintro e w6 ⟨vh, rfl, m6, b6⟩
    rw [HN.out.2.2.2.2.2.2.1] at m6
    have HC6 := Lib.hid (HC5.out.below b6)
    have MH := Lib.hid m6
    have MA := Lib.hid (G2.out.below b6)
    have z0 := (b6.cell (p := ⟨za, 0, none⟩) (by exact hb5)).trans g0
    have z1 := (b6.cell (p := ⟨za, 1, none⟩) (by exact hb5)).trans g1'
    have hb6 : za < w6.heap.size := Nat.lt_of_lt_of_le hb5 b6.size
    have hne : za ≠ z := by have := HZ2.out; omega
    clear g0 g1' m6 b6 HC5 G2
    have HZW := Lib.hid (fun (W : World) (hW : Below w6.heap.size w6 W) => (show W.cell? ⟨za, 0, none⟩ = some (.bool false) ∧ W.cell? ⟨za, 1, none⟩ = some (.slice A5 k5 c5) from ⟨(hW.cell (p := ⟨za, 0, none⟩) (by exact hb6)).trans z0, (hW.cell (p := ⟨za, 1, none⟩) (by exact hb6)).trans z1⟩))
    have HO1 := Lib.hid (fun (W : World) (hW : Below w6.heap.size w6 W) => over_one _ _ D K W (MA.out.below hW) (MH.out.below hW) HB.out.2.2.2.2.2)
    have HO2 := Lib.hid (fun (W : World) (hW : Below w6.heap.size w6 W) => over_one _ _ s K W (HC6.out.below hW).d (MH.out.below hW) HB.out.2.2.2.2.2)
    go_wp2_with fail
    have hcur : Below w6.heap.size w6 w6.drew := (Below.refl _ _).drew
    go_region_held3 (fun w' => w'.cell? ⟨za, 0, none⟩ = some (.bool false) ∧ w'.cell? ⟨za, 1, none⟩ = some (.slice A5 k5 c5)) (first | exact hk11 | exact HZW.out _ hcurD | exact HZW.out _ hcurC | exact HZW.out _ hcurB | exact HZW.out _ hcurA | exact HZW.out _ hcur) (first | (go_at_call 157; refine (HO2.out _ hcurB).mono ?_; rintro e w9 ⟨v9, rfl, hm9, hb9⟩; rw [HN.out.2.2.2.2.2.2.2.1] at hm9; have hcurC := back_of' hcurB hb9; have HM8 := Lib.hid (HM8.out.below hb9); have HM9 := Lib.hid hm9; clear hm9 hb9) | (go_at_call 157; refine (HO1.out _ hcur).mono ?_; rintro e w7 ⟨v7, rfl, hm7, hb7⟩; rw [HN.out.2.2.2.2.2.2.2.2.1] at hm7; have hcurA := back_of' hcur hb7; have HM7 := Lib.hid hm7; clear hm7 hb7) | (go_at_call 105; refine (clone_any _ P 1 _ HM7.out (by omega)).mono ?_; rintro e w8 ⟨v8, rfl, hm8, hb8⟩; obtain ⟨A8, k8, c8, rfl⟩ := hm8.slice; have hcurB := back_of' hcurA hb8; have HM8 := Lib.hid hm8; clear hm8 hb8) | (go_at_call 134; refine (times_mag _ _ E L 1 1 _ (HC6.out.below hcurC).e HM9.out (by omega) (by omega)).mono ?_; rintro e w10 ⟨v10, rfl, hm10, hb10⟩; obtain ⟨A10, k10, c10, rfl⟩ := hm10.slice; rw [HN.out.2.2.2.2.2.2.2.2.2] at hm10; have hcurD := back_of' hcurC hb10; have HM8 := Lib.hid (HM8.out.below hb10); have HM10 := Lib.hid (hm10.less (L' := 1) (by rw [Nat.pow_one]; exact HB.out.2.2.1)); clear hm10 hb10) | (go_at_call 104; refine (raw_put z P false A8 A10 k8 c8 k10 c10 _ (H.out.below (back_of' HC6.out.b hcurD) (Nat.le_refl _)) HM8.out (by simp)).mono ?_; rintro e w11 ⟨rfl, hw11⟩; have hk11 : w11.cell? ⟨za, 0, none⟩ = some (.bool false) ∧ w11.cell? ⟨za, 1, none⟩ = some (.slice A5 k5 c5) := (by rw [hw11]; exact ⟨(put2_cell _ _ _ hne).trans (HZW.out _ hcurD).1, (put2_cell _ _ _ hne).trans (HZW.out _ hcurD).2⟩); have HW11 := Lib.hid hw11; clear hw11))
    all_goals go_wp2_with fail
    all_goals go_ret
    have hbD := back_of' HC6.out.b hcurD
    have hh := put2_wrote (neg := false) (H.out.below hbD (Nat.le_refl _)) HM8.out HM10.out HB.out.2.2.2.1
    have hw := HW11.out
    subst hw
    exact ⟨rfl, hh.1, hh.2.1, (hbD.mono (Nat.le_of_lt hz)).trans hh.2.2⟩
end Go.Proofs.YtbidlkmagbjllaaGreatDoor.Nb

namespace Go.Proofs.YtbidlkmagbjllaaGreatDoor.Nb
open Go Go.RowKit

set_option maxRecDepth 8000 in
theorem ratsub_any (z x y p q r s G E F T1 T2 D K L P Q : Nat) (w : World) (h : RSlot w z) (hx : RatN w x false p q) (hy : RatN w y false r s) (hr : r ≠ 0)
    (hG : Nat.gcd q s = G) (hE : q / G = E) (hF : s / G = F) (hT1 : p * F = T1) (hT2 : r * E = T2) (hle : T2 ≤ T1) (hD : T1 - T2 = D) (hK : Nat.gcd D G = K) (hL : s / K = L) (hP : D / K = P) (hQ : E * L = Q)
    (b1 : T1 < 18446744073709551616) (b2 : Q < 18446744073709551616) (b0 : 0 < Q) :
    Calls Tryz.prog 84 #[.pointer (some ⟨z, 0, none⟩), .pointer (some ⟨x, 0, none⟩), .pointer (some ⟨y, 0, none⟩)] w (WroteR w z false P Q) := by
  have hA := (Below.refl w.heap.size w).alloc (Nat.le_refl _) (.cells #[.bool false, .slice none 0 0, .bool false, .slice none 0 0] 104)
  have hyb : y < w.heap.size := hy.1.1
  have HN := Lib.hid (ratneg_any w.heap.size y r s _ (RSlot.new w 104) (hy.below hA (Nat.le_refl _)) (by omega) hr)
  have HS := Lib.hid (fun (W : World) (hW : Below w.heap.size w W) (n : Nat) (hn : RatN W n true r s) => ratadd_un z x n p q r s G E F T1 T2 D K L P Q W (h.below hW (Nat.le_refl _)) (hx.below hW (Nat.le_refl _)) hn hG hE hF hT1 hT2 hle hD hK hL hP hQ b1 b2 b0)
  have HA := Lib.hid hA
  have hz : z ≤ w.heap.size := Nat.le_of_lt h.1.1
  clear h hx hy hG hE hF hT1 hT2 hle hD hK hL hP hQ b1 b2 b0 hA hr
  go_enter Tryz.func84, Tryz.ntmps84
  go_wp2_with fail
  refine HN.out.mono ?_
  rintro e w1 ⟨rfl, n1, -, b1⟩
  have H1 := Lib.hid (And.intro n1 (HA.out.trans b1))
  clear n1 b1
  go_wp2_with fail
  refine (HS.out _ H1.out.2 _ H1.out.1).mono ?_
  rintro e w2 h
  have HF := Lib.hid (h.after (H1.out.2.mono hz))
  obtain ⟨rfl, -⟩ := h
  go_wp2_with fail
  go_ret
  exact HF.out

set_option maxRecDepth 8000 in
set_option maxHeartbeats 2000000 in
theorem ratcmp_any (x y p q r s T1 T2 : Nat) (w : World) (hx : RatN w x false p q) (hy : RatN w y false r s) (hT1 : p * s = T1) (hT2 : r * q = T2) (b1 : T1 < 18446744073709551616) (b2 : T2 < 18446744073709551616) :
    Calls Tryz.prog 85 #[.pointer (some ⟨x, 0, none⟩), .pointer (some ⟨y, 0, none⟩)] w fun e w' => e = .returned (.int .i64 (cmpN T1 T2)) ∧ Below w.heap.size w w' := by
  obtain ⟨A1, k1, c1, A2, c2, hb, e0, e1, e3, m1, m2, q0⟩ := hx.open
  obtain ⟨B1, l1, d1, B2, d2, hb', f0, f1, f3, n1, n2, s0⟩ := hy.open
  have HX := Lib.hid (fun (W : World) (hW : Below w.heap.size w W) => (show W.cell? ⟨x, 0, none⟩ = some (.bool false) ∧ W.cell? ⟨x, 1, none⟩ = some (.slice A1 k1 c1) ∧ W.cell? ⟨y, 3, none⟩ = some (.slice B2 1 d2) from ⟨(hW.cell (p := ⟨x, 0, none⟩) (by exact hb)).trans e0, (hW.cell (p := ⟨x, 1, none⟩) (by exact hb)).trans e1, (hW.cell (p := ⟨y, 3, none⟩) (by exact hb')).trans f3⟩))
  have HY := Lib.hid (fun (W : World) (hW : Below w.heap.size w W) => (show W.cell? ⟨y, 0, none⟩ = some (.bool false) ∧ W.cell? ⟨y, 1, none⟩ = some (.slice B1 l1 d1) ∧ W.cell? ⟨x, 3, none⟩ = some (.slice A2 1 c2) from ⟨(hW.cell (p := ⟨y, 0, none⟩) (by exact hb')).trans f0, (hW.cell (p := ⟨y, 1, none⟩) (by exact hb')).trans f1, (hW.cell (p := ⟨x, 3, none⟩) (by exact hb)).trans e3⟩))
  have HT1 := Lib.hid (fun (W : World) (hW : Below w.heap.size w W) => times_mag _ _ p s 1 1 W (m1.below hW) (n2.below hW) (by omega) (by omega))
  have HT2 := Lib.hid (fun (W : World) (hW : Below w.heap.size w W) => times_mag _ _ r q 1 1 W (n1.below hW) (m2.below hW) (by omega) (by omega))
  have HN := Lib.hid (And.intro hT1 (And.intro hT2 (And.intro b1 b2)))
  clear m1 m2 n1 n2 hx hy e0 e1 e3 f0 f1 f3 hT1 hT2 b1 b2 q0 s0
  have hcur : Below w.heap.size w w.drew := (Below.refl _ _).drew
  go_enter Tryz.func85, Tryz.ntmps85
  go_wp2_with fail
  go_cut [5] (fun v wx => ∃ za : Nat, v = .pointer (some ⟨za, 0, none⟩) ∧ Hid (IntN wx za 0 false T1 ∧ ISlot wx za 0 ∧ Below w.heap.size w wx ∧ w.heap.size ≤ za))
  case first =>
    go_region_held3 (fun w' => w'.cell? ⟨x, 0, none⟩ = some (.bool false) ∧ w'.cell? ⟨x, 1, none⟩ = some (.slice A1 k1 c1) ∧ w'.cell? ⟨y, 3, none⟩ = some (.slice B2 1 d2)) (first | exact HX.out _ (by first | exact hcur5 | exact hcur4 | exact hcur4.alloc hcur4.size _ | exact hcur | exact hcur.alloc hcur.size _)) (first | (go_at_call 103; refine (under_at y B2 d2 _ (HX.out _ (by first | exact hcur | exact hcur.alloc hcur.size _)).2.2).mono ?_; rintro e w4 ⟨rfl, rfl⟩) | (go_at_call 134; refine (HT1.out _ (by first | exact hcur | exact hcur.alloc hcur.size _)).mono ?_; rintro e w4 ⟨v4, rfl, hm4, hb4⟩; obtain ⟨A4, k4, c4, rfl⟩ := hm4.slice; have hcur4 : Below w.heap.size w w4 := (by first | exact back_of' hcur hb4 | exact back_of' (hcur.alloc hcur.size (.cells #[.bool false, .slice none 0 0] 102)) hb4); (first | (have HA : Hid (Below w.drew.heap.size w.drew w4) := Lib.hid hb4) | (have HA : Hid (Below (w.drew.alloc (.cells #[.bool false, .slice none 0 0] 102)).heap.size (w.drew.alloc (.cells #[.bool false, .slice none 0 0] 102)) w4) := Lib.hid hb4)); rw [HN.out.1] at hm4; have HM4 := Lib.hid (hm4.less (L' := 1) (by rw [Nat.pow_one]; exact HN.out.2.2.1)); clear hm4 hb4) | (go_at_call 101; refine (made_num _ 0 T1 false A4 k4 c4 _ (by first | exact (ISlot.new w.drew 102).below HA.out (Nat.le_refl _) | exact ISlot.new w4 102) (by first | exact HM4.out | exact HM4.out.below ((Below.refl _ _).alloc (Nat.le_refl _) _)) (by simp)).mono ?_; rintro e w5 ⟨rfl, i5, s5, b5⟩; have hcur5 : Below w.heap.size w w5 := (by first | exact hcur4.trans (b5.mono (Nat.le_refl _)) | exact (hcur4.alloc hcur4.size _).trans (b5.mono hcur4.size)); have HF := Lib.hid (And.intro i5 (And.intro s5 hcur5)); clear i5 s5 b5))
    all_goals go_wp2_with fail
    all_goals go_meet
    all_goals exact ⟨_, rfl, Lib.hid ⟨HF.out.1, HF.out.2.1, HF.out.2.2, by first | exact Nat.le_refl _ | exact hcur4.size⟩⟩
  case rest =>
    obtain ⟨za, rfl, hcut⟩ := hcut
    obtain ⟨w2, hw2⟩ : ∃ w2, wc = w2 := ⟨_, rfl⟩
    subst hw2
    have HZ := Lib.hid hcut.out
    have HB2 := Lib.hid hcut.out.2.2.1
    have hzs : za < wc.heap.size := hcut.out.1.1
    clear hcut hcur HX HT1
    go_wp2_with fail
    have HYW := Lib.hid (fun (W : World) (hW : Below wc.heap.size wc W) => HY.out W (back_of' HB2.out hW))
    have HTW := Lib.hid (fun (W : World) (hW : Below wc.heap.size wc W) => HT2.out W (back_of' HB2.out hW))
    have hcur : Below wc.heap.size wc wc.drew := (Below.refl _ _).drew
    go_cut [6] (fun v wx => ∃ za : Nat, v = .pointer (some ⟨za, 0, none⟩) ∧ Hid (IntN wx za 0 false T2 ∧ ISlot wx za 0 ∧ Below wc.heap.size wc wx ∧ wc.heap.size ≤ za))
    case first =>
      go_region_held3 (fun w' => w'.cell? ⟨y, 0, none⟩ = some (.bool false) ∧ w'.cell? ⟨y, 1, none⟩ = some (.slice B1 l1 d1) ∧ w'.cell? ⟨x, 3, none⟩ = some (.slice A2 1 c2)) (first | exact HYW.out _ (by first | exact hcur5 | exact hcur4 | exact hcur4.alloc hcur4.size _ | exact hcur | exact hcur.alloc hcur.size _)) (first | (go_at_call 103; refine (under_at x A2 c2 _ (HYW.out _ (by first | exact hcur | exact hcur.alloc hcur.size _)).2.2).mono ?_; rintro e w4 ⟨rfl, rfl⟩) | (go_at_call 134; refine (HTW.out _ (by first | exact hcur | exact hcur.alloc hcur.size _)).mono ?_; rintro e w4 ⟨v4, rfl, hm4, hb4⟩; obtain ⟨A4, k4, c4, rfl⟩ := hm4.slice; have hcur4 : Below wc.heap.size wc w4 := (by first | exact back_of' hcur hb4 | exact back_of' (hcur.alloc hcur.size (.cells #[.bool false, .slice none 0 0] 102)) hb4); (first | (have HA : Hid (Below wc.drew.heap.size wc.drew w4) := Lib.hid hb4) | (have HA : Hid (Below (wc.drew.alloc (.cells #[.bool false, .slice none 0 0] 102)).heap.size (wc.drew.alloc (.cells #[.bool false, .slice none 0 0] 102)) w4) := Lib.hid hb4)); rw [HN.out.2.1] at hm4; have HM4 := Lib.hid (hm4.less (L' := 1) (by rw [Nat.pow_one]; exact HN.out.2.2.2)); clear hm4 hb4) | (go_at_call 101; refine (made_num _ 0 T2 false A4 k4 c4 _ (by first | exact (ISlot.new wc.drew 102).below HA.out (Nat.le_refl _) | exact ISlot.new w4 102) (by first | exact HM4.out | exact HM4.out.below ((Below.refl _ _).alloc (Nat.le_refl _) _)) (by simp)).mono ?_; rintro e w5 ⟨rfl, i5, s5, b5⟩; have hcur5 : Below wc.heap.size wc w5 := (by first | exact hcur4.trans (b5.mono (Nat.le_refl _)) | exact (hcur4.alloc hcur4.size _).trans (b5.mono hcur4.size)); have HF := Lib.hid (And.intro i5 (And.intro s5 hcur5)); clear i5 s5 b5))
      all_goals go_wp2_with fail
      all_goals go_meet
      all_goals exact ⟨_, rfl, Lib.hid ⟨HF.out.1, HF.out.2.1, HF.out.2.2, by first | exact Nat.le_refl _ | exact hcur4.size⟩⟩
    case rest =>
      obtain ⟨zb, rfl, hcut⟩ := hcut
      have I1 := Lib.hid (cmp_any za 0 T1 zb 0 T2 wc (HZ.out.1.below hcut.out.2.2.1 (Nat.le_refl _)) hcut.out.1)
      have HBf := Lib.hid (back_of' HB2.out hcut.out.2.2.1)
      clear hcut hcur HYW HTW HZ HB2
      go_wp2_with fail
      refine I1.out.mono ?_
      rintro e w6 ⟨rfl, j, rfl⟩
      go_wp2_with fail
      go_ret
      exact ⟨rfl, below_dr HBf.out j⟩
end Go.Proofs.YtbidlkmagbjllaaGreatDoor.Nb

namespace Go.Proofs.YtbidlkmagbjllaaGreatDoor.Nb
open Go Go.RowKit

theorem quiet_under {P : Program} {f : FuncId} {args : Array Value} {w : World} {a : Nat} {v : Value}
    (h : Calls P f args (w.drewN a) fun e w' => e = .returned v ∧ w' = w.drewN a) :
    Calls P f args (w.drewN a) fun e w'' => e = .returned v ∧ ∃ m, w'' = w.drewN m :=
  h.mono fun _ _ ⟨h1, h2⟩ => ⟨h1, a, h2⟩

set_option maxRecDepth 8000 in
set_option maxHeartbeats 2000000 in
/-- a quotient of 54 bits, odd, with a rest: the number above -/
theorem nearest_odd (x p q N M R : Nat) (E E1 : Int) (w : World) (hx : RatN w x false p q) (hp : 0 < p)
    (hE : (Lib.bitLen p : Int) - (Lib.bitLen q : Int) - 53 - 1 = E) (hE1 : E + 1 = E1) (hN : -E = (N : Int)) (hN0 : 0 < N) (hN1 : N < 64) (hl : p * 2 ^ N < 18446744073709551616) (hM : p * 2 ^ N / q = 2 * M + 1) (hR : p * 2 ^ N % q = R) (hR0 : 0 < R) (hM1 : M < 9007199254740992) (hM0 : 4503599627370496 ≤ M) :
    Calls Tryz.prog 52 #[.pointer (some ⟨x, 0, none⟩), .int .i64 53, .int .i64 (-1074)] w fun e w' => e = .returned (.tuple #[.int .u64 ((M + 1 : Nat) : Int), .int .i64 E1, .bool false]) ∧ Below w.heap.size w w' := by
  obtain ⟨A1, k1, c1, A2, c2, hb, e0, e1, e3, m1, m2, q0⟩ := hx.open
  have hk := m1.one_len hp
  subst hk
  have U1 := Lib.hid (fun n => under_at x A2 c2 (w.drewN n) e3)
  have HL1 := Lib.hid (fun (W : World) (hW : Below w.heap.size w W) => length_one _ p W (m1.below hW))
  have HL2 := Lib.hid (fun (W : World) (hW : Below w.heap.size w W) => length_one _ q W (m2.below hW))
  have HLe := Lib.hid (fun (W : World) (hW : Below w.heap.size w W) => left_one _ p N W (m1.below hW) hN1 hl)
  have HM := Lib.hid (fun (W : World) (hW : Below w.heap.size w W) => m2.below hW)
  obtain ⟨lp, hlp⟩ : ∃ l, Lib.bitLen p = l := ⟨_, rfl⟩
  obtain ⟨lq, hlq⟩ : ∃ l, Lib.bitLen q = l := ⟨_, rfl⟩
  rw [hlp] at hE HL1
  rw [hlq] at hE HL2
  have HQ := Lib.hid (And.intro hM (And.intro hR (And.intro q0 hl)))
  have hlp' : lp ≤ 64 := by rw [← hlp]; exact bitLen_le p
  have hlq' : lq ≤ 64 := by rw [← hlq]; exact bitLen_le q
  obtain ⟨a1, ha1⟩ : ∃ a : Int, (lp : Int) - (lq : Int) = a := ⟨_, rfl⟩
  obtain ⟨a2, ha2⟩ : ∃ a : Int, a1 - 53 = a := ⟨_, rfl⟩
  have hw1 : wrap64 ((lp : Int) - (lq : Int)) = a1 := by unfold wrap64; omega
  have hw2 : wrap64 (a1 - 53) = a2 := by unfold wrap64; omega
  have hw3 : wrap64 (a2 - 1) = E := by unfold wrap64; omega
  have hw4 : wrap64 (-E) = (N : Int) := by unfold wrap64; omega
  have hw5 : wrap64 (E + 1) = E1 := by unfold wrap64; omega
  have hmax : max a2 (-1074) = a2 := by omega
  have hlt : E < 0 := by omega
  clear m1 m2 hx hlp hlq hM hR hl ha1 ha2 hlp' hlq' hE hN hE1
  go_enter Tryz.func52, Tryz.ntmps52
  go_wp2_with fail
  go_quiet ((go_at_call 103; exact quiet_under (U1.out _)))
  go_wp2_with fail
  have hcur : ∀ n, Below w.heap.size w (w.drewN n) := fun n => below_dr (Below.refl _ _) n
  refine (HL1.out _ (hcur _)).mono ?_
  rintro e w1 ⟨rfl, rfl⟩
  go_wp2_with fail
  refine (HL2.out _ (hcur _)).mono ?_
  rintro e w1 ⟨rfl, rfl⟩
  go_wp2_with fail
  refine (HLe.out _ (hcur _)).mono ?_
  rintro e w1 ⟨v1, rfl, hm1, hb1⟩
  have HM1 := Lib.hid (And.intro hm1 (back_of' (hcur _) hb1))
  clear hm1 hb1
  have HQ1 := Lib.hid (quotient_one _ _ _ _ 1 w1 HM1.out.1 (HM.out _ HM1.out.2) HQ.out.2.2.1 (by omega) (by omega))
  rw [HQ.out.1, HQ.out.2.1] at HQ1
  go_wp2_with fail
  refine HQ1.out.mono ?_
  rintro e w2 ⟨A3, k3, c3, A4, k4, c4, rfl, hm3, hm4, hb2⟩
  have hk4 := hm4.one_len hR0
  subst hk4
  have HB2 := Lib.hid (back_of' HM1.out.2 hb2)
  have HLo := Lib.hid (low_one _ _ w2 hm3)
  obtain ⟨m0, hm0⟩ : ∃ m0, 2 * M + 1 = m0 := ⟨_, rfl⟩
  rw [hm0] at HLo
  have hsh : (m0 : Int) / 18014398509481984 = 0 := by omega
  have hand : bits .and .u64 (m0 : Int) 1 = 1 := by rw [and_one_u64 (m0 : Int) (by omega) (by omega)]; omega
  have hhalf : (m0 : Int) / 2 = (M : Int) := by omega
  clear hm3 hm4 hb2 hm0 HQ1 HM1 HLe HL1 HL2 hw1 hw2 hw3 hw4 hmax HQ HM U1 hR0 hM0
  go_wp2_with fail
  refine HLo.out.mono ?_
  rintro e w3 ⟨rfl, hw⟩
  obtain rfl := hw
  go_wp2_with fail
  go_loopw [14, 15, 11] (fun a b c wr => a = .int .u64 (m0 : Int) ∧ b = .bool true ∧ c = .int .i64 E ∧ w2 = wr) (fun _ _ _ _ => 0)
  case atStart => exact ⟨rfl, rfl, rfl, rfl⟩
  case round =>
    obtain ⟨rfl, rfl, rfl, rfl⟩ := hrel
    go_wp2_with fail
    go_ret3
    exact ⟨(show Ending.returned (.tuple #[.int .u64 ((M : Int) + 1), .int .i64 (wrap64 (E + 1)), .bool false]) = _ by rw [hw5]; rfl), HB2.out⟩
end Go.Proofs.YtbidlkmagbjllaaGreatDoor.Nb

namespace Go.Proofs.YtbidlkmagbjllaaGreatDoor.Nb
open Go Go.RowKit

theorem run_frombits (n : Int) (w : World) : Sem.run Tryz.prog (callFunc 53 #[.int .u64 n]) w = .ok (.value (.float .f64 n.toNat)) w :=
  (run_callFunc_extern (e := Extern.MathFloatBits.float64frombits) Tryz.func53 (by kernel_rfl) (by kernel_rfl) (by kernel_rfl) (by kernel_rfl) _ _).trans rfl
theorem len_bits (n k : Nat) (w : World) (h : n < 18446744073709551616) (hk : Lib.bitLen n = k) : Calls Tryz.prog 29 #[.int .u64 (n : Int)] w fun e w' => e = .returned (.int .i64 (k : Int)) ∧ w' = w := by
  rw [← hk]
  exact Tryz.bits_Len64 n w (by omega) (by omega)

set_option maxRecDepth 8000 in
set_option maxHeartbeats 2000000 in
theorem nearest_75 (x : Nat) (w : World) (hx : RatN w x false 15 2) :
    Calls Tryz.prog 52 #[.pointer (some ⟨x, 0, none⟩), .int .i64 53, .int .i64 (-1074)] w fun e w' => e = .returned (.tuple #[.int .u64 8444249301319680, .int .i64 (-50), .bool true]) ∧ Below w.heap.size w w' := by
  obtain ⟨A1, k1, c1, A2, c2, hb, e0, e1, e3, m1, m2, q0⟩ := hx.open
  have hk := m1.one_len (by omega)
  subst hk
  have U1 := Lib.hid (fun n => under_at x A2 c2 (w.drewN n) e3)
  have HL1 := Lib.hid (fun (W : World) (hW : Below w.heap.size w W) => length_one _ 15 W (m1.below hW))
  have HL2 := Lib.hid (fun (W : World) (hW : Below w.heap.size w W) => length_one _ 2 W (m2.below hW))
  rw [show Lib.bitLen 15 = 4 by decide] at HL1
  rw [show Lib.bitLen 2 = 2 by decide] at HL2
  have HLe := Lib.hid (fun (W : World) (hW : Below w.heap.size w W) => left_one _ 15 52 W (m1.below hW) (by omega) (by decide))
  have HM := Lib.hid (fun (W : World) (hW : Below w.heap.size w W) => m2.below hW)
  clear m1 m2 hx q0
  go_enter Tryz.func52, Tryz.ntmps52
  go_wp2_with fail
  go_quiet ((go_at_call 103; exact quiet_under (U1.out _)))
  go_wp2_with fail
  have hcur : ∀ n, Below w.heap.size w (w.drewN n) := fun n => below_dr (Below.refl _ _) n
  refine (HL1.out _ (hcur _)).mono ?_
  rintro e w1 ⟨rfl, rfl⟩
  go_wp2_with fail
  refine (HL2.out _ (hcur _)).mono ?_
  rintro e w1 ⟨rfl, rfl⟩
  go_wp2_with fail
  refine (HLe.out _ (hcur _)).mono ?_
  rintro e w1 ⟨v1, rfl, hm1, hb1⟩
  have HM1 := Lib.hid (And.intro hm1 (back_of' (hcur _) hb1))
  clear hm1 hb1
  have HQ1 := Lib.hid (quotient_one _ _ _ _ 1 w1 HM1.out.1 (HM.out _ HM1.out.2) (by omega) (by omega) (by omega))
  rw [show 15 * 2 ^ 52 / 2 = 33776997205278720 by decide, show 15 * 2 ^ 52 % 2 = 0 by decide] at HQ1
  go_wp2_with fail
  refine HQ1.out.mono ?_
  rintro e w2 ⟨A3, k3, c3, A4, k4, c4, rfl, hm3, hm4, hb2⟩
  have hk4 := hm4.zeroLen
  subst hk4
  have HB2 := Lib.hid (back_of' HM1.out.2 hb2)
  have HLo := Lib.hid (low_one _ _ w2 hm3)
  have hand1 : bits .and .u64 33776997205278720 1 = 0 := by decide
  have hand2 : bits .and .u64 16888498602639360 1 = 0 := by decide
  have hand3 : bits .and .u64 8444249301319680 1 = 0 := by decide
  clear hm3 hm4 hb2 HQ1 HM1 HLe HL1 HL2 HM U1
  go_wp2_with fail
  refine HLo.out.mono ?_
  rintro e w3 ⟨rfl, hw⟩
  obtain rfl := hw
  go_wp2_with fail
  go_loopw [14, 15, 11] (fun a b c wr => b = .bool false ∧ w2 = wr ∧ ((a = .int .u64 33776997205278720 ∧ c = .int .i64 (-52)) ∨ (a = .int .u64 16888498602639360 ∧ c = .int .i64 (-51)))) (fun _ _ c _ => (-51 - intOf c).toNat)
  case atStart => exact ⟨rfl, rfl, .inl ⟨rfl, rfl⟩⟩
  case round =>
    obtain ⟨rfl, rfl, ⟨rfl, rfl⟩ | ⟨rfl, rfl⟩⟩ := hrel
    · go_wp2_with fail
      go_roundw
      case rel => simp
      case measure => simp [intOf]
    · go_wp2_with fail
      go_ret3
      exact ⟨rfl, HB2.out⟩

set_option maxRecDepth 8000 in
set_option maxHeartbeats 1000000 in
theorem float_tenth (x : Nat) (w : World) (hx : RatN w x false 1 10) :
    Calls Tryz.prog 16 #[.pointer (some ⟨x, 0, none⟩)] w fun e w' => e = .returned (.tuple #[.float .f64 4591870180066957722, .bool false]) ∧ Below w.heap.size w w' := by
  have HN : Hid (Calls Tryz.prog 52 #[.pointer (some ⟨x, 0, none⟩), .int .i64 53, .int .i64 (-1074)] w fun e w' => e = .returned (.tuple #[.int .u64 7205759403792794, .int .i64 (-56), .bool false]) ∧ Below w.heap.size w w') := Lib.hid (nearest_odd x 1 10 57 7205759403792793 2 (-57) (-56) w hx (by omega) (by decide) (by decide) (by decide) (by omega) (by omega) (by decide) (by decide) (by decide) (by omega) (by omega) (by omega))
  obtain ⟨A1, k1, c1, A2, c2, hb, e0, -, -, -, -, -⟩ := hx.open
  have HL := Lib.hid (fun W => len_bits 7205759403792794 53 W (by decide) (by decide))
  have hfb := run_frombits 4591870180066957722
  have hand : bits .and .u64 7205759403792794 4503599627370495 = 2702159776422298 := by decide
  have hor : bits .or .u64 4589168020290535424 2702159776422298 = 4591870180066957722 := by decide
  clear hx
  go_enter Tryz.func16, Tryz.ntmps16
  go_wp2_with fail
  refine HN.out.mono ?_
  rintro e w1 ⟨rfl, hb1⟩
  have y0 := (hb1.cell (p := ⟨x, 0, none⟩) (by exact hb)).trans e0
  have HB := Lib.hid hb1
  clear hb1
  go_wp2_with fail
  refine (HL.out _).mono ?_
  rintro e w2 ⟨rfl, hw⟩
  obtain rfl := hw.symm
  go_wp2_with fail
  go_ret2
  exact ⟨rfl, HB.out⟩

set_option maxRecDepth 8000 in
set_option maxHeartbeats 1000000 in
theorem float_fifth (x : Nat) (w : World) (hx : RatN w x false 1 5) :
    Calls Tryz.prog 16 #[.pointer (some ⟨x, 0, none⟩)] w fun e w' => e = .returned (.tuple #[.float .f64 4596373779694328218, .bool false]) ∧ Below w.heap.size w w' := by
  have HN : Hid (Calls Tryz.prog 52 #[.pointer (some ⟨x, 0, none⟩), .int .i64 53, .int .i64 (-1074)] w fun e w' => e = .returned (.tuple #[.int .u64 7205759403792794, .int .i64 (-55), .bool false]) ∧ Below w.heap.size w w') := Lib.hid (nearest_odd x 1 5 56 7205759403792793 1 (-56) (-55) w hx (by omega) (by decide) (by decide) (by decide) (by omega) (by omega) (by decide) (by decide) (by decide) (by omega) (by omega) (by omega))
  obtain ⟨A1, k1, c1, A2, c2, hb, e0, -, -, -, -, -⟩ := hx.open
  have HL := Lib.hid (fun W => len_bits 7205759403792794 53 W (by decide) (by decide))
  have hfb := run_frombits 4596373779694328218
  have hand : bits .and .u64 7205759403792794 4503599627370495 = 2702159776422298 := by decide
  have hor : bits .or .u64 4593671619917905920 2702159776422298 = 4596373779694328218 := by decide
  clear hx
  go_enter Tryz.func16, Tryz.ntmps16
  go_wp2_with fail
  refine HN.out.mono ?_
  rintro e w1 ⟨rfl, hb1⟩
  have y0 := (hb1.cell (p := ⟨x, 0, none⟩) (by exact hb)).trans e0
  have HB := Lib.hid hb1
  clear hb1
  go_wp2_with fail
  refine (HL.out _).mono ?_
  rintro e w2 ⟨rfl, hw⟩
  obtain rfl := hw.symm
  go_wp2_with fail
  go_ret2
  exact ⟨rfl, HB.out⟩

set_option maxRecDepth 8000 in
set_option maxHeartbeats 1000000 in
theorem float_75 (x : Nat) (w : World) (hx : RatN w x false 15 2) :
    Calls Tryz.prog 16 #[.pointer (some ⟨x, 0, none⟩)] w fun e w' => e = .returned (.tuple #[.float .f64 4620130267728707584, .bool true]) ∧ Below w.heap.size w w' := by
  have HN : Hid (Calls Tryz.prog 52 #[.pointer (some ⟨x, 0, none⟩), .int .i64 53, .int .i64 (-1074)] w fun e w' => e = .returned (.tuple #[.int .u64 8444249301319680, .int .i64 (-50), .bool true]) ∧ Below w.heap.size w w') := Lib.hid (nearest_75 x w hx)
  obtain ⟨A1, k1, c1, A2, c2, hb, e0, -, -, -, -, -⟩ := hx.open
  have HL := Lib.hid (fun W => len_bits 8444249301319680 53 W (by decide) (by decide))
  have hfb := run_frombits 4620130267728707584
  have hand : bits .and .u64 8444249301319680 4503599627370495 = 3940649673949184 := by decide
  have hor : bits .or .u64 4616189618054758400 3940649673949184 = 4620130267728707584 := by decide
  clear hx
  go_enter Tryz.func16, Tryz.ntmps16
  go_wp2_with fail
  refine HN.out.mono ?_
  rintro e w1 ⟨rfl, hb1⟩
  have y0 := (hb1.cell (p := ⟨x, 0, none⟩) (by exact hb)).trans e0
  have HB := Lib.hid hb1
  clear hb1
  go_wp2_with fail
  refine (HL.out _).mono ?_
  rintro e w2 ⟨rfl, hw⟩
  obtain rfl := hw.symm
  go_wp2_with fail
  go_ret2
  exact ⟨rfl, HB.out⟩
end Go.Proofs.YtbidlkmagbjllaaGreatDoor.Nb
