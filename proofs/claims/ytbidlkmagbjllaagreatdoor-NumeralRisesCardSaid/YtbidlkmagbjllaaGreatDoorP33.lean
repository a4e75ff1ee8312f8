/- BL6 BP1 BP2 in one text. -/
import Derived.Test.YtbidlkmagbjllaaGreatDoorP32
import Derived.Test.YtbidlkmagbjllaaGreatDoorP11

namespace Go.Proofs.YtbidlkmagbjllaaGreatDoor.Nb
open Go Go.RowKit

theorem mag_lt {w : World} {v : Value} {X L : Nat} (h : MagN w v X L) : X < 18446744073709551616 ^ L := by
  obtain ⟨ws, h1, h2, rfl, h4⟩ := h
  have a := val_lt h1.w32
  have b : 18446744073709551616 ^ ws.length ≤ 18446744073709551616 ^ L := Nat.pow_le_pow_right (by omega) h4
  omega
theorem mag_two {w : World} {A : Option Addr} {k c X L : Nat} (h : MagN w (.slice A k c) X L) (hk : 1 < k) : 18446744073709551616 ≤ X := by
  obtain ⟨ws, h1, h2, rfl, h4⟩ := h
  have hl := h1.lenN
  have a := norm_ge h2 (by omega)
  have b : 18446744073709551616 ^ 1 ≤ 18446744073709551616 ^ (ws.length - 1) := Nat.pow_le_pow_right (by omega) (by omega)
  rw [Nat.pow_one] at b
  omega
theorem mag_one {w : World} {A : Option Addr} {c X L : Nat} (h : MagN w (.slice A 1 c) X L) : X < 18446744073709551616 := by
  obtain ⟨ws, h1, h2, rfl, h4⟩ := h
  have hl := h1.lenN
  have a := val_lt h1.w32
  rw [← hl, Nat.pow_one] at a
  exact a
/-- ahead of a round of Euclid's way -/
def DivSt (w wr : World) (X Y L g : Nat) (u v : Value) : Prop :=
  ∃ X' Y', MagN wr u X' L ∧ MagN wr v Y' L ∧ Y' ≤ X' ∧ Nat.gcd X' Y' = Nat.gcd X Y ∧ X' + Y' ≤ g ∧ Below w.heap.size w wr

set_option maxRecDepth 8000 in
set_option maxHeartbeats 8000000 in
theorem divisor_ge (u v : Value) (X Y L : Nat) (w : World) (hu : MagN w u X L) (hv : MagN w v Y L) (hle : Y ≤ X) (hL : L ≤ 16777216) (hL1 : 1 ≤ L) :
    Calls Tryz.prog 156 #[u, v] w (Num w (Nat.gcd X Y) L) := by
  have HCM := Lib.hid (compare_any u v X Y L w hu hv (by omega))
  have hcmp : ¬ cmpN X Y < 0 := by unfold cmpN; rw [if_neg (by omega)]; split <;> omega
  obtain ⟨cq, hcq⟩ : ∃ q, cmpN X Y = q := ⟨_, rfl⟩
  rw [hcq] at HCM hcmp
  obtain ⟨A1, k1, c1, rfl⟩ := hu.slice
  obtain ⟨A2, k2, c2, rfl⟩ := hv.slice
  have HLL := Lib.hid (And.intro hL hL1)
  have H0 : Hid (∀ j, DivSt w (w.drewN j) X Y L (X + Y) (.slice A1 k1 c1) (.slice A2 k2 c2)) := Lib.hid (fun j => ⟨X, Y, (show MagN (w.drewN j) _ _ L from hu), (show MagN (w.drewN j) _ _ L from hv), hle, rfl, by omega, below_dN (Below.refl _ _) j⟩)
  clear hcq hu hv hle hL hL1
  go_enter Tryz.func156, Tryz.ntmps156
  go_wp2_with fail
  refine HCM.out.mono ?_
  rintro e w1 ⟨rfl, j, rfl⟩
  go_wp2_with fail
  go_loopg [0, 1] (X + Y) (fun gk xv yv wr => ∃ (A : Option Addr) (k c : Nat) (A' : Option Addr) (k' c' : Nat), xv = .slice A k c ∧ yv = .slice A' k' c' ∧ Hid (DivSt w wr X Y L gk (.slice A k c) (.slice A' k' c')))
  case atStart => exact ⟨A1, k1, c1, A2, k2, c2, rfl, rfl, Lib.hid (H0.out j)⟩
  case round =>
    clear H0 HCM
    obtain ⟨A, k, c, A', k', c', rfl, rfl, hh⟩ := hrel
    obtain ⟨X', Y', hx, hy, hxy, hg, hgk, hbl⟩ := hh.out
    have HH := Lib.hid (And.intro hx (And.intro hy (And.intro hxy (And.intro hg (And.intro hgk hbl)))))
    have hkl := hx.len
    have hkl' := hy.len
    have hkb : (k : Int) ≤ 16777216 := by have := HLL.out; omega
    have hkb' : (k' : Int) ≤ 16777216 := by have := HLL.out; omega
    by_cases h1 : 1 < k'
    · have g1 : (1 : Int) < (k' : Int) := by omega
      have hY64 : 18446744073709551616 ≤ Y' := mag_two hy h1
      have hX64 : 18446744073709551616 ≤ X' := by omega
      have hbx := blen_spec (X := X') (by omega)
      have hb65 : 64 < blen X' := by
        rcases Nat.lt_or_ge 64 (blen X') with q | q
        · exact q
        · exfalso
          have : 2 ^ blen X' ≤ 2 ^ 64 := Nat.pow_le_pow_right (by omega) q
          have := hbx.2.2
          omega
      have hblen : blen X' ≤ 64 * L := by
        refine blen_le ?_
        rw [← pow64]
        exact mag_lt hx
      obtain ⟨F, hF⟩ : ∃ F, blen X' = F + 64 := ⟨blen X' - 64, by omega⟩
      have HLN := Lib.hid (length_any _ X' L wr hx (by have := HLL.out; omega))
      rw [hF] at HLN
      have hFb : (F : Int) ≤ 1099511627776 := by have := HLL.out; omega
      have hFe : ((F + 64 : Nat) : Int) - 64 = (F : Int) := by omega
      have HT1 := Lib.hid (top_any _ X' F L wr hx (by omega))
      have HT2 := Lib.hid (top_any _ Y' F L wr hy (by omega))
      have htx : X' / 2 ^ F < 18446744073709551616 := by
        refine (Nat.div_lt_iff_lt_mul (Nat.pow_pos (by omega))).2 ?_
        have h := hbx.2.2
        rw [hF, Nat.pow_add, Nat.mul_comm] at h
        exact h
      have hty : Y' / 2 ^ F ≤ X' / 2 ^ F := Nat.div_le_div_right hxy
      rw [Nat.mod_eq_of_lt htx] at HT1
      rw [Nat.mod_eq_of_lt (by omega)] at HT2
      obtain ⟨x0, hx0⟩ : ∃ z, X' / 2 ^ F = z := ⟨_, rfl⟩
      obtain ⟨y0, hy0⟩ : ∃ z, Y' / 2 ^ F = z := ⟨_, rfl⟩
      rw [hx0] at HT1 htx hty
      rw [hy0] at HT2 hty
      have HST := Lib.hid (steps_any x0 y0 wr htx hty)
      have HQ := Lib.hid (quotient_any (.slice A k c) (.slice A' k' c') X' Y' L)
      have HXY := Lib.hid (And.intro hx0 hy0)
      have HBB := Lib.hid hY64
      clear hx hy hxy hg hgk hbl hkl hkl' hY64 hX64 hbx hb65 hblen hF htx hty hx0 hy0
      go_wp2_with fail
      refine HLN.out.mono ?_
      rintro e w2 ⟨rfl, rfl⟩
      go_wp2_with fail
      refine HT1.out.mono ?_
      rintro e w2 ⟨rfl, rfl⟩
      go_wp2_with fail
      refine HT2.out.mono ?_
      rintro e w2 ⟨rfl, rfl⟩
      go_wp2_with fail
      refine HST.out.mono ?_
      rintro e w2 ⟨a, b, c9, d, odd, rfl, hlw, hcm, hb2⟩
      have hA := (Below.refl w2.heap.size w2).alloc (Nat.le_refl _) (.cells #[.int .u64 (a : Int), .int .u64 (b : Int), .int .u64 (c9 : Int), .int .u64 (d : Int), .bool odd] 233)
      have HA := Lib.hid (onto hb2 hA)
      have HN := Lib.hid (com_new w2 a b c9 d odd)
      have HCO := Lib.hid (And.intro hcm hlw)
      clear hlw hcm hb2 hA HST HLN HT1 HT2
      obtain ⟨m0, m1, m2, m3, m4, -⟩ := HN.out.cells
      by_cases hb0 : b = 0
      · subst hb0
        go_wp2_with fail
        generalize w2.alloc (.cells #[.int .u64 (a : Int), .int .u64 ((0 : Nat) : Int), .int .u64 (c9 : Int), .int .u64 (d : Int), .bool odd] 233) = w3 at *
        refine (HQ.out w3 (HH.out.1.below HA.out) (HH.out.2.1.below HA.out) (by have := HBB.out; omega) (by have := HLL.out; omega) HLL.out.2).mono ?_
        rintro e w4 ⟨A4, k4, c4, A5, k5, c5, rfl, -, hm5, hb4⟩
        have HB4 := Lib.hid (onto HA.out hb4)
        have HN4 : Hid (DivSt w w4 X Y L (gk - 1) (.slice A' k' c') (.slice A5 k5 c5)) := Lib.hid (by
          have hY0 : 0 < Y' := by have := HBB.out; omega
          have hm := Nat.mod_lt X' hY0
          refine ⟨Y', X' % Y', HH.out.2.1.below HB4.out, hm5, Nat.le_of_lt hm, ?_, by have := HH.out; omega, onto HH.out.2.2.2.2.2 HB4.out⟩
          rw [← HH.out.2.2.2.1, Nat.gcd_comm Y', ← Nat.gcd_rec, Nat.gcd_comm])
        have hgp : 0 < gk := by have := HH.out.2.2.2.2.1; have := HBB.out; omega
        clear hm5 hb4 m0 m1 m2 m3 m4
        go_wp2_with fail
        go_roundg (gk - 1)
        case measure => omega
        case rel => exact ⟨_, _, _, _, _, _, rfl, rfl, HN4⟩
      · have hbn : ((b : Int) != 0) = true := by simp; omega
        obtain ⟨P, C, p, q, s, t, hst, hqp, hts, hP, hC, haf, hd0, hgc⟩ : ∃ P C p q s t : Nat, (if odd = true then (p = b * Y' ∧ q = a * X' ∧ s = c9 * X' ∧ t = d * Y') else (p = a * X' ∧ q = b * Y' ∧ s = d * Y' ∧ t = c9 * X')) ∧ q ≤ p ∧ t ≤ s ∧ P = p - q ∧ C = s - t ∧ After X' Y' P C a b c9 d ∧ 0 < d ∧ Nat.gcd X' Y' = Nat.gcd P C := by
          have h0 := HCO.out.1
          rw [← HXY.out.1, ← HXY.out.2] at h0
          have hK : 0 < 2 ^ F := Nat.pow_pos (by omega)
          cases odd
          · obtain ⟨a1, a2, a3, a4⟩ := after_even hK h0 hb0
            exact ⟨_, _, a * X', b * Y', d * Y', c9 * X', by simp, a1, a2, rfl, rfl, a3, a4, a3.gcd ⟨a, b, .inl (by omega)⟩ ⟨d, c9, .inl (by omega)⟩⟩
          · obtain ⟨a1, a2, a3, a4⟩ := after_odd hK h0 hb0
            exact ⟨_, _, b * Y', a * X', c9 * X', d * Y', by simp, a1, a2, rfl, rfl, a3, a4, a3.gcd ⟨b, a, .inr (by omega)⟩ ⟨c9, d, .inr (by omega)⟩⟩
        have HAF := Lib.hid (fun W (hW : Below wr.heap.size wr W) => after_any (.slice A k c) (.slice A' k' c') X' Y' L a b c9 d p q s t odd W (HH.out.1.below hW) (HH.out.2.1.below hW) (by have := HLL.out; omega) HCO.out.2 hst hqp hts)
        rw [← hP, ← hC] at HAF
        have HPC := Lib.hid (And.intro haf (And.intro hd0 hgc))
        clear hst hqp hts hP hC haf hd0 hgc
        go_wp2_with fail
        generalize w2.alloc (.cells #[.int .u64 (a : Int), .int .u64 (b : Int), .int .u64 (c9 : Int), .int .u64 (d : Int), .bool odd] 233) = w3 at *
        refine (HAF.out w3 HA.out).mono ?_
        rintro e w4 ⟨A4, k4, c4, A5, k5, c5, rfl, hm4, hm5, hb4⟩
        have hY0 : 0 < Y' := by have := HBB.out; omega
        have hsum := HPC.out.1.sum (by omega) HPC.out.2.1 hY0
        have HN4 : Hid (DivSt w w4 X Y L (gk - 1) (.slice A4 k4 c4) (.slice A5 k5 c5)) := Lib.hid (by
          have hPX : P ≤ X' := by
            have h1 := HPC.out.1.x
            have a1 : 1 * P ≤ d * P := Nat.mul_le_mul_right _ HPC.out.2.1
            omega
          have hXL := mag_lt HH.out.1
          have hCP := HPC.out.1.le
          refine ⟨P, C, hm4.less (by omega), hm5.less (by omega), hCP, HPC.out.2.2.symm.trans HH.out.2.2.2.1, by have := HH.out.2.2.2.2.1; omega, onto HH.out.2.2.2.2.2 (onto HA.out hb4)⟩)
        have hgp : 0 < gk := by have := HH.out.2.2.2.2.1; omega
        clear hm4 hm5 hb4 m0 m1 m2 m3 m4 hsum hY0
        go_wp2_with fail
        go_roundg (gk - 1)
        case measure => omega
        case rel => exact ⟨_, _, _, _, _, _, rfl, rfl, HN4⟩
    · have g1 : ¬ (1 : Int) < (k' : Int) := by omega
      have HBW := Lib.hid hbl
      by_cases h0 : k' = 0
      · subst h0
        have hz : Y' = 0 := hkl'.1 rfl
        have HR : Hid (MagN wr (.slice A k c) (Nat.gcd X Y) L) := Lib.hid (by rw [← hg, hz, Nat.gcd_zero_right]; exact hx)
        clear hx hy hxy hg hgk hbl hkl hkl' hz
        go_wp2_with fail
        go_ret
        exact ⟨_, rfl, HR.out, HBW.out⟩
      · obtain rfl : k' = 1 := by omega
        have hY0 : 0 < Y' := by have := hkl'.2.1 (by omega); omega
        have hY64 := mag_one hy
        by_cases h2 : 1 < k
        · have g2 : (1 : Int) < (k : Int) := by omega
          have HQ := Lib.hid (quotient_any _ _ X' Y' L wr hx hy hY0 (by have := HLL.out; omega) HLL.out.2)
          have HY1 := Lib.hid (And.intro hY0 hY64)
          clear hx hy hxy hg hgk hbl hkl hkl' hY0 hY64
          go_wp2_with fail
          refine HQ.out.mono ?_
          rintro e w4 ⟨A4, k4, c4, A5, k5, c5, rfl, -, hm5, hb4⟩
          have hm := Nat.mod_lt X' HY1.out.1
          have hg4 : Nat.gcd Y' (X' % Y') = Nat.gcd X Y := by rw [← HH.out.2.2.2.1, Nat.gcd_comm Y', ← Nat.gcd_rec, Nat.gcd_comm]
          have hm1 := hm5.less (L' := 1) (by rw [Nat.pow_one]; have := HY1.out.2; omega)
          have hkl5 := hm1.len
          have HB4 := Lib.hid (And.intro hm1 (And.intro (HH.out.2.1.below hb4) (And.intro hg4 hm)))
          have HBW := Lib.hid (onto HBW.out hb4)
          clear hm5 hb4 hm hg4 hm1 HQ
          by_cases h5 : k5 = 0
          · subst h5
            have hz : X' % Y' = 0 := hkl5.1 rfl
            have HR : Hid (MagN w4 (.slice A' 1 c') (Nat.gcd X Y) L) := Lib.hid (by rw [← HB4.out.2.2.1, hz, Nat.gcd_zero_right]; exact HB4.out.2.1)
            clear hz hkl5
            go_wp2_with fail
            go_ret
            exact ⟨_, rfl, HR.out, HBW.out⟩
          · have g5 : ((k5 : Int) == 0) = false := by simp; omega
            have HLX := Lib.hid (low_one _ Y' w4 (HB4.out.2.1.less (by rw [Nat.pow_one]; exact HY1.out.2)))
            have HLY := Lib.hid (low_one _ (X' % Y') w4 HB4.out.1)
            obtain ⟨rm, hrm⟩ : ∃ r, X' % Y' = r := ⟨_, rfl⟩
            rw [hrm] at HLY
            have HE : Hid (Nat.gcd Y' rm = Nat.gcd X Y ∧ Y' < 18446744073709551616 ∧ rm < 18446744073709551616) := Lib.hid (by
              have h := HB4.out
              rw [hrm] at h
              exact ⟨h.2.2.1, HY1.out.2, by have := HY1.out.2; omega⟩)
            clear hrm hkl5
            go_wp2_with fail
            refine (HLX.out).mono ?_
            rintro e w7 ⟨rfl, rfl⟩
            go_wp2_with fail
            refine (HLY.out).mono ?_
            rintro e w7 ⟨rfl, rfl⟩
            go_wp2_with fail
            go_loopw [11, 12] (fun av bv wx => ∃ a b i : Nat, av = .int .u64 (a : Int) ∧ bv = .int .u64 (b : Int) ∧ Hid (Nat.gcd a b = Nat.gcd X Y ∧ a < 18446744073709551616 ∧ b < 18446744073709551616) ∧ w4.drewN i = wx) (fun _ bv _ => (intOf bv).toNat)
            case atStart => exact ⟨Y', rm, 0, rfl, rfl, HE, rfl⟩
            case round =>
              clear HE
              obtain ⟨a, b, i, rfl, rfl, hh, rfl⟩ := hrel
              by_cases hb : b = 0
              · subst hb
                have HW := Lib.hid (word_any a (w4.drewN i) hh.out.2.1)
                go_wp2_with fail
                refine HW.out.mono ?_
                rintro e w3 ⟨x, rfl, hx, hbx⟩
                have HX := Lib.hid (And.intro (hx.more HLL.out.2) (show Below w.heap.size w w3 from onto HBW.out ((below_dN (Below.refl _ _) i).trans hbx)))
                obtain ⟨A3, k3, c3, rfl⟩ := hx.slice
                clear hx hbx
                go_wp2_with fail
                go_ret
                exact ⟨_, rfl, by have h := hh.out.1; rw [Nat.gcd_zero_right] at h; rw [← h]; exact HX.out.1, HX.out.2⟩
              · have hb0 : (0 : Int) < (b : Int) := by omega
                have hb1 : ¬ (b : Int) = 0 := by omega
                obtain ⟨r, hr⟩ : ∃ r, a % b = r := ⟨_, rfl⟩
                have hmod : (a : Int) % (b : Int) = (r : Int) := by rw [← hr]; rfl
                have hrl : r < b := by rw [← hr]; exact Nat.mod_lt _ (by omega)
                have HR := Lib.hid hr
                clear hr
                go_wp2_with fail
                go_quiet (fail)
                go_wp2_with fail
                go_roundw
                case rel =>
                  refine ⟨b, r, _, rfl, by simp [hmod], Lib.hid ⟨?_, hh.out.2.2, by have := hh.out.2.2; omega⟩, (World.drewN_drewN _ _ _).symm⟩
                  rw [← HR.out, ← hh.out.1, Nat.gcd_comm b, ← Nat.gcd_rec, Nat.gcd_comm]
                case measure => simp [intOf, hmod]; omega
        · obtain rfl : k = 1 := by
            rcases Nat.eq_zero_or_pos k with q | q
            · have := hkl.1 q; omega
            · omega
          have hX64 := mag_one hx
          have HLX := Lib.hid (low_one _ X' wr (hx.less (by rw [Nat.pow_one]; exact hX64)))
          have HLY := Lib.hid (low_one _ Y' wr (hy.less (by rw [Nat.pow_one]; exact hY64)))
          have HE : Hid (Nat.gcd X' Y' = Nat.gcd X Y ∧ X' < 18446744073709551616 ∧ Y' < 18446744073709551616) := Lib.hid ⟨hg, hX64, hY64⟩
          clear hx hy hxy hg hgk hbl hkl hkl' hY0 hY64 hX64 HH hh h2
          go_wp2_with fail
          refine (HLX.out).mono ?_
          rintro e w7 ⟨rfl, rfl⟩
          go_wp2_with fail
          refine (HLY.out).mono ?_
          rintro e w7 ⟨rfl, rfl⟩
          go_wp2_with fail
          go_loopw [11, 12] (fun av bv wx => ∃ a b i : Nat, av = .int .u64 (a : Int) ∧ bv = .int .u64 (b : Int) ∧ Hid (Nat.gcd a b = Nat.gcd X Y ∧ a < 18446744073709551616 ∧ b < 18446744073709551616) ∧ wr.drewN i = wx) (fun _ bv _ => (intOf bv).toNat)
          case atStart => exact ⟨X', Y', 0, rfl, rfl, HE, rfl⟩
          case round =>
            clear HE
            obtain ⟨a, b, i, rfl, rfl, hh, rfl⟩ := hrel
            by_cases hb : b = 0
            · subst hb
              have HW := Lib.hid (word_any a (wr.drewN i) hh.out.2.1)
              go_wp2_with fail
              refine HW.out.mono ?_
              rintro e w3 ⟨x, rfl, hx, hbx⟩
              have HX := Lib.hid (And.intro (hx.more HLL.out.2) (show Below w.heap.size w w3 from onto HBW.out ((below_dN (Below.refl _ _) i).trans hbx)))
              obtain ⟨A3, k3, c3, rfl⟩ := hx.slice
              clear hx hbx
              go_wp2_with fail
              go_ret
              exact ⟨_, rfl, by have h := hh.out.1; rw [Nat.gcd_zero_right] at h; rw [← h]; exact HX.out.1, HX.out.2⟩
            · have hb0 : (0 : Int) < (b : Int) := by omega
              have hb1 : ¬ (b : Int) = 0 := by omega
              obtain ⟨r, hr⟩ : ∃ r, a % b = r := ⟨_, rfl⟩
              have hmod : (a : Int) % (b : Int) = (r : Int) := by rw [← hr]; rfl
              have hrl : r < b := by rw [← hr]; exact Nat.mod_lt _ (by omega)
              have HR := Lib.hid hr
              clear hr
              go_wp2_with fail
              go_quiet (fail)
              go_wp2_with fail
              go_roundw
              case rel =>
                refine ⟨b, r, _, rfl, by simp [hmod], Lib.hid ⟨?_, hh.out.2.2, by have := hh.out.2.2; omega⟩, (World.drewN_drewN _ _ _).symm⟩
                rw [← HR.out, ← hh.out.1, Nat.gcd_comm b, ← Nat.gcd_rec, Nat.gcd_comm]
              case measure => simp [intOf, hmod]; omega

set_option maxRecDepth 8000 in
set_option maxHeartbeats 8000000 in
theorem divisor_lt (u v : Value) (X Y L : Nat) (w : World) (hu : MagN w u X L) (hv : MagN w v Y L) (hle : X < Y) (hL : L ≤ 16777216) (hL1 : 1 ≤ L) :
    Calls Tryz.prog 156 #[u, v] w (Num w (Nat.gcd X Y) L) := by
  have HCM := Lib.hid (compare_any u v X Y L w hu hv (by omega))
  have hcmp : cmpN X Y < 0 := by unfold cmpN; rw [if_pos hle]; omega
  obtain ⟨cq, hcq⟩ : ∃ q, cmpN X Y = q := ⟨_, rfl⟩
  rw [hcq] at HCM hcmp
  obtain ⟨A1, k1, c1, rfl⟩ := hu.slice
  obtain ⟨A2, k2, c2, rfl⟩ := hv.slice
  have HLL := Lib.hid (And.intro hL hL1)
  have H0 : Hid (∀ j, DivSt w (w.drewN j) X Y L (X + Y) (.slice A2 k2 c2) (.slice A1 k1 c1)) := Lib.hid (fun j => ⟨Y, X, (show MagN (w.drewN j) _ _ L from hv), (show MagN (w.drewN j) _ _ L from hu), Nat.le_of_lt hle, Nat.gcd_comm _ _, by omega, below_dN (Below.refl _ _) j⟩)
  clear hcq hu hv hle hL hL1
  go_enter Tryz.func156, Tryz.ntmps156
  go_wp2_with fail
  refine HCM.out.mono ?_
  rintro e w1 ⟨rfl, j, rfl⟩
  go_wp2_with fail
  go_loopg [0, 1] (X + Y) (fun gk xv yv wr => ∃ (A : Option Addr) (k c : Nat) (A' : Option Addr) (k' c' : Nat), xv = .slice A k c ∧ yv = .slice A' k' c' ∧ Hid (DivSt w wr X Y L gk (.slice A k c) (.slice A' k' c')))
  case atStart => exact ⟨A2, k2, c2, A1, k1, c1, rfl, rfl, Lib.hid (H0.out j)⟩
  case round =>
    clear H0 HCM
    obtain ⟨A, k, c, A', k', c', rfl, rfl, hh⟩ := hrel
    obtain ⟨X', Y', hx, hy, hxy, hg, hgk, hbl⟩ := hh.out
    have HH := Lib.hid (And.intro hx (And.intro hy (And.intro hxy (And.intro hg (And.intro hgk hbl)))))
    have hkl := hx.len
    have hkl' := hy.len
    have hkb : (k : Int) ≤ 16777216 := by have := HLL.out; omega
    have hkb' : (k' : Int) ≤ 16777216 := by have := HLL.out; omega
    by_cases h1 : 1 < k'
    · have g1 : (1 : Int) < (k' : Int) := by omega
      have hY64 : 18446744073709551616 ≤ Y' := mag_two hy h1
      have hX64 : 18446744073709551616 ≤ X' := by omega
      have hbx := blen_spec (X := X') (by omega)
      have hb65 : 64 < blen X' := by
        rcases Nat.lt_or_ge 64 (blen X') with q | q
        · exact q
        · exfalso
          have : 2 ^ blen X' ≤ 2 ^ 64 := Nat.pow_le_pow_right (by omega) q
          have := hbx.2.2
          omega
      have hblen : blen X' ≤ 64 * L := by
        refine blen_le ?_
        rw [← pow64]
        exact mag_lt hx
      obtain ⟨F, hF⟩ : ∃ F, blen X' = F + 64 := ⟨blen X' - 64, by omega⟩
      have HLN := Lib.hid (length_any _ X' L wr hx (by have := HLL.out; omega))
      rw [hF] at HLN
      have hFb : (F : Int) ≤ 1099511627776 := by have := HLL.out; omega
      have hFe : ((F + 64 : Nat) : Int) - 64 = (F : Int) := by omega
      have HT1 := Lib.hid (top_any _ X' F L wr hx (by omega))
      have HT2 := Lib.hid (top_any _ Y' F L wr hy (by omega))
      have htx : X' / 2 ^ F < 18446744073709551616 := by
        refine (Nat.div_lt_iff_lt_mul (Nat.pow_pos (by omega))).2 ?_
        have h := hbx.2.2
        rw [hF, Nat.pow_add, Nat.mul_comm] at h
        exact h
      have hty : Y' / 2 ^ F ≤ X' / 2 ^ F := Nat.div_le_div_right hxy
      rw [Nat.mod_eq_of_lt htx] at HT1
      rw [Nat.mod_eq_of_lt (by omega)] at HT2
      obtain ⟨x0, hx0⟩ : ∃ z, X' / 2 ^ F = z := ⟨_, rfl⟩
      obtain ⟨y0, hy0⟩ : ∃ z, Y' / 2 ^ F = z := ⟨_, rfl⟩
      rw [hx0] at HT1 htx hty
      rw [hy0] at HT2 hty
      have HST := Lib.hid (steps_any x0 y0 wr htx hty)
      have HQ := Lib.hid (quotient_any (.slice A k c) (.slice A' k' c') X' Y' L)
      have HXY := Lib.hid (And.intro hx0 hy0)
      have HBB := Lib.hid hY64
      clear hx hy hxy hg hgk hbl hkl hkl' hY64 hX64 hbx hb65 hblen hF htx hty hx0 hy0
      go_wp2_with fail
      refine HLN.out.mono ?_
      rintro e w2 ⟨rfl, rfl⟩
      go_wp2_with fail
      refine HT1.out.mono ?_
      rintro e w2 ⟨rfl, rfl⟩
      go_wp2_with fail
      refine HT2.out.mono ?_
      rintro e w2 ⟨rfl, rfl⟩
      go_wp2_with fail
      refine HST.out.mono ?_
      rintro e w2 ⟨a, b, c9, d, odd, rfl, hlw, hcm, hb2⟩
      have hA := (Below.refl w2.heap.size w2).alloc (Nat.le_refl _) (.cells #[.int .u64 (a : Int), .int .u64 (b : Int), .int .u64 (c9 : Int), .int .u64 (d : Int), .bool odd] 233)
      have HA := Lib.hid (onto hb2 hA)
      have HN := Lib.hid (com_new w2 a b c9 d odd)
      have HCO := Lib.hid (And.intro hcm hlw)
      clear hlw hcm hb2 hA HST HLN HT1 HT2
      obtain ⟨m0, m1, m2, m3, m4, -⟩ := HN.out.cells
      by_cases hb0 : b = 0
      · subst hb0
        go_wp2_with fail
        generalize w2.alloc (.cells #[.int .u64 (a : Int), .int .u64 ((0 : Nat) : Int), .int .u64 (c9 : Int), .int .u64 (d : Int), .bool odd] 233) = w3 at *
        refine (HQ.out w3 (HH.out.1.below HA.out) (HH.out.2.1.below HA.out) (by have := HBB.out; omega) (by have := HLL.out; omega) HLL.out.2).mono ?_
        rintro e w4 ⟨A4, k4, c4, A5, k5, c5, rfl, -, hm5, hb4⟩
        have HB4 := Lib.hid (onto HA.out hb4)
        have HN4 : Hid (DivSt w w4 X Y L (gk - 1) (.slice A' k' c') (.slice A5 k5 c5)) := Lib.hid (by
          have hY0 : 0 < Y' := by have := HBB.out; omega
          have hm := Nat.mod_lt X' hY0
          refine ⟨Y', X' % Y', HH.out.2.1.below HB4.out, hm5, Nat.le_of_lt hm, ?_, by have := HH.out; omega, onto HH.out.2.2.2.2.2 HB4.out⟩
          rw [← HH.out.2.2.2.1, Nat.gcd_comm Y', ← Nat.gcd_rec, Nat.gcd_comm])
        have hgp : 0 < gk := by have := HH.out.2.2.2.2.1; have := HBB.out; omega
        clear hm5 hb4 m0 m1 m2 m3 m4
        go_wp2_with fail
        go_roundg (gk - 1)
        case measure => omega
        case rel => exact ⟨_, _, _, _, _, _, rfl, rfl, HN4⟩
      · have hbn : ((b : Int) != 0) = true := by simp; omega
        obtain ⟨P, C, p, q, s, t, hst, hqp, hts, hP, hC, haf, hd0, hgc⟩ : ∃ P C p q s t : Nat, (if odd = true then (p = b * Y' ∧ q = a * X' ∧ s = c9 * X' ∧ t = d * Y') else (p = a * X' ∧ q = b * Y' ∧ s = d * Y' ∧ t = c9 * X')) ∧ q ≤ p ∧ t ≤ s ∧ P = p - q ∧ C = s - t ∧ After X' Y' P C a b c9 d ∧ 0 < d ∧ Nat.gcd X' Y' = Nat.gcd P C := by
          have h0 := HCO.out.1
          rw [← HXY.out.1, ← HXY.out.2] at h0
          have hK : 0 < 2 ^ F := Nat.pow_pos (by omega)
          cases odd
          · obtain ⟨a1, a2, a3, a4⟩ := after_even hK h0 hb0
            exact ⟨_, _, a * X', b * Y', d * Y', c9 * X', by simp, a1, a2, rfl, rfl, a3, a4, a3.gcd ⟨a, b, .inl (by omega)⟩ ⟨d, c9, .inl (by omega)⟩⟩
          · obtain ⟨a1, a2, a3, a4⟩ := after_odd hK h0 hb0
            exact ⟨_, _, b * Y', a * X', c9 * X', d * Y', by simp, a1, a2, rfl, rfl, a3, a4, a3.gcd ⟨b, a, .inr (by omega)⟩ ⟨c9, d, .inr (by omega)⟩⟩
        have HAF := Lib.hid (fun W (hW : Below wr.heap.size wr W) => after_any (.slice A k c) (.slice A' k' c') X' Y' L a b c9 d p q s t odd W (HH.out.1.below hW) (HH.out.2.1.below hW) (by have := HLL.out; omega) HCO.out.2 hst hqp hts)
        rw [← hP, ← hC] at HAF
        have HPC := Lib.hid (And.intro haf (And.intro hd0 hgc))
        clear hst hqp hts hP hC haf hd0 hgc
        go_wp2_with fail
        generalize w2.alloc (.cells #[.int .u64 (a : Int), .int .u64 (b : Int), .int .u64 (c9 : Int), .int .u64 (d : Int), .bool odd] 233) = w3 at *
        refine (HAF.out w3 HA.out).mono ?_
        rintro e w4 ⟨A4, k4, c4, A5, k5, c5, rfl, hm4, hm5, hb4⟩
        have hY0 : 0 < Y' := by have := HBB.out; omega
        have hsum := HPC.out.1.sum (by omega) HPC.out.2.1 hY0
        have HN4 : Hid (DivSt w w4 X Y L (gk - 1) (.slice A4 k4 c4) (.slice A5 k5 c5)) := Lib.hid (by
          have hPX : P ≤ X' := by
            have h1 := HPC.out.1.x
            have a1 : 1 * P ≤ d * P := Nat.mul_le_mul_right _ HPC.out.2.1
            omega
          have hXL := mag_lt HH.out.1
          have hCP := HPC.out.1.le
          refine ⟨P, C, hm4.less (by omega), hm5.less (by omega), hCP, HPC.out.2.2.symm.trans HH.out.2.2.2.1, by have := HH.out.2.2.2.2.1; omega, onto HH.out.2.2.2.2.2 (onto HA.out hb4)⟩)
        have hgp : 0 < gk := by have := HH.out.2.2.2.2.1; omega
        clear hm4 hm5 hb4 m0 m1 m2 m3 m4 hsum hY0
        go_wp2_with fail
        go_roundg (gk - 1)
        case measure => omega
        case rel => exact ⟨_, _, _, _, _, _, rfl, rfl, HN4⟩
    · have g1 : ¬ (1 : Int) < (k' : Int) := by omega
      have HBW := Lib.hid hbl
      by_cases h0 : k' = 0
      · subst h0
        have hz : Y' = 0 := hkl'.1 rfl
        have HR : Hid (MagN wr (.slice A k c) (Nat.gcd X Y) L) := Lib.hid (by rw [← hg, hz, Nat.gcd_zero_right]; exact hx)
        clear hx hy hxy hg hgk hbl hkl hkl' hz
        go_wp2_with fail
        go_ret
        exact ⟨_, rfl, HR.out, HBW.out⟩
      · obtain rfl : k' = 1 := by omega
        have hY0 : 0 < Y' := by have := hkl'.2.1 (by omega); omega
        have hY64 := mag_one hy
        by_cases h2 : 1 < k
        · have g2 : (1 : Int) < (k : Int) := by omega
          have HQ := Lib.hid (quotient_any _ _ X' Y' L wr hx hy hY0 (by have := HLL.out; omega) HLL.out.2)
          have HY1 := Lib.hid (And.intro hY0 hY64)
          clear hx hy hxy hg hgk hbl hkl hkl' hY0 hY64
          go_wp2_with fail
          refine HQ.out.mono ?_
          rintro e w4 ⟨A4, k4, c4, A5, k5, c5, rfl, -, hm5, hb4⟩
          have hm := Nat.mod_lt X' HY1.out.1
          have hg4 : Nat.gcd Y' (X' % Y') = Nat.gcd X Y := by rw [← HH.out.2.2.2.1, Nat.gcd_comm Y', ← Nat.gcd_rec, Nat.gcd_comm]
          have hm1 := hm5.less (L' := 1) (by rw [Nat.pow_one]; have := HY1.out.2; omega)
          have hkl5 := hm1.len
          have HB4 := Lib.hid (And.intro hm1 (And.intro (HH.out.2.1.below hb4) (And.intro hg4 hm)))
          have HBW := Lib.hid (onto HBW.out hb4)
          clear hm5 hb4 hm hg4 hm1 HQ
          by_cases h5 : k5 = 0
          · subst h5
            have hz : X' % Y' = 0 := hkl5.1 rfl
            have HR : Hid (MagN w4 (.slice A' 1 c') (Nat.gcd X Y) L) := Lib.hid (by rw [← HB4.out.2.2.1, hz, Nat.gcd_zero_right]; exact HB4.out.2.1)
            clear hz hkl5
            go_wp2_with fail
            go_ret
            exact ⟨_, rfl, HR.out, HBW.out⟩
          · have g5 : ((k5 : Int) == 0) = false := by simp; omega
            have HLX := Lib.hid (low_one _ Y' w4 (HB4.out.2.1.less (by rw [Nat.pow_one]; exact HY1.out.2)))
            have HLY := Lib.hid (low_one _ (X' % Y') w4 HB4.out.1)
            obtain ⟨rm, hrm⟩ : ∃ r, X' % Y' = r := ⟨_, rfl⟩
            rw [hrm] at HLY
            have HE : Hid (Nat.gcd Y' rm = Nat.gcd X Y ∧ Y' < 18446744073709551616 ∧ rm < 18446744073709551616) := Lib.hid (by
              have h := HB4.out
              rw [hrm] at h
              exact ⟨h.2.2.1, HY1.out.2, by have := HY1.out.2; omega⟩)
            clear hrm hkl5
            go_wp2_with fail
            refine (HLX.out).mono ?_
            rintro e w7 ⟨rfl, rfl⟩
            go_wp2_with fail
            refine (HLY.out).mono ?_
            rintro e w7 ⟨rfl, rfl⟩
            go_wp2_with fail
            go_loopw [11, 12] (fun av bv wx => ∃ a b i : Nat, av = .int .u64 (a : Int) ∧ bv = .int .u64 (b : Int) ∧ Hid (Nat.gcd a b = Nat.gcd X Y ∧ a < 18446744073709551616 ∧ b < 18446744073709551616) ∧ w4.drewN i = wx) (fun _ bv _ => (intOf bv).toNat)
            case atStart => exact ⟨Y', rm, 0, rfl, rfl, HE, rfl⟩
            case round =>
              clear HE
              obtain ⟨a, b, i, rfl, rfl, hh, rfl⟩ := hrel
              by_cases hb : b = 0
              · subst hb
                have HW := Lib.hid (word_any a (w4.drewN i) hh.out.2.1)
                go_wp2_with fail
                refine HW.out.mono ?_
                rintro e w3 ⟨x, rfl, hx, hbx⟩
                have HX := Lib.hid (And.intro (hx.more HLL.out.2) (show Below w.heap.size w w3 from onto HBW.out ((below_dN (Below.refl _ _) i).trans hbx)))
                obtain ⟨A3, k3, c3, rfl⟩ := hx.slice
                clear hx hbx
                go_wp2_with fail
                go_ret
                exact ⟨_, rfl, by have h := hh.out.1; rw [Nat.gcd_zero_right] at h; rw [← h]; exact HX.out.1, HX.out.2⟩
              · have hb0 : (0 : Int) < (b : Int) := by omega
                have hb1 : ¬ (b : Int) = 0 := by omega
                obtain ⟨r, hr⟩ : ∃ r, a % b = r := ⟨_, rfl⟩
                have hmod : (a : Int) % (b : Int) = (r : Int) := by rw [← hr]; rfl
                have hrl : r < b := by rw [← hr]; exact Nat.mod_lt _ (by omega)
                have HR := Lib.hid hr
                clear hr
                go_wp2_with fail
                go_quiet (fail)
                go_wp2_with fail
                go_roundw
                case rel =>
                  refine ⟨b, r, _, rfl, by simp [hmod], Lib.hid ⟨?_, hh.out.2.2, by have := hh.out.2.2; omega⟩, (World.drewN_drewN _ _ _).symm⟩
                  rw [← HR.out, ← hh.out.1, Nat.gcd_comm b, ← Nat.gcd_rec, Nat.gcd_comm]
                case measure => simp [intOf, hmod]; omega
        · obtain rfl : k = 1 := by
            rcases Nat.eq_zero_or_pos k with q | q
            · have := hkl.1 q; omega
            · omega
          have hX64 := mag_one hx
          have HLX := Lib.hid (low_one _ X' wr (hx.less (by rw [Nat.pow_one]; exact hX64)))
          have HLY := Lib.hid (low_one _ Y' wr (hy.less (by rw [Nat.pow_one]; exact hY64)))
          have HE : Hid (Nat.gcd X' Y' = Nat.gcd X Y ∧ X' < 18446744073709551616 ∧ Y' < 18446744073709551616) := Lib.hid ⟨hg, hX64, hY64⟩
          clear hx hy hxy hg hgk hbl hkl hkl' hY0 hY64 hX64 HH hh h2
          go_wp2_with fail
          refine (HLX.out).mono ?_
          rintro e w7 ⟨rfl, rfl⟩
          go_wp2_with fail
          refine (HLY.out).mono ?_
          rintro e w7 ⟨rfl, rfl⟩
          go_wp2_with fail
          go_loopw [11, 12] (fun av bv wx => ∃ a b i : Nat, av = .int .u64 (a : Int) ∧ bv = .int .u64 (b : Int) ∧ Hid (Nat.gcd a b = Nat.gcd X Y ∧ a < 18446744073709551616 ∧ b < 18446744073709551616) ∧ wr.drewN i = wx) (fun _ bv _ => (intOf bv).toNat)
          case atStart => exact ⟨X', Y', 0, rfl, rfl, HE, rfl⟩
          case round =>
            clear HE
            obtain ⟨a, b, i, rfl, rfl, hh, rfl⟩ := hrel
            by_cases hb : b = 0
            · subst hb
              have HW := Lib.hid (word_any a (wr.drewN i) hh.out.2.1)
              go_wp2_with fail
              refine HW.out.mono ?_
              rintro e w3 ⟨x, rfl, hx, hbx⟩
              have HX := Lib.hid (And.intro (hx.more HLL.out.2) (show Below w.heap.size w w3 from onto HBW.out ((below_dN (Below.refl _ _) i).trans hbx)))
              obtain ⟨A3, k3, c3, rfl⟩ := hx.slice
              clear hx hbx
              go_wp2_with fail
              go_ret
              exact ⟨_, rfl, by have h := hh.out.1; rw [Nat.gcd_zero_right] at h; rw [← h]; exact HX.out.1, HX.out.2⟩
            · have hb0 : (0 : Int) < (b : Int) := by omega
              have hb1 : ¬ (b : Int) = 0 := by omega
              obtain ⟨r, hr⟩ : ∃ r, a % b = r := ⟨_, rfl⟩
              have hmod : (a : Int) % (b : Int) = (r : Int) := by rw [← hr]; rfl
              have hrl : r < b := by rw [← hr]; exact Nat.mod_lt _ (by omega)
              have HR := Lib.hid hr
              clear hr
              go_wp2_with fail
              go_quiet (fail)
              go_wp2_with fail
              go_roundw
              case rel =>
                refine ⟨b, r, _, rfl, by simp [hmod], Lib.hid ⟨?_, hh.out.2.2, by have := hh.out.2.2; omega⟩, (World.drewN_drewN _ _ _).symm⟩
                rw [← HR.out, ← hh.out.1, Nat.gcd_comm b, ← Nat.gcd_rec, Nat.gcd_comm]
              case measure => simp [intOf, hmod]; omega

/-- divisor: of any numbers -/
theorem divisor_any (u v : Value) (X Y L : Nat) (w : World) (hu : MagN w u X L) (hv : MagN w v Y L) (hL : L ≤ 16777216) (hL1 : 1 ≤ L) :
    Calls Tryz.prog 156 #[u, v] w (Num w (Nat.gcd X Y) L) := by
  rcases Nat.lt_or_ge X Y with h | h
  · exact divisor_lt u v X Y L w hu hv h hL hL1
  · exact divisor_ge u v X Y L w hu hv h hL hL1
end Go.Proofs.YtbidlkmagbjllaaGreatDoor.Nb

namespace Go.Proofs.YtbidlkmagbjllaaGreatDoor.Nb
open Go Go.RowKit

def PowL (w : World) (vz vx : Value) (n T L : Nat) (wr : World) : Prop :=
  ∃ a b, MagN wr vz a L ∧ MagN wr vx b L ∧ 0 < a ∧ 0 < b ∧ a * b ^ n = T ∧ Below w.heap.size w wr

set_option maxRecDepth 8000 in
set_option maxHeartbeats 2000000 in
theorem power_any (u : Value) (m n L : Nat) (w : World) (hu : MagN w u m L) (hm : 0 < m) (hn : n < 18446744073709551616) (hT : m ^ n < 18446744073709551616 ^ L) (hL : L ≤ 268435456) (hL1 : 1 ≤ L) :
    Calls Tryz.prog 193 #[u, .int .u64 (n : Int)] w (Num w (m ^ n) L) := by
  obtain ⟨A0, k0, c0, rfl⟩ := hu.slice
  obtain ⟨T, hTe⟩ : ∃ T, m ^ n = T := ⟨_, rfl⟩
  rw [hTe] at hT ⊢
  have HA := Lib.hid ((Below.refl w.heap.size w).alloc (Nat.le_refl _) (.cells #[.int .u64 ((1 : Nat) : Int)] 74))
  have H0 : Hid (PowL w (.slice (some ⟨w.heap.size, 0, none⟩) 1 1) (.slice A0 k0 c0) n T L (w.alloc (.cells #[.int .u64 ((1 : Nat) : Int)] 74))) := Lib.hid
    ⟨1, m, ⟨[1], Mag.one w 1 (by omega) _, .inr (by simp), by simp [val], by simpa using hL1⟩, hu.below HA.out, by omega, hm, by rw [Nat.one_mul]; exact hTe, HA.out⟩
  have HT := Lib.hid hT
  clear hu hTe hT hm
  go_enter Tryz.func193, Tryz.ntmps193
  go_wp2_with fail
  go_loopw [5, 0, 1] (fun xz xx vn wr => ∃ (nn : Nat) (vz vx : Value), xz = vz ∧ xx = vx ∧ nn < 18446744073709551616 ∧ vn = .int .u64 (nn : Int) ∧ Hid (PowL w vz vx nn T L wr)) (fun _ _ vn _ => (intOf vn).toNat)
  case atStart => exact ⟨n, _, _, rfl, rfl, hn, rfl, H0⟩
  case round =>
    obtain ⟨nn, vz, vx, rfl, rfl, hnn, rfl, hp⟩ := hrel
    obtain ⟨a, b, hz, hx, ha, hb, hT2, hbel⟩ := hp.out
    by_cases h0 : nn = 0
    · subst h0
      have HR := Lib.hid (And.intro (show MagN wr u5 T L by rw [← hT2, Nat.pow_zero, Nat.mul_one]; exact hz) hbel)
      clear hz hx ha hb hT2 hbel hp
      go_wp2_with fail
      go_ret
      exact ⟨_, rfl, HR.out.1, HR.out.2⟩
    · have hand : bits .and .u64 (nn : Int) 1 = (nn : Int) % 2 := and_one_u64 (nn : Int) (by omega) (by omega)
      obtain ⟨q, hq⟩ : ∃ q, nn / 2 = q := ⟨_, rfl⟩
      have hsh : (nn : Int) / 2 = (q : Int) := by omega
      have HQ := Lib.hid hq
      clear hq
      have hpos : (0 : Int) < (nn : Int) := by omega
      by_cases ho : nn % 2 = 1
      · have hm2 : (nn : Int) % 2 = 1 := by omega
        by_cases hb1 : 1 < nn
        · have hb1' : (1 : Int) < (nn : Int) := by omega
          have HM := Lib.hid (times_mag u5 u0 a b L L wr hz hx (by omega) (by omega))
          have HS := Lib.hid (And.intro hz (And.intro hx (And.intro ha (And.intro hb (And.intro hT2 hbel)))))
          clear hz hx ha hb hT2 hbel hp
          go_wp2_with fail
          refine HM.out.mono ?_
          rintro e w2 ⟨z2, rfl, hz2, hb2⟩
          have HZ := Lib.hid (And.intro (show MagN w2 z2 (a * b) L from hz2.less (by exact Nat.lt_of_le_of_lt (pow_le1 HS.out.2.2.2.2.1 (by omega)) HT.out)) (And.intro (HS.out.2.1.below hb2) (HS.out.2.2.2.2.2.trans (hb2.mono HS.out.2.2.2.2.2.size))))
          clear hz2 hb2
          have HX := Lib.hid (times_mag u0 u0 b b L L w2 HZ.out.2.1 HZ.out.2.1 (by omega) (by omega))
          go_wp2_with fail
          refine HX.out.mono ?_
          rintro e w3 ⟨x3, rfl, hx3, hb3⟩
          have HY := Lib.hid (And.intro (show MagN w3 x3 (b * b) L from hx3.less (by exact Nat.lt_of_le_of_lt (pow_le2 HS.out.2.2.2.2.1 HS.out.2.2.1 HS.out.2.2.2.1 (by omega)) HT.out)) (And.intro (HZ.out.1.below hb3) (HZ.out.2.2.trans (hb3.mono HZ.out.2.2.size))))
          clear hx3 hb3
          go_wp2_with fail
          go_roundw
          case rel => exact ⟨q, _, _, rfl, rfl, by have := HQ.out; omega, rfl, by rw [← HQ.out]; exact Lib.hid ⟨(a * b), b * b, HY.out.2.1, HY.out.1, Nat.mul_pos HS.out.2.2.1 HS.out.2.2.2.1, Nat.mul_pos HS.out.2.2.2.1 HS.out.2.2.2.1, pow_odd HS.out.2.2.2.2.1 (by omega), HY.out.2.2⟩⟩
          case measure => have := HQ.out; simp [intOf]; omega
        · have hb1' : ¬ (1 : Int) < (nn : Int) := by omega
          have HM := Lib.hid (times_mag u5 u0 a b L L wr hz hx (by omega) (by omega))
          have HS := Lib.hid (And.intro hz (And.intro hx (And.intro ha (And.intro hb (And.intro hT2 hbel)))))
          clear hz hx ha hb hT2 hbel hp
          go_wp2_with fail
          refine HM.out.mono ?_
          rintro e w2 ⟨z2, rfl, hz2, hb2⟩
          have HZ := Lib.hid (And.intro (show MagN w2 z2 (a * b) L from hz2.less (by exact Nat.lt_of_le_of_lt (pow_le1 HS.out.2.2.2.2.1 (by omega)) HT.out)) (And.intro (HS.out.2.1.below hb2) (HS.out.2.2.2.2.2.trans (hb2.mono HS.out.2.2.2.2.2.size))))
          clear hz2 hb2
          go_wp2_with fail
          go_roundw
          case rel => exact ⟨q, _, _, rfl, rfl, by have := HQ.out; omega, rfl, by rw [← HQ.out]; exact Lib.hid ⟨(a * b), b, HZ.out.1, HZ.out.2.1, Nat.mul_pos HS.out.2.2.1 HS.out.2.2.2.1, HS.out.2.2.2.1, by have h := HS.out.2.2.2.2.1; rw [show nn = 1 by omega] at h ⊢; simpa using h, HZ.out.2.2⟩⟩
          case measure => have := HQ.out; simp [intOf]; omega
      · have hm2 : (nn : Int) % 2 = 0 := by omega
        have hb1 : 1 < nn := by omega
        have hb1' : (1 : Int) < (nn : Int) := by omega
        have HS := Lib.hid (And.intro hz (And.intro hx (And.intro ha (And.intro hb (And.intro hT2 hbel)))))
        clear hz hx ha hb hT2 hbel hp
        go_wp2_with fail
        have HX := Lib.hid (times_mag u0 u0 b b L L wr HS.out.2.1 HS.out.2.1 (by omega) (by omega))
        refine HX.out.mono ?_
        rintro e w3 ⟨x3, rfl, hx3, hb3⟩
        have HY := Lib.hid (And.intro (show MagN w3 x3 (b * b) L from hx3.less (by exact Nat.lt_of_le_of_lt (pow_le2 HS.out.2.2.2.2.1 HS.out.2.2.1 HS.out.2.2.2.1 (by omega)) HT.out)) (And.intro (HS.out.1.below hb3) (HS.out.2.2.2.2.2.trans (hb3.mono HS.out.2.2.2.2.2.size))))
        clear hx3 hb3
        go_wp2_with fail
        go_roundw
        case rel => exact ⟨q, _, _, rfl, rfl, by have := HQ.out; omega, rfl, by rw [← HQ.out]; exact Lib.hid ⟨a, b * b, HY.out.2.1, HY.out.1, HS.out.2.2.1, Nat.mul_pos HS.out.2.2.2.1 HS.out.2.2.2.1, pow_even HS.out.2.2.2.2.1 (by omega), HY.out.2.2⟩⟩
        case measure => have := HQ.out; simp [intOf]; omega
end Go.Proofs.YtbidlkmagbjllaaGreatDoor.Nb

namespace Go.Proofs.YtbidlkmagbjllaaGreatDoor.Nb
open Go Go.RowKit

theorem ten_words {j k : Nat} (h : j ≤ k) : 10 ^ j < 18446744073709551616 ^ (k + 1) := by
  have h1 : 10 ^ j ≤ 18446744073709551616 ^ j := Nat.pow_le_pow_left (by omega) _
  have h2 : 18446744073709551616 ^ j ≤ 18446744073709551616 ^ k := Nat.pow_le_pow_right (by omega) h
  have h3 : 0 < 18446744073709551616 ^ k := Nat.pow_pos (by omega)
  rw [Nat.pow_succ]
  omega
def ReadW (w wr : World) (s : ByteArray) (x : Value) (X j kk nn zz : Nat) : Prop :=
  MagN wr x X (s.size + 1) ∧ decN (s.data.toList.take j) = X * zz + nn ∧ 10 ^ kk = zz ∧ Below w.heap.size w wr

set_option maxRecDepth 8000 in
set_option maxHeartbeats 4000000 in
theorem read_any (s : ByteArray) (w : World) (h0 : 0 < s.size) (hs : s.size ≤ 1000000) (hd : ∀ b ∈ s.data.toList, 48 ≤ b.toNat ∧ b.toNat ≤ 57) :
    Calls Tryz.prog 100 #[.string s, .int .i64 10] w fun e w' => ∃ v, e = .returned (.tuple #[v, .bool true]) ∧ MagN w' v (decN s.data.toList) (s.size + 1) ∧ Below w.heap.size w w' := by
  have HU := Lib.hid (unit_ten w)
  have HD := Lib.hid hd
  have hne : s.toList.isEmpty = false := by
    rw [Lib.toList_data]
    have h1 : s.data.toList.length = s.size := by simp
    match hq : s.data.toList with
    | [] => rw [hq] at h1; simp at h1; omega
    | _ :: _ => rfl
  have HDL : Hid (∀ j, j ≤ s.size → decN (s.data.toList.take j) < 18446744073709551616 ^ (s.size + 1)) := Lib.hid (fun j hj => by
    have h1 := decN_lt (s.data.toList.take j) (fun b hb => hd b (List.mem_of_mem_take hb))
    have h2 : (s.data.toList.take j).length = j := by simp; omega
    rw [h2] at h1
    exact Nat.lt_trans h1 (ten_words hj))
  clear hd
  go_enter Tryz.func100, Tryz.ntmps100
  go_wp2_with fail
  refine HU.out.mono ?_
  rintro e w1 ⟨rfl, rfl⟩
  go_wp2_with fail
  go_loopw [6, 9, 10, 11, 23] (fun x n z k i wr => ∃ (j kk nn zz X : Nat) (A : Option Addr) (kx cx : Nat), j ≤ s.size ∧ x = .slice A kx cx ∧ n = .int .u64 (nn : Int) ∧ z = .int .u64 (zz : Int) ∧ k = .int .i64 (kk : Int) ∧ i = .int .i64 (j : Int) ∧ (nn < zz ∧ kk ≤ 18) ∧ Hid (ReadW w1 wr s (.slice A kx cx) X j kk nn zz)) (fun _ _ _ _ i _ => s.size - (intOf i).toNat)
  case atStart => exact ⟨0, 0, 0, 1, 0, none, 0, 0, Nat.zero_le _, rfl, rfl, rfl, rfl, rfl, by omega, Lib.hid ⟨zero_in _ _, by simp [decN], rfl, Below.refl _ _⟩⟩
  case round =>
    obtain ⟨j, kk, nn, zz, X, A, kx, cx, hj, rfl, rfl, rfl, rfl, rfl, ⟨hnz, hkk⟩, hh⟩ := hrel
    have hz19 : zz ≤ 1000000000000000000 := by
      rw [← hh.out.2.2.1]
      exact Nat.pow_le_pow_right (by omega) hkk
    by_cases hlt : j < s.size
    · have hbd := HD.out s[j] (by simp [ByteArray.getElem_eq_getElem_data])
      have HN : Hid (decN (s.data.toList.take (j + 1)) = X * (zz * 10) + (nn * 10 + (s[j].toNat - 48))) := Lib.hid (by rw [take_snoc s j hlt, decN_snoc, hh.out.2.1, Nat.add_mul, Nat.mul_assoc]; omega)
      have HZ : Hid (10 ^ (kk + 1) = zz * 10) := Lib.hid (by rw [Nat.pow_succ, hh.out.2.2.1])
      have hb0 : (48 : Int) ≤ (s[j].toNat : Int) := by omega
      have hb1 : (s[j].toNat : Int) ≤ 57 := by omega
      obtain ⟨n2, hn2⟩ : ∃ n2, nn * 10 + (s[j].toNat - 48) = n2 := ⟨_, rfl⟩
      have hnI : (nn : Int) * 10 + ((s[j].toNat : Int) - 48) = (n2 : Int) := by omega
      have hn2l : n2 < zz * 10 := by omega
      obtain ⟨z2, hz2⟩ : ∃ z2, zz * 10 = z2 := ⟨_, rfl⟩
      have hzI : (zz : Int) * 10 = (z2 : Int) := by omega
      rw [hn2, hz2] at HN
      rw [hz2] at HZ
      by_cases h19 : kk = 18
      · subst h19
        have HM := Lib.hid (many_any _ X z2 n2 (s.size + 1) wr hh.out.1 (by omega) (by omega) (by omega))
        go_wp2_with fail
        refine HM.out.mono ?_
        rintro e w2 ⟨x, rfl, hx, hbx⟩
        obtain ⟨A2, k2, c2, rfl⟩ := hx.slice
        have HX : Hid (ReadW w1 w2 s (.slice A2 k2 c2) (X * z2 + n2) (j + 1) 0 0 1) := Lib.hid ⟨hx.less (by rw [← HN.out]; exact HDL.out (j + 1) (by omega)), by rw [HN.out]; omega, rfl, onto hh.out.2.2.2 hbx⟩
        clear hx hbx
        go_wp2_with fail
        go_roundw
        case rel => exact ⟨j + 1, 0, 0, 1, X * z2 + n2, A2, k2, c2, by omega, rfl, rfl, rfl, rfl, by go_num, by omega, HX⟩
        case measure => simp [intOf]; omega
      · have hk19 : ((kk : Int) + 1 == 19) = false := by simp; omega
        go_wp2_with fail
        go_roundw
        case rel => exact ⟨j + 1, kk + 1, n2, z2, X, A, kx, cx, by omega, rfl, int_eq (by omega), int_eq (by omega), by go_num, by go_num, by omega, Lib.hid ⟨hh.out.1, HN.out, HZ.out, hh.out.2.2.2⟩⟩
        case measure => simp [intOf]; omega
    · obtain rfl : j = s.size := by omega
      have HMN := Lib.hid (many_any _ X zz nn (s.size + 1) wr hh.out.1 (by omega) (by omega) (by omega))
      go_wp2_with fail
      refine HMN.out.mono ?_
      rintro e w2 ⟨x, rfl, hx, hbx⟩
      have HX := Lib.hid (And.intro hx hbx)
      obtain ⟨A2, k2, c2, rfl⟩ := hx.slice
      clear hx hbx
      go_wp2_with fail
      go_ret2
      have h := hh.out.2.1
      have hl := HDL.out s.size (Nat.le_refl _)
      rw [List.take_of_length_le (by simp)] at h hl
      exact ⟨_, rfl, by rw [h]; exact HX.out.1.less (by rw [← h]; exact hl), onto hh.out.2.2.2 HX.out.2⟩
end Go.Proofs.YtbidlkmagbjllaaGreatDoor.Nb
