/- The reference's Drift and Then. Condition: its table of bytes lies. -/
import Derived.Test.YtiohemofidphjaaDoorPB
import Derived.Test.YtiohemofidphjaaDoorPA
import Derived.Test.YtiohemofidphjaaDoorS10
import Derived.Test.YtiohemofidphjaaDoorQ20

namespace Go.Proofs.YtiohemofidphjaaDoor.Bg
open Go Go.RowKit

theorem redX_one (x : Int) : redX x 1 = x ∧ redY x 1 = 1 := by
  unfold redX redY
  rw [Nat.gcd_one_right]
  exact ⟨Int.ediv_one x, rfl⟩
/-- the reference's steps, with their bounds -/
theorem dri_have {n d m k : Nat} (n1 : n ≤ 1000000000) (d0 : 0 < d) (d1 : d ≤ 1000000000) (m0 : 0 < m) (m1 : m ≤ 1000000000) (k0 : 0 < k) (k1 : k ≤ 1000000000) :
    ∃ (x1 y1 x2 y2 : Nat) (a : Int) (b : Nat) (e : Int) (f : Nat) (G : Int) (H : Nat),
      (redX (n : Int) d = (x1 : Int) ∧ redY (n : Int) d = y1) ∧ (redX (m : Int) k = (x2 : Int) ∧ redY (m : Int) k = y2) ∧ (redX ((x1 : Int) * (y2 : Int)) (y1 * x2) = a ∧ redY ((x1 : Int) * (y2 : Int)) (y1 * x2) = b) ∧
      (redX (a * ((1 : Nat) : Int) - 1 * (b : Int)) (b * 1) = e ∧ redY (a * ((1 : Nat) : Int) - 1 * (b : Int)) (b * 1) = f) ∧ (redX (e * ((1000000000 : Nat) : Int)) (f * 1) = G ∧ redY (e * ((1000000000 : Nat) : Int)) (f * 1) = H) ∧
      (0 < y1 ∧ 0 < x2 ∧ 0 < y2 ∧ 0 < b ∧ 0 < f ∧ 0 < H) ∧ (y1 * x2 < 18446744073709551616 ∧ a.natAbs < 18446744073709551616 ∧ b * 1 < 18446744073709551616 ∧ e.natAbs < 340282366920938463463374607431768211456 ∧ f * 1 < 18446744073709551616) ∧
      G / (H : Int) = driP n d m k / driQ d m := by
  obtain ⟨y1, hy1⟩ : ∃ y, redY (n : Int) d = y := ⟨_, rfl⟩
  obtain ⟨x1, hx1⟩ : ∃ x : Nat, redX (n : Int) d = x := ⟨n / Nat.gcd n d, rfl⟩
  obtain ⟨y2, hy2⟩ : ∃ y, redY (m : Int) k = y := ⟨_, rfl⟩
  obtain ⟨x2, hx2⟩ : ∃ x : Nat, redX (m : Int) k = x := ⟨m / Nat.gcd m k, rfl⟩
  obtain ⟨a, ha⟩ : ∃ a, redX ((x1 : Int) * (y2 : Int)) (y1 * x2) = a := ⟨_, rfl⟩
  obtain ⟨b, hb⟩ : ∃ b, redY ((x1 : Int) * (y2 : Int)) (y1 * x2) = b := ⟨_, rfl⟩
  obtain ⟨e, he⟩ : ∃ e, redX (a * ((1 : Nat) : Int) - 1 * (b : Int)) (b * 1) = e := ⟨_, rfl⟩
  obtain ⟨f, hf⟩ : ∃ f, redY (a * ((1 : Nat) : Int) - 1 * (b : Int)) (b * 1) = f := ⟨_, rfl⟩
  obtain ⟨p1, p2, p3, p4, p5, p6, p7⟩ := dri_steps d0 m0 k0 hx1 hy1 hx2 hy2 ha hb he hf rfl rfl
  have b1 := red_le (n : Int) d d0
  have b2 := red_le (m : Int) k k0
  rw [hx1, hy1] at b1
  rw [hx2, hy2] at b2
  have c1 : y1 * x2 ≤ 1000000000 * 1000000000 := Nat.mul_le_mul (by omega) (by omega)
  have c2 : x1 * y2 ≤ 1000000000 * 1000000000 := Nat.mul_le_mul (by omega) (by omega)
  have c3 : ((x1 : Int) * (y2 : Int)).natAbs ≤ 1000000000 * 1000000000 := by rw [← Int.natCast_mul]; exact c2
  have b3 := red_le ((x1 : Int) * (y2 : Int)) (y1 * x2) (Nat.mul_pos p1 p2)
  have b4 := red_le (a * ((1 : Nat) : Int) - 1 * (b : Int)) (b * 1) (by omega)
  rw [ha, hb] at b3
  rw [he, hf] at b4
  refine ⟨x1, y1, x2, y2, a, b, e, f, _, _, ⟨hx1, hy1⟩, ⟨hx2, hy2⟩, ⟨ha, hb⟩, ⟨he, hf⟩, ⟨rfl, rfl⟩, ⟨p1, p2, p3, p4, p5, p6⟩, ⟨by omega, by omega, by omega, by omega, by omega⟩, p7⟩

theorem Keep4.alloc {x2 w1 : World} {b : Nat} {n d m k : Int} (h : Keep4 x2 b n d m k w1) (hx : b + 2 ≤ x2.heap.size) (o : Obj) : Keep4 x2 b n d m k (w1.alloc o) :=
  h.keep ((Below.refl _ _).alloc (Nat.le_refl _) o) hx
theorem Keep4.drew {x2 w1 : World} {b : Nat} {n d m k : Int} (h : Keep4 x2 b n d m k w1) (hx : b + 2 ≤ x2.heap.size) : Keep4 x2 b n d m k w1.drew :=
  h.keep ((Below.refl _ _).drew) hx
theorem Keep4.keepR {x2 w1 w2 : World} {b g : Nat} {n d m k : Int} (h : Keep4 x2 b n d m k w1) (hb : KeepR w1 w2 g) (hg : b + 2 ≤ g) (hx : b + 2 ≤ x2.heap.size) : Keep4 x2 b n d m k w2 := by
  have hs := h.2.2.2.2.size
  have hB : Below (b + 2) w1 w2 := hb.below _ hg (by omega)
  exact ⟨(hB.cell (by show b < _; omega)).trans h.1, (hB.cell (by show b < _; omega)).trans h.2.1, (hB.cell (by show b + 1 < _; omega)).trans h.2.2.1, (hB.cell (by show b + 1 < _; omega)).trans h.2.2.2.1, h.2.2.2.2.trans hB⟩

set_option maxRecDepth 8000 in
set_option maxHeartbeats 4000000 in
theorem rdrift_any (o n d p m k : Int) (w : World) (hT : Tab w) :
    Calls Tryd.prog 9 #[clk o n d, clk p m k] w fun e w' => e = .returned (.tuple #[.int .i64 (driV o n d p m k), .int .i64 (driE o n d p m k)]) ∧ Below w.heap.size w w' := by
  by_cases kc : Ck.okc o n d = true
  · by_cases kd : Ck.okc p m k = true
    · obtain ⟨n0, n1, d0, d1, o0, o1⟩ := Ck.okc_iff.1 kc
      obtain ⟨m0, m1, k0, k1, p0, p1⟩ := Ck.okc_iff.1 kd
      obtain ⟨nn, rfl⟩ : ∃ i : Nat, n = i := ⟨n.toNat, by omega⟩
      obtain ⟨dd, rfl⟩ : ∃ i : Nat, d = i := ⟨d.toNat, by omega⟩
      obtain ⟨mm, rfl⟩ : ∃ i : Nat, m = i := ⟨m.toNat, by omega⟩
      obtain ⟨kk, rfl⟩ : ∃ i : Nat, k = i := ⟨k.toNat, by omega⟩
      obtain ⟨X1, Y1, X2, Y2, a, b, e, f, G, H, hr1, hr2, hr3, hr4, hr5, hp, hl, hq⟩ := dri_have (n := nn) (d := dd) (m := mm) (k := kk) (by omega) (by omega) (by omega) (by omega) (by omega) (by omega) (by omega)
      have HN1 := Lib.hid (fun W (hW : Tab W) => newRat_any (nn : Int) dd W (by omega) (by omega) (by omega) (by omega) hW)
      have HN2 := Lib.hid (fun W (hW : Tab W) => newRat_any (mm : Int) kk W (by omega) (by omega) (by omega) (by omega) hW)
      rw [hr1.1, hr1.2] at HN1
      rw [hr2.1, hr2.2] at HN2
      have HQ := Lib.hid (fun W t b1 b2 (sa : Slot W ⟨t, 0, none⟩) (sb : Slot W ⟨t, 0 + 2, none⟩) (ha : RatAt W b1 0 (X1 : Int) Y1 2) (hb : RatAt W b2 0 (X2 : Int) Y2 2) (n1 : b1 ≠ t) (n2 : b2 ≠ t) (hW : Tab W) => quoR_any t b1 b2 (X1 : Int) X2 Y1 Y2 W sa sb ha hb n1 n2 hp.1 hp.2.2.1 hp.2.1 hl.1 hW)
      rw [hr3.1, hr3.2] at HQ
      have HR := Lib.hid (And.intro hr4 hr5)
      have HPP := Lib.hid hp
      have HL := Lib.hid hl
      have hv : driV o nn dd p mm kk = wiV (G / (H : Int)) 4611686018427387904 := by rw [hq]; simp [driV, kc, kd]
      have he : driE o nn dd p mm kk = wiE (G / (H : Int)) 4611686018427387904 := by rw [hq]; simp [driE, kc, kd]
      rw [hv, he]
      clear hr1 hr2 hr3 hr4 hr5 hp hl hq hv he
      have C1 := Lib.hid kc
      have C2 := Lib.hid kd
      have h0 := Below.refl ((w.alloc (.cells #[.int .i64 o, .int .i64 nn, .int .i64 dd] 24)).alloc (.cells #[.int .i64 p, .int .i64 mm, .int .i64 kk] 24)).heap.size ((w.alloc (.cells #[.int .i64 o, .int .i64 nn, .int .i64 dd] 24)).alloc (.cells #[.int .i64 p, .int .i64 mm, .int .i64 kk] 24))
      clear kc kd
      unfold clk
      go_enter Tryd.func9, Tryd.ntmps9
      go_wp2_with fail
      refine (keep_in (rcheck_ok _ _ _ _ C1.out) (by assumption)).mono ?_
      rintro e u1 ⟨rfl, hx1⟩
      obtain ⟨hcell1, hfrz1⟩ := bcell hx1
      go_wp2_with fail
      refine (keep_in (rcheck_ok _ _ _ _ C2.out) (by assumption)).mono ?_
      rintro e u2 ⟨rfl, hx2⟩
      obtain ⟨hcell2, hfrz2⟩ := bcell hx2
      go_wp2_with fail
      have hx2s : w.heap.size + 2 ≤ u2.heap.size := by have := hx2.size; simpa using this
      have HX := Lib.hid (below_a2 hx2)
      have HTx := Lib.hid (hT.below HX.out)
      have HC0 : Hid (Keep4 u2 w.heap.size nn dd mm kk u2) := Lib.hid ⟨(hcell2 _ _ (by simp; try omega)).trans (by simp [go_sem]), (hcell2 _ _ (by simp; try omega)).trans (by simp [go_sem]), (hcell2 _ _ (by simp; try omega)).trans (by simp [go_sem]), (hcell2 _ _ (by simp; try omega)).trans (by simp [go_sem]), Below.refl _ _⟩
      have HC := Lib.hid (Keep4.drew HC0.out hx2s)
      have HT0 := Lib.hid hT
      clear hcell1 hcell2 hfrz1 hfrz2 hx1 hx2 h0 C1 C2 hT
      unfold Keep4 at HC
      go_cut [6] (fun r wx => ∃ t : Nat, r = .pointer (some ⟨t, 0, none⟩) ∧ Hid (RatAt wx t 0 a b 4 ∧ Below u2.heap.size u2 wx ∧ w.heap.size ≤ t))
      case first =>
        go_region_held3 (fun w' => w'.cell? ⟨w.heap.size, 1, none⟩ = some (.int .i64 (nn : Int)) ∧ w'.cell? ⟨w.heap.size, 2, none⟩ = some (.int .i64 (dd : Int)) ∧ w'.cell? ⟨w.heap.size + 1, 1, none⟩ = some (.int .i64 (mm : Int)) ∧ w'.cell? ⟨w.heap.size + 1, 2, none⟩ = some (.int .i64 (kk : Int)) ∧ Below (w.heap.size + 2) u2 w')
          (first | exact HC.out | exact Keep4.drew (Keep4.alloc HC0.out hx2s _) hx2s | exact Keep4.keepR (by assumption) HG.out.2.2 hgb hx2s | exact Keep4.alloc (by assumption) hx2s _ | exact Keep4.keep (by assumption) HB2.out hx2s | exact Keep4.keep (by assumption) HB1.out hx2s)
          (first
            | (go_at_call 20; refine (HN1.out _ (by first | exact HTx.out.below (Below.refl _ _).drew | exact HTx.out.below (((Below.refl _ _).alloc (Nat.le_refl _) _).drew))).mono ?_; rintro e W1 ⟨r1, rfl, hr1, hr1', hra, hb1⟩; have HT1 : Hid (Tab W1) := Lib.hid (by first | exact (HTx.out.below (Below.refl _ _).drew).below hb1 | exact (HTx.out.below (((Below.refl _ _).alloc (Nat.le_refl _) _).drew)).below hb1); have BX1 : Hid (Below u2.heap.size u2 W1) := Lib.hid (by first | exact (Below.refl _ _).drew.trans hb1 | exact (((Below.refl _ _).alloc (Nat.le_refl _) _).drew).trans (hb1.mono (by simp))); (try simp [go_sem] at hr1); have HR1 := Lib.hid hra; have HB1 := Lib.hid hb1; have hs1 := BX1.out.size; clear hra hb1 HN1)
            | (go_at_call 20; refine (HN2.out _ (by first | exact HT1.out | exact HT1.out.below ((Below.refl _ _).alloc (Nat.le_refl _) _))).mono ?_; rintro e W2 ⟨r2, rfl, hr2, hr2', hra, hb2⟩; have HT2 : Hid (Tab W2) := Lib.hid (by first | exact HT1.out.below hb2 | exact (HT1.out.below ((Below.refl _ _).alloc (Nat.le_refl _) _)).below hb2); have BX2 : Hid (Below W1.heap.size W1 W2) := Lib.hid (by first | exact hb2 | exact ((Below.refl _ _).alloc (Nat.le_refl _) _).trans (hb2.mono (by simp))); (try simp [go_sem] at hr2); have HR2 := Lib.hid hra; have HB2 := Lib.hid hb2; have hs2 := BX2.out.size; clear hra hb2 HN2)
            | (go_at_call 35; refine (HQ.out _ u2.heap.size r1 r2 ((((Slot.rat u2 76).1.below (Below.refl _ _).drew).below HB1.out).below HB2.out) ((((Slot.rat u2 76).2.below (Below.refl _ _).drew).below HB1.out).below HB2.out) (HR1.out.below HB2.out) HR2.out (by omega) (by omega) HT2.out).mono ?_; rintro e W3 hg; have HG := Lib.hid hg; obtain ⟨rfl, -⟩ := id hg; have hgb : w.heap.size + 2 ≤ u2.heap.size := (by omega); have BX3 : Hid (Below u2.heap.size u2 W3) := Lib.hid ((BX1.out.trans (BX2.out.mono hs1)).trans (hg.2.2.below _ (by omega) (by omega))); clear hg)
            | (go_at_call 35; refine (HQ.out _ W1.heap.size r1 r2 ((Slot.rat W1 76).1.below HB2.out) ((Slot.rat W1 76).2.below HB2.out) (HR1.out.below BX2.out) HR2.out (by omega) (by omega) HT2.out).mono ?_; rintro e W3 hg; have HG := Lib.hid hg; obtain ⟨rfl, -⟩ := id hg; have hgb : w.heap.size + 2 ≤ W1.heap.size := (by omega); have BX3 : Hid (Below u2.heap.size u2 W3) := Lib.hid ((BX1.out.trans (BX2.out.mono hs1)).trans (hg.2.2.below _ (by omega) (by omega))); clear hg)
            | (go_at_call 35; refine (HQ.out _ W2.heap.size r1 r2 (Slot.rat W2 76).1 (Slot.rat W2 76).2 ((HR1.out.below BX2.out).below ((Below.refl _ _).alloc (Nat.le_refl _) _)) (HR2.out.below ((Below.refl _ _).alloc (Nat.le_refl _) _)) (by omega) (by omega) (HT2.out.below ((Below.refl _ _).alloc (Nat.le_refl _) _))).mono ?_; rintro e W3 hg; have HG := Lib.hid hg; obtain ⟨rfl, -⟩ := id hg; have hgb : w.heap.size + 2 ≤ W2.heap.size := (by omega); have BX3 : Hid (Below u2.heap.size u2 W3) := Lib.hid (((BX1.out.trans (BX2.out.mono hs1)).alloc (by omega) _).trans (hg.2.2.below _ (by omega) (by simp; omega))); clear hg))
        all_goals go_wp2_with fail
        all_goals go_meet
        all_goals exact ⟨_, rfl, Lib.hid ⟨HG.out.2.1, BX3.out, by omega⟩⟩
      case rest =>
        obtain ⟨t, rfl, hcut⟩ := hcut
        have HRT := Lib.hid hcut.out.1
        have HBX := Lib.hid (HX.out.trans (hcut.out.2.1.mono HX.out.size))
        have ht0 := hcut.out.2.2
        have ht1 : t < wc.heap.size := by obtain ⟨_, _, _, _, _, h, _⟩ := hcut.out.1.open; exact h
        clear hcut HC HC0 HN1 HN2 HQ HTx HX
        have HN1 := Lib.hid (fun W (hW : Tab W) => newRat_any 1 1 W (by omega) (by omega) (by omega) (by omega) hW)
        have HN2 := Lib.hid (fun W (hW : Tab W) => newRat_any 1000000000 1 W (by omega) (by omega) (by omega) (by omega) hW)
        rw [(redX_one 1).1, (redX_one 1).2] at HN1
        rw [(redX_one 1000000000).1, (redX_one 1000000000).2] at HN2
        go_wp2_with fail
        refine (HN1.out _ (HT0.out.below HBX.out)).mono ?_
        rintro e1 W1 ⟨r1, rfl, hr1, hr1', hra, hb1⟩
        have HR1 := Lib.hid hra
        have HB1 := Lib.hid hb1
        have HBX1 := Lib.hid (HBX.out.trans (hb1.mono HBX.out.size))
        have ht2 := Nat.lt_of_lt_of_le ht1 hb1.size
        clear hra hb1 HN1
        go_wp2_with fail
        refine (subR_any t t r1 a 1 b 1 _ (HRT.out.sa.below HB1.out) (HRT.out.sb.below HB1.out) ht2 ((HRT.out.below HB1.out).less HL.out.2.1) HR1.out HPP.out.2.2.2.1 (by omega) HL.out.2.2.1 (HT0.out.below HBX1.out)).mono ?_
        rintro e1 W2 hg
        rw [HR.out.1.1, HR.out.1.2] at hg
        obtain ⟨rfl, hg1, hg2⟩ := hg
        have HR2 := Lib.hid hg1
        have HBX2 := Lib.hid (HBX1.out.trans (hg2.below _ ht0 HBX1.out.size))
        have ht3 := Nat.lt_of_lt_of_le ht2 hg2.size
        clear hg1 hg2 HR1 HB1 HRT
        go_wp2_with fail
        refine (HN2.out _ (HT0.out.below HBX2.out)).mono ?_
        rintro e1 W3 ⟨r3, rfl, hr3, hr3', hra, hb3⟩
        have HR3 := Lib.hid hra
        have HB3 := Lib.hid hb3
        have HBX3 := Lib.hid (HBX2.out.trans (hb3.mono HBX2.out.size))
        clear hra hb3 HN2
        go_wp2_with fail
        refine (mulR_self t r3 e 1000000000 f 1 _ ((HR2.out.below HB3.out).less HL.out.2.2.2.1) HR3.out (by omega) HPP.out.2.2.2.2.1 (by omega) (by omega) HL.out.2.2.2.2 (HT0.out.below HBX3.out)).mono ?_
        rintro e1 W4 hg
        rw [HR.out.2.1, HR.out.2.2] at hg
        obtain ⟨rfl, hg1, hg2⟩ := hg
        have HR4 := Lib.hid hg1
        have HBX4 := Lib.hid (HBX3.out.trans (hg2.below _ ht0 HBX3.out.size))
        clear hg1 hg2 HR3 HB3 HR2
        go_wp2_with fail
        have HZ := Lib.hid (Slot.new W4 false none 0 0 68)
        have HA := Lib.hid (show Below W4.heap.size W4 (W4.alloc (.cells #[.bool false, .slice none 0 0] 68)) from (Below.refl _ _).alloc (Nat.le_refl _) _)
        have HR5 := Lib.hid (HR4.out.below HA.out)
        refine (num_any t 0 _).mono ?_
        rintro e1 V ⟨rfl, rfl⟩
        go_wp2_with fail
        refine (denom_any t 0 G H 6 _ HR5.out HPP.out.2.2.2.2.2).mono ?_
        rintro e1 W5 ⟨zd, rfl, hzd, -, hid, hb5⟩
        have HD5 := Lib.hid hid
        have HB5 := Lib.hid hb5
        clear hid hb5
        go_wp2_with fail
        refine (Div_two _ _ _ G H 6 _ (HZ.out.below HB5.out) (HR5.out.num.below HB5.out) HD5.out (by omega) HPP.out.2.2.2.2.2 (by omega)).mono ?_
        rintro e1 W6 hg
        obtain ⟨rfl, hg1, hg2⟩ := hg
        have HI6 := Lib.hid hg2
        have HBX6 := Lib.hid (((HBX4.out.trans (HA.out.mono HBX4.out.size)).trans (HB5.out.mono (Nat.le_trans HBX4.out.size HA.out.size))).trans (hg1.below (B := w.heap.size) HBX4.out.size (Nat.le_trans HBX4.out.size (Nat.le_trans HA.out.size HB5.out.size))))
        clear hg1 hg2 HD5 HB5 HR5 HR4 HA HZ
        go_wp2_with fail
        refine (rwithin_any _ (G / (H : Int)) 4611686018427387904 7 _ HI6.out (by omega) (by omega) (by omega) (by omega)).mono ?_
        rintro e1 W7 ⟨rfl, hb7⟩
        have HBX7 := Lib.hid (HBX6.out.trans (hb7.mono HBX6.out.size))
        clear hb7
        go_wp2_with fail
        go_ret2
        exact ⟨rfl, HBX7.out⟩
    · have kd' : Ck.okc p m k = false := by simpa using kd
      rw [show driV o n d p m k = 0 by simp [driV, kd'], show driE o n d p m k = 130 by simp [driE, kd']]
      have C1 := Lib.hid kc
      have C2 := Lib.hid kd'
      clear kc kd kd'
      unfold clk
      go_enter Tryd.func9, Tryd.ntmps9
      go_wp2_with fail
      refine (keep_in (rcheck_ok _ _ _ _ C1.out) (Below.refl _ _)).mono ?_
      rintro e x1 ⟨rfl, hx1⟩
      obtain ⟨hcell1, hfrz1⟩ := bcell hx1
      go_wp2_with fail
      refine (keep_in (rcheck_bad _ _ _ _ C2.out) (by assumption)).mono ?_
      rintro e x2 ⟨rfl, hx2⟩
      obtain ⟨hcell2, hfrz2⟩ := bcell hx2
      go_wp2_with fail
      go_ret2
      exact ⟨rfl, below_a2 hx2⟩
  · have kc' : Ck.okc o n d = false := by simpa using kc
    rw [show driV o n d p m k = 0 by simp [driV, kc'], show driE o n d p m k = 130 by simp [driE, kc']]
    have C1 := Lib.hid kc'
    clear kc kc'
    unfold clk
    go_enter Tryd.func9, Tryd.ntmps9
    go_wp2_with fail
    refine (keep_in (rcheck_bad _ _ _ _ C1.out) (Below.refl _ _)).mono ?_
    rintro e x1 ⟨rfl, hx1⟩
    obtain ⟨hcell1, hfrz1⟩ := bcell hx1
    go_wp2_with fail
    go_ret2
    exact ⟨rfl, below_a2 hx1⟩
end Go.Proofs.YtiohemofidphjaaDoor.Bg

namespace Go.Proofs.YtiohemofidphjaaDoor.Bg
open Go Go.RowKit

set_option maxRecDepth 8000 in
set_option maxHeartbeats 4000000 in
/-- x y -/
theorem mulR_any (b b1 b2 : Nat) (x1 : Int) (x2 y1 y2 : Nat) (w : World) (sa : Slot w ⟨b, 0, none⟩) (sb : Slot w ⟨b, 0 + 2, none⟩) (hx : RatAt w b1 0 x1 y1 2) (hy : RatAt w b2 0 (x2 : Int) y2 2) (n1 : b1 ≠ b) (n2 : b2 ≠ b)
    (hy1 : 0 < y1) (hy2 : 0 < y2) (hl : y1 * y2 < 18446744073709551616) (hT : Tab w) : 
    Calls Tryd.prog 37 #[.pointer (some ⟨b, 0, none⟩), .pointer (some ⟨b1, 0, none⟩), .pointer (some ⟨b2, 0, none⟩)] w (Made w b 0 (redX (x1 * (x2 : Int)) (y1 * y2)) (redY (x1 * (x2 : Int)) (y1 * y2)) 4) := by
  obtain ⟨s1, A1, k1, c1, m, hb1, h3, h4, h5, h6, h7⟩ := hx.open
  obtain ⟨s2, A2, k2, c2, n, hb2, g3, g4, g5, g6, g7⟩ := hy.open
  have hs2 : s2 = false := by
    cases s2 with
    | false => rfl
    | true => exfalso; have := g7 rfl; simp at g6; omega
  subst hs2
  have hnn : n = x2 := by simp at g6; omega
  subst hnn
  have HX := Lib.hid hx
  have HY := Lib.hid hy
  have HS := Lib.hid (And.intro sa sb)
  have HT := Lib.hid hT
  have H5 := Lib.hid h5
  have G5 := Lib.hid g5
  have HSG := Lib.hid (And.intro h6 h7)
  have HC := Lib.hid (show w.drew.cell? ⟨b1, 0, none⟩ = some (.bool s1) ∧ w.drew.cell? ⟨b2, 0, none⟩ = some (.bool false) ∧ w.drew.cell? ⟨b1, 0 + 1, none⟩ = some (.slice A1 k1 c1) ∧ w.drew.cell? ⟨b2, 0 + 1, none⟩ = some (.slice A2 k2 c2) from ⟨h3, g3, h4, g4⟩)
  clear hx hy sa sb hT h5 g5 h6 h7 g6 g7
  go_enter Tryd.func37, Tryd.ntmps37
  go_wp2_with fail
  go_region_held3 (fun w' => w'.cell? ⟨b1, 0, none⟩ = some (.bool s1) ∧ w'.cell? ⟨b2, 0, none⟩ = some (.bool false) ∧ w'.cell? ⟨b1, 0 + 1, none⟩ = some (.slice A1 k1 c1) ∧ w'.cell? ⟨b2, 0 + 1, none⟩ = some (.slice A2 k2 c2))
    (first | exact keepR_four (KeepR.trans (KeepR.of_below HB2.out) hg.2.2) HC.out hb1 hb2 hb1 hb2 n1 n2 n1 n2 | exact keep_four HB2.out HC.out hb1 hb2 hb1 hb2 | exact keep_four HB1.out HC.out hb1 hb2 hb1 hb2 | exact HC.out)
    (first | (go_at_call_of 48 (Value.pointer (some (⟨b1, 0, none⟩ : Addr))); refine (bottom_any b1 0 x1 y1 2 _ (HX.out.below HB1.out) hy1).mono ?_; rintro e w1 ⟨Ab, kb, cb, rfl, hmb, rfl⟩; have HMB := Lib.hid hmb; clear hmb) | (go_at_call_of 48 (Value.pointer (some (⟨b2, 0, none⟩ : Addr))); refine (bottom_any b2 0 (n : Int) y2 2 _ (HY.out.below HB1.out) hy2).mono ?_; rintro e w1 ⟨Ac, kc, cc, rfl, hmb, rfl⟩; have HMC := Lib.hid hmb; clear hmb) | (go_at_call_of 54 (Value.slice A1 k1 c1); refine (times_mag _ _ m n 2 2 _ (H5.out.below (Below.refl _ _).drew) (G5.out.below (Below.refl _ _).drew) (by omega) (by omega)).mono ?_; rintro e w2 ⟨v1, rfl, hm1, hb⟩; have HM1 := Lib.hid hm1; have HB1 : Hid (Below w.heap.size w w2) := Lib.hid ((Below.refl _ _).drew.trans hb); clear hm1 hb) | (go_at_call 54; refine (times_mag _ _ y1 y2 2 2 _ HMB.out HMC.out (by omega) (by omega)).mono ?_; rintro e w3 ⟨v2, rfl, hm2, hb⟩; have HM2 := Lib.hid hm2; have HM1' := Lib.hid (HM1.out.below hb); have HB2 : Hid (Below w.heap.size w w3) := Lib.hid (HB1.out.trans (hb.mono HB1.out.size)); clear hm2 hb) | (go_at_call 53; refine (made_any b 0 _ v1 v2 (m * n) (y1 * y2) 4 _ (HS.out.1.below HB2.out) (HS.out.2.below HB2.out) HM1'.out (HM2.out.less (by rw [show (4294967296 : Nat) ^ 2 = 18446744073709551616 from rfl]; exact hl)) (Nat.mul_pos hy1 hy2) (by omega) (by omega) (HT.out.below HB2.out)).mono ?_; rintro e w4 hg; have HG := Lib.hid hg; obtain ⟨rfl, -⟩ := id hg))
  clear hg
  go_wp2_with fail
  go_ret
  have h9 := HG.out
  rw [sgn_mul HSG.out.1] at h9
  exact ⟨rfl, h9.2.1, (KeepR.of_below HB2.out).trans h9.2.2⟩
end Go.Proofs.YtiohemofidphjaaDoor.Bg

namespace Go.Proofs.YtiohemofidphjaaDoor.Bg
open Go Go.RowKit

theorem thn_have {n d m k : Nat} {K E : Int} (d0 : 0 < d) (d1 : d ≤ 1000000000) (k0 : 0 < k) (k1 : k ≤ 1000000000)
    (hK : rateN ((n : Int) * (m : Int)).toNat ((d : Int) * (k : Int)).toNat = K) (hE : rateD ((n : Int) * (m : Int)).toNat ((d : Int) * (k : Int)).toNat = E) :
    ∃ (x1 y1 x2 y2 : Nat) (b : Nat),
      (redX (n : Int) d = (x1 : Int) ∧ redY (n : Int) d = y1) ∧ (redX (m : Int) k = (x2 : Int) ∧ redY (m : Int) k = y2) ∧ (redX ((x1 : Int) * (x2 : Int)) (y1 * y2) = K ∧ redY ((x1 : Int) * (x2 : Int)) (y1 * y2) = b ∧ (b : Int) = E) ∧
      (0 < y1 ∧ 0 < y2 ∧ 0 < b ∧ 0 ≤ K) ∧ y1 * y2 < 18446744073709551616 := by
  obtain ⟨y1, hy1⟩ : ∃ y, redY (n : Int) d = y := ⟨_, rfl⟩
  obtain ⟨x1, hx1⟩ : ∃ x : Nat, redX (n : Int) d = x := ⟨n / Nat.gcd n d, rfl⟩
  obtain ⟨y2, hy2⟩ : ∃ y, redY (m : Int) k = y := ⟨_, rfl⟩
  obtain ⟨x2, hx2⟩ : ∃ x : Nat, redX (m : Int) k = x := ⟨m / Nat.gcd m k, rfl⟩
  have b1 := red_le (n : Int) d d0
  have b2 := red_le (m : Int) k k0
  obtain ⟨g1, _, _, _, p1⟩ := red_ex (n : Int) d d0
  obtain ⟨g2, _, _, _, p2⟩ := red_ex (m : Int) k k0
  rw [hx1, hy1] at b1
  rw [hx2, hy2] at b2
  rw [hy1] at p1
  rw [hy2] at p2
  have c1 : y1 * y2 ≤ 1000000000 * 1000000000 := Nat.mul_le_mul (by omega) (by omega)
  obtain ⟨e1, e2⟩ := red_prod d0 k0 hx1 hy1 hx2 hy2
  rw [show ((n : Int) * (m : Int)).toNat = n * m by rw [← Int.natCast_mul]; rfl, show ((d : Int) * (k : Int)).toNat = d * k by rw [← Int.natCast_mul]; rfl] at hK hE
  obtain ⟨g3, _, _, _, p3⟩ := red_ex ((x1 : Int) * (x2 : Int)) (y1 * y2) (Nat.mul_pos p1 p2)
  exact ⟨x1, y1, x2, y2, _, ⟨hx1, hy1⟩, ⟨hx2, hy2⟩, ⟨e1.trans hK, rfl, e2.trans hE⟩, ⟨p1, p2, p3, by rw [← hK]; exact Int.natCast_nonneg _⟩, by omega⟩

theorem th_cells {w W : World} {o n d p m k : Int} {T : TypeId} (h : Below (((w.alloc (.cells #[.int .i64 o, .int .i64 n, .int .i64 d] T)).alloc (.cells #[.int .i64 p, .int .i64 m, .int .i64 k] T)).alloc (.cells #[.int .i64 0, .int .i64 0, .int .i64 0] T)).heap.size (((w.alloc (.cells #[.int .i64 o, .int .i64 n, .int .i64 d] T)).alloc (.cells #[.int .i64 p, .int .i64 m, .int .i64 k] T)).alloc (.cells #[.int .i64 0, .int .i64 0, .int .i64 0] T)) W) :
    (W.cell? ⟨w.heap.size, 0, none⟩ = some (.int .i64 o) ∧ W.cell? ⟨w.heap.size + 1, 0, none⟩ = some (.int .i64 p) ∧ W.cell? ⟨w.heap.size + 1, 1, none⟩ = some (.int .i64 m) ∧ W.cell? ⟨w.heap.size + 1, 2, none⟩ = some (.int .i64 k)) ∧
    (W.cell? ⟨w.heap.size + 1 + 1, 0, none⟩ = some (.int .i64 0) ∧ W.cell? ⟨w.heap.size + 1 + 1, 1, none⟩ = some (.int .i64 0) ∧ W.cell? ⟨w.heap.size + 1 + 1, 2, none⟩ = some (.int .i64 0)) ∧
    (W.frozen? ⟨w.heap.size + 1 + 1, 0, none⟩ = false ∧ W.frozen? ⟨w.heap.size + 1 + 1, 1, none⟩ = false ∧ W.frozen? ⟨w.heap.size + 1 + 1, 2, none⟩ = false) ∧ w.heap.size + 1 + 1 < W.heap.size := by
  obtain ⟨hc, hf⟩ := bcell h
  have hs := h.size
  simp only [World.size_alloc] at hs
  refine ⟨⟨?_, ?_, ?_, ?_⟩, ⟨?_, ?_, ?_⟩, ⟨?_, ?_, ?_⟩, by omega⟩
  · exact (hc _ _ (by simp; omega)).trans (by simp [go_sem])
  · exact (hc _ _ (by simp)).trans (by simp [go_sem])
  · exact (hc _ _ (by simp)).trans (by simp [go_sem])
  · exact (hc _ _ (by simp)).trans (by simp [go_sem])
  · exact (hc _ _ (by simp)).trans (by simp [go_sem])
  · exact (hc _ _ (by simp)).trans (by simp [go_sem])
  · exact (hc _ _ (by simp)).trans (by simp [go_sem])
  · exact (hf _ _ (by simp)).trans (by simp [go_sem])
  · exact (hf _ _ (by simp)).trans (by simp [go_sem])
  · exact (hf _ _ (by simp)).trans (by simp [go_sem])
theorem th_end {w W : World} {o n d p m k : Int} {T : TypeId} (h : Below (((w.alloc (.cells #[.int .i64 o, .int .i64 n, .int .i64 d] T)).alloc (.cells #[.int .i64 p, .int .i64 m, .int .i64 k] T)).alloc (.cells #[.int .i64 0, .int .i64 0, .int .i64 0] T)).heap.size (((w.alloc (.cells #[.int .i64 o, .int .i64 n, .int .i64 d] T)).alloc (.cells #[.int .i64 p, .int .i64 m, .int .i64 k] T)).alloc (.cells #[.int .i64 0, .int .i64 0, .int .i64 0] T)) W) (u v z : Value) :
    Below w.heap.size w (((W.setCell ⟨w.heap.size + 1 + 1, 0, none⟩ u).setCell ⟨w.heap.size + 1 + 1, 1, none⟩ v).setCell ⟨w.heap.size + 1 + 1, 2, none⟩ z) :=
  ((((below_a3 h).setCell (by simp; omega) _).setCell (by simp; omega) _).setCell (by simp; omega) _)

set_option maxRecDepth 8000 in
set_option maxHeartbeats 4000000 in
theorem rthen_core (o n d p m k : Int) (w : World) (hT : Tab w) (kc : Ck.okc o n d = true) (kd : Ck.okc p m k = true) (K E : Int) (ok : Bool)
    (hK : rateN (n * m).toNat (d * k).toNat = K) (hE : rateD (n * m).toNat (d * k).toNat = E) (hok : rateOk (n * m).toNat (d * k).toNat = ok) (t F : Int)
    (ht : Ck.timeV p m k o = t) (hF : Ck.timeE p m k o = F) :
    Calls Tryd.prog 13 #[clk o n d, clk p m k] w fun e w' =>
      e = .returned (if ok then (if F = 0 then .tuple #[clk t K E, .int .i64 0] else .tuple #[clk 0 0 0, .int .i64 F]) else .tuple #[clk 0 0 0, .int .i64 130]) ∧ Below w.heap.size w w' := by
  obtain ⟨n0, n1, d0, d1, o0, o1⟩ := Ck.okc_iff.1 kc
  obtain ⟨m0, m1, k0, k1, p0, p1⟩ := Ck.okc_iff.1 kd
  obtain ⟨nn, rfl⟩ : ∃ i : Nat, n = i := ⟨n.toNat, by omega⟩
  obtain ⟨dd, rfl⟩ : ∃ i : Nat, d = i := ⟨d.toNat, by omega⟩
  obtain ⟨mm, rfl⟩ : ∃ i : Nat, m = i := ⟨m.toNat, by omega⟩
  obtain ⟨kk, rfl⟩ : ∃ i : Nat, k = i := ⟨k.toNat, by omega⟩
  obtain ⟨X1, Y1, X2, Y2, b, hr1, hr2, hr3, hp, hl⟩ := thn_have (n := nn) (d := dd) (m := mm) (k := kk) (K := K) (E := E) (by omega) (by omega) (by omega) (by omega) hK hE
  have HN1 := Lib.hid (fun W (hW : Tab W) => newRat_any (nn : Int) dd W (by omega) (by omega) (by omega) (by omega) hW)
  have HN2 := Lib.hid (fun W (hW : Tab W) => newRat_any (mm : Int) kk W (by omega) (by omega) (by omega) (by omega) hW)
  rw [hr1.1, hr1.2] at HN1
  rw [hr2.1, hr2.2] at HN2
  have HQ := Lib.hid (fun W t b1 b2 (sa : Slot W ⟨t, 0, none⟩) (sb : Slot W ⟨t, 0 + 2, none⟩) (ha : RatAt W b1 0 (X1 : Int) Y1 2) (hb : RatAt W b2 0 (X2 : Int) Y2 2) (n1 : b1 ≠ t) (n2 : b2 ≠ t) (hW : Tab W) => mulR_any t b1 b2 (X1 : Int) X2 Y1 Y2 W sa sb ha hb n1 n2 hp.1 hp.2.1 hl hW)
  rw [hr3.1, hr3.2.1] at HQ
  have hokd : decide (K ≤ 1000000000 ∧ E ≤ 1000000000) = ok := by rw [← hok]; unfold rateOk; rw [hK, hE]
  have hE0 := hr3.2.2
  obtain ⟨-, -, hb0, hK0⟩ := hp
  have HTM := Lib.hid (fun W => rtime_any p mm kk o W)
  rw [ht, hF] at HTM
  subst hE0
  clear hr1 hr2 hr3 hl hok ht hF hK hE
  have C1 := Lib.hid kc
  have C2 := Lib.hid kd
  have h0 := Below.refl (((w.alloc (.cells #[.int .i64 o, .int .i64 nn, .int .i64 dd] 24)).alloc (.cells #[.int .i64 p, .int .i64 mm, .int .i64 kk] 24)).alloc (.cells #[.int .i64 0, .int .i64 0, .int .i64 0] 24)).heap.size (((w.alloc (.cells #[.int .i64 o, .int .i64 nn, .int .i64 dd] 24)).alloc (.cells #[.int .i64 p, .int .i64 mm, .int .i64 kk] 24)).alloc (.cells #[.int .i64 0, .int .i64 0, .int .i64 0] 24))
  clear kc kd
  unfold clk at *
  go_enter Tryd.func13, Tryd.ntmps13
  go_wp2_with fail
  refine (keep_in (rcheck_ok _ _ _ _ C1.out) (by assumption)).mono ?_
  rintro e u1 ⟨rfl, hx1⟩
  obtain ⟨hcell1, hfrz1⟩ := bcell hx1
  go_wp2_with fail
  refine (keep_in (rcheck_ok _ _ _ _ C2.out) (by assumption)).mono ?_
  rintro e u2 ⟨rfl, hx2⟩
  obtain ⟨hcell2, hfrz2⟩ := bcell hx2
  go_wp2_with fail
  have hx2s : w.heap.size + 2 ≤ u2.heap.size := by have := hx2.size; simp at this; omega
  have hx3s : w.heap.size + 3 ≤ u2.heap.size := by have := hx2.size; simpa using this
  have HX := Lib.hid (below_a3 hx2)
  have HXA := Lib.hid hx2
  have HTx := Lib.hid (hT.below HX.out)
  have HC0 : Hid (Keep4 u2 w.heap.size nn dd mm kk u2) := Lib.hid ⟨(hcell2 _ _ (by simp; try omega)).trans (by simp [go_sem]), (hcell2 _ _ (by simp; try omega)).trans (by simp [go_sem]), (hcell2 _ _ (by simp; try omega)).trans (by simp [go_sem]), (hcell2 _ _ (by simp; try omega)).trans (by simp [go_sem]), Below.refl _ _⟩
  have HC := Lib.hid (Keep4.drew HC0.out hx2s)
  have HT0 := Lib.hid hT
  clear hcell1 hcell2 hfrz1 hfrz2 hx1 hx2 h0 C1 hT
  unfold Keep4 at HC
  go_cut [6] (fun r wx => ∃ q : Nat, r = .pointer (some ⟨q, 0, none⟩) ∧ Hid (RatAt wx q 0 K b 4 ∧ Below u2.heap.size u2 wx ∧ w.heap.size + 3 ≤ q))
  case first =>
    go_region_held3 (fun w' => w'.cell? ⟨w.heap.size, 1, none⟩ = some (.int .i64 (nn : Int)) ∧ w'.cell? ⟨w.heap.size, 2, none⟩ = some (.int .i64 (dd : Int)) ∧ w'.cell? ⟨w.heap.size + 1, 1, none⟩ = some (.int .i64 (mm : Int)) ∧ w'.cell? ⟨w.heap.size + 1, 2, none⟩ = some (.int .i64 (kk : Int)) ∧ Below (w.heap.size + 2) u2 w')
      (first | exact HC.out | exact Keep4.drew (Keep4.alloc HC0.out hx2s _) hx2s | exact Keep4.keepR (by assumption) HG.out.2.2 hgb hx2s | exact Keep4.alloc (by assumption) hx2s _ | exact Keep4.keep (by assumption) HB2.out hx2s | exact Keep4.keep (by assumption) HB1.out hx2s)
      (first
        | (go_at_call 20; refine (HN1.out _ (by first | exact HTx.out.below (Below.refl _ _).drew | exact HTx.out.below (((Below.refl _ _).alloc (Nat.le_refl _) _).drew))).mono ?_; rintro e W1 ⟨r1, rfl, hr1, hr1', hra, hb1⟩; have HT1 : Hid (Tab W1) := Lib.hid (by first | exact (HTx.out.below (Below.refl _ _).drew).below hb1 | exact (HTx.out.below (((Below.refl _ _).alloc (Nat.le_refl _) _).drew)).below hb1); have BX1 : Hid (Below u2.heap.size u2 W1) := Lib.hid (by first | exact (Below.refl _ _).drew.trans hb1 | exact (((Below.refl _ _).alloc (Nat.le_refl _) _).drew).trans (hb1.mono (by simp))); (try simp [go_sem] at hr1); have HR1 := Lib.hid hra; have HB1 := Lib.hid hb1; have hs1 := BX1.out.size; clear hra hb1 HN1)
        | (go_at_call 20; refine (HN2.out _ (by first | exact HT1.out | exact HT1.out.below ((Below.refl _ _).alloc (Nat.le_refl _) _))).mono ?_; rintro e W2 ⟨r2, rfl, hr2, hr2', hra, hb2⟩; have HT2 : Hid (Tab W2) := Lib.hid (by first | exact HT1.out.below hb2 | exact (HT1.out.below ((Below.refl _ _).alloc (Nat.le_refl _) _)).below hb2); have BX2 : Hid (Below W1.heap.size W1 W2) := Lib.hid (by first | exact hb2 | exact ((Below.refl _ _).alloc (Nat.le_refl _) _).trans (hb2.mono (by simp))); (try simp [go_sem] at hr2); have HR2 := Lib.hid hra; have HB2 := Lib.hid hb2; have hs2 := BX2.out.size; clear hra hb2 HN2)
        | (go_at_call 37; refine (HQ.out _ u2.heap.size r1 r2 ((((Slot.rat u2 76).1.below (Below.refl _ _).drew).below HB1.out).below HB2.out) ((((Slot.rat u2 76).2.below (Below.refl _ _).drew).below HB1.out).below HB2.out) (HR1.out.below HB2.out) HR2.out (by omega) (by omega) HT2.out).mono ?_; rintro e W3 hg; have HG := Lib.hid hg; obtain ⟨rfl, -⟩ := id hg; have hgb : w.heap.size + 2 ≤ u2.heap.size := (by omega); have BX3 : Hid (Below u2.heap.size u2 W3) := Lib.hid ((BX1.out.trans (BX2.out.mono hs1)).trans (hg.2.2.below _ (by omega) (by omega))); clear hg)
        | (go_at_call 37; refine (HQ.out _ W1.heap.size r1 r2 ((Slot.rat W1 76).1.below HB2.out) ((Slot.rat W1 76).2.below HB2.out) (HR1.out.below BX2.out) HR2.out (by omega) (by omega) HT2.out).mono ?_; rintro e W3 hg; have HG := Lib.hid hg; obtain ⟨rfl, -⟩ := id hg; have hgb : w.heap.size + 2 ≤ W1.heap.size := (by omega); have BX3 : Hid (Below u2.heap.size u2 W3) := Lib.hid ((BX1.out.trans (BX2.out.mono hs1)).trans (hg.2.2.below _ (by omega) (by omega))); clear hg)
        | (go_at_call 37; refine (HQ.out _ W2.heap.size r1 r2 (Slot.rat W2 76).1 (Slot.rat W2 76).2 ((HR1.out.below BX2.out).below ((Below.refl _ _).alloc (Nat.le_refl _) _)) (HR2.out.below ((Below.refl _ _).alloc (Nat.le_refl _) _)) (by omega) (by omega) (HT2.out.below ((Below.refl _ _).alloc (Nat.le_refl _) _))).mono ?_; rintro e W3 hg; have HG := Lib.hid hg; obtain ⟨rfl, -⟩ := id hg; have hgb : w.heap.size + 2 ≤ W2.heap.size := (by omega); have BX3 : Hid (Below u2.heap.size u2 W3) := Lib.hid (((BX1.out.trans (BX2.out.mono hs1)).alloc (by omega) _).trans (hg.2.2.below _ (by omega) (by simp; omega))); clear hg))
    all_goals go_wp2_with fail
    all_goals go_meet
    all_goals exact ⟨_, rfl, Lib.hid ⟨HG.out.2.1, BX3.out, by omega⟩⟩
  case rest =>
    obtain ⟨q, rfl, hcut⟩ := hcut
    have HRT := Lib.hid hcut.out.1
    have HBX := Lib.hid (HXA.out.trans (hcut.out.2.1.mono HXA.out.size))
    clear hcut HC HC0 HN1 HN2 HQ HTx HX HXA HT0 C2
    go_wp2_with fail
    refine (newInt_any 1000000000 wc (by omega) (by omega)).mono ?_
    rintro e1 W1 ⟨z, rfl, hz, -, hiz, hb1⟩
    have HM1 := Lib.hid hiz
    have HR1 := Lib.hid (HRT.out.below hb1)
    have HB1 := Lib.hid (HBX.out.trans (hb1.mono HBX.out.size))
    clear hiz hb1 HRT HBX
    go_wp2_with fail
    refine (num_any q 0 _).mono ?_
    rintro e1 V ⟨rfl, rfl⟩
    go_wp2_with fail
    have hcmp := Cmp_any _ _ K 1000000000 4 W1 HR1.out.num (HM1.out.more (by omega)) (by omega)
    obtain ⟨cc, hcc⟩ : ∃ cc, cmpI K 1000000000 = cc := ⟨_, rfl⟩
    rw [hcc] at hcmp
    refine hcmp.mono ?_
    rintro e1 W2 ⟨rfl, j2, rfl⟩
    clear hcmp
    by_cases ck : K ≤ 1000000000
    · have hcc0 : ¬ 0 < cc := by rw [← hcc]; unfold cmpI; split <;> (try split) <;> omega
      clear hcc
      have HB2 := Lib.hid (below_drewN HB1.out j2)
      have HR2 := Lib.hid (HR1.out.below (below_drewN (Below.refl _ _) j2))
      have HM2 := Lib.hid (HM1.out.below (below_drewN (Below.refl _ _) j2))
      clear HB1 HR1 HM1
      go_wp2_with fail
      generalize W1.drewN j2 = W2 at *
      refine (denom_any q 0 K b 4 W2 HR2.out hb0).mono ?_
      rintro e1 W3 ⟨zd, rfl, hzd, -, hid, hb3⟩
      have HB3 := Lib.hid (HB2.out.trans (hb3.mono HB2.out.size))
      have HR3 := Lib.hid (HR2.out.below hb3)
      have HM3 := Lib.hid (HM2.out.below hb3)
      have HD3 := Lib.hid hid
      clear hid hb3 HB2 HR2 HM2
      go_wp2_with fail
      have hcmp := Cmp_any _ _ (b : Int) 1000000000 2 W3 HD3.out HM3.out (by omega)
      obtain ⟨cc2, hcc2⟩ : ∃ cc, cmpI (b : Int) 1000000000 = cc := ⟨_, rfl⟩
      rw [hcc2] at hcmp
      refine hcmp.mono ?_
      rintro e1 W4 ⟨rfl, j4, rfl⟩
      clear hcmp
      have HF := Lib.hid (below_drewN HB3.out j4)
      have HR4 := Lib.hid (HR3.out.below (below_drewN (Below.refl _ _) j4))
      clear HB3 HR3 HM3 HD3
      by_cases cb : (b : Int) ≤ 1000000000
      · have hcc3 : ¬ 0 < cc2 := by rw [← hcc2]; unfold cmpI; split <;> (try split) <;> omega
        have hok1 : ok = true := by rw [← hokd, decide_eq_true_eq]; omega
        subst hok1
        clear hcc2 hokd
        obtain ⟨⟨q0, q1, q2, q3⟩, -⟩ := th_cells HF.out
        go_wp2_with fail
        generalize W3.drewN j4 = W4 at *
        refine (HTM.out _).mono ?_
        rintro e1 W5 ⟨rfl, hb5⟩
        have HR5 := Lib.hid (HR4.out.below hb5)
        have HF5 := Lib.hid (HF.out.trans (hb5.mono HF.out.size))
        clear HR4 HF hb5 q0 q1 q2 q3
        by_cases cF : F = 0
        · subst cF
          go_wp2_with fail
          refine (num_any q 0 _).mono ?_
          rintro e1 V ⟨rfl, rfl⟩
          go_wp2_with fail
          refine (Int64_any _ K 4 W5 HR5.out.num (by omega) (by omega)).mono ?_
          rintro e1 V ⟨rfl, rfl⟩
          go_wp2_with fail
          refine (denom_any q 0 K b 4 W5 HR5.out hb0).mono ?_
          rintro e1 W6 ⟨zd1, rfl, hzd1, -, hid1, hb6⟩
          have HI6 := Lib.hid hid1
          have HF := Lib.hid (HF5.out.trans (hb6.mono HF5.out.size))
          clear hid1 hb6 HF5
          go_wp2_with fail
          refine (Int64_any _ (b : Int) 2 W6 HI6.out (by omega) (by omega)).mono ?_
          rintro e1 V ⟨rfl, rfl⟩
          obtain ⟨⟨q0, q1, q2, q3⟩, ⟨q4, q5, q6⟩, ⟨q7, q8, q9⟩, q10⟩ := th_cells HF.out
          go_wp2_with fail
          have hst := three_set (.int .i64 t) (.int .i64 K) (.int .i64 (b : Int)) q4 q5 q6
          exact bodyPost_ret (by simp only [results, Tryd.results13]; simp [go_sem, hst.1, hst.2.1, hst.2.2]; try rfl) rfl ⟨rfl, th_end HF.out _ _ _⟩
        · have HF := HF5
          clear HF5
          obtain ⟨⟨q0, q1, q2, q3⟩, ⟨q4, q5, q6⟩, ⟨q7, q8, q9⟩, q10⟩ := th_cells HF.out
          go_wp2_with fail
          have hst := three_set (.int .i64 0) (.int .i64 0) (.int .i64 0) q4 q5 q6
          exact bodyPost_ret (by simp only [results, Tryd.results13]; simp [go_sem, hst.1, hst.2.1, hst.2.2]; try rfl) rfl ⟨rfl, th_end HF.out _ _ _⟩
      · have hcc3 : 0 < cc2 := by rw [← hcc2]; unfold cmpI; split <;> (try split) <;> omega
        have hok1 : ok = false := by rw [← hokd, decide_eq_false_iff_not]; omega
        subst hok1
        clear hcc2 hokd
        obtain ⟨⟨q0, q1, q2, q3⟩, ⟨q4, q5, q6⟩, ⟨q7, q8, q9⟩, q10⟩ := th_cells HF.out
        go_wp2_with fail
        have hst := three_set (.int .i64 0) (.int .i64 0) (.int .i64 0) q4 q5 q6
        exact bodyPost_ret (by simp only [results, Tryd.results13]; simp [go_sem, hst.1, hst.2.1, hst.2.2]; try rfl) rfl ⟨rfl, th_end HF.out _ _ _⟩
    · have hcc0 : 0 < cc := by rw [← hcc]; unfold cmpI; split <;> (try split) <;> omega
      have hok1 : ok = false := by rw [← hokd, decide_eq_false_iff_not]; omega
      subst hok1
      clear hcc hokd
      have HF := Lib.hid (below_drewN HB1.out j2)
      obtain ⟨⟨q0, q1, q2, q3⟩, ⟨q4, q5, q6⟩, ⟨q7, q8, q9⟩, q10⟩ := th_cells HF.out
      go_wp2_with fail
      have hst := three_set (.int .i64 0) (.int .i64 0) (.int .i64 0) q4 q5 q6
      exact bodyPost_ret (by simp only [results, Tryd.results13]; simp [go_sem, hst.1, hst.2.1, hst.2.2]; try rfl) rfl ⟨rfl, th_end HF.out _ _ _⟩
end Go.Proofs.YtiohemofidphjaaDoor.Bg
