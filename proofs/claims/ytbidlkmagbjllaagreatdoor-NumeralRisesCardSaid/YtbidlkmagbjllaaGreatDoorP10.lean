/- A2 in one text. -/
import Derived.Test.YtbidlkmagbjllaaGreatDoorProg
import Derived.Test.YtbidlkmagbjllaaGreatDoorP06
import Derived.Test.YtbidlkmagbjllaaGreatDoorP09
import Derived.WalkKit
import Derived.Outline
import Derived.WalkLawsBesides
import Derived.WalkSpells
import Derived.Handy
import Derived.Deep.DeepCutAuto
import Derived.Deep.QuietTactic
import Derived.BigQuiet
import Derived.Deep.CutBlock
import Derived.Lib.Hide

namespace Go.Proofs.YtbidlkmagbjllaaGreatDoor
open Go.RowKit

theorem ret_int {k : IntKind} {a b : Int} (h : a = b) : Value.int k a = Value.int k b := by rw [h]
theorem lz64 (y : Int) (s : Nat) (w : World) (h0 : 0 ≤ y) (h1 : y ≤ 18446744073709551615) (hs : (64 : Int) - (Lib.bitLen y.toNat : Int) = (s : Int)) :
    Calls Tryz.prog 162 #[.int .u64 y] w fun e w' => e = .returned (.int .i64 (s : Int)) ∧ w = w' := by
  rw [← hs]
  exact (Tryz.bits_LeadingZeros64 y w h0 h1).mono fun e w' ⟨a, b⟩ => ⟨a, b.symm⟩

set_option maxHeartbeats 1000000 in
theorem div64_big (hi lo y : Int) (w : World) (h0 : 0 < hi) (h1 : hi < y) (hy : y ≤ 18446744073709551615) (l0 : 0 ≤ lo) (l1 : lo ≤ 18446744073709551615) :
    Calls Tryz.prog 194 #[.int .u64 hi, .int .u64 lo, .int .u64 y] w fun e w' => e = .returned (.tuple #[.int .u64 ((hi * 18446744073709551616 + lo) / y), .int .u64 ((hi * 18446744073709551616 + lo) % y)]) ∧ w = w' := by
  have hy0 : ¬ y = 0 := by omega
  have hh0 : ¬ hi = 0 := by omega
  have hle : ¬ y ≤ hi := by omega
  obtain ⟨s, hs, hs63, hY0, hY1⟩ := Ck.lz_spec (y := y.toNat) (by omega) (by omega)
  obtain ⟨Y, a, b, A, H, L, u1, u0, D⟩ := Ck.dset (by omega) h1 l0 l1 hs63 hY0 hY1
  have HS := Lib.hid hs
  have HD := Lib.hid D
  clear hs hY0 hY1
  obtain ⟨q, hq⟩ : ∃ q, H / a = q := ⟨_, rfl⟩
  have a0 := D.q.a0
  have a1 := D.q.a1
  have ha : (1 : Int) ≤ a := by omega
  obtain ⟨hm, m0, m1, q0, q1⟩ := Ck.div_mul_le D.H0 D.H1 (by omega) hq
  obtain ⟨m, hmm⟩ : ∃ m, q * a = m := ⟨_, rfl⟩
  replace hm := hm.trans hmm
  rw [hmm] at m0 m1
  have Q0 := Lib.hid (show Ck.QInv Y a b H u1 q (H - m) from by have := D.q.start; rw [hq, hmm] at this; exact this)
  clear hmm
  have hmin : min s 64 = s := by omega
  have eY := D.eY
  have ea := D.ea
  have eb := D.eb
  have eA := D.eA
  have eH := D.eH
  have eL := D.eL
  have e1 := D.e1
  have e0 := D.e0
  have b0 := D.q.b0
  have b1 := D.q.b1
  have Y1 := D.Y1
  have H0 := D.H0
  have H1 := D.H1
  have L0 := D.L0
  have L1 := D.L1
  have v0 := D.v0
  have v1 := D.v1
  have w0 := D.q.v0
  have w1 := D.q.v1
  clear D
  go_enter Tryz.func194, Tryz.ntmps194
  go_upto_block 0 with (go_at_call 162; refine (lz64 _ s _ (by omega) (by omega) HS.out).mono ?_; rintro e w' ⟨rfl, rfl⟩)
  simp only [hq]
  clear hq hm hmin eY ea eb eA eH eL e1 e0
  go_cut [15, 16] (fun v v' wx => v = .int .u64 ((H * 4294967296 + u1) / Y) ∧ (∃ r, v' = .int .u64 r) ∧ w = wx)
  case first =>
    go_wp2_with fail
    go_loop [15, 16] (fun v v' => ∃ q r, Hid (Ck.QInv Y a b H u1 q r) ∧ v = .int .u64 q ∧ v' = .int .u64 r) (fun v _ => (intOf v).toNat)
    case atStart => exact ⟨q, H - m, Q0, rfl, rfl⟩
    case round =>
      obtain ⟨q, r, I, rfl, rfl⟩ := hrel
      have r0 := I.out.r0
      have r1 := I.out.r1
      have g0 := I.out.q0
      have g1 := I.out.q1
      by_cases c1 : 4294967296 ≤ q
      · by_cases c2 : r + a < 4294967296
        · go_wp2
          go_round
          case rel => exact ⟨q - 1, r + a, I.out.dec HD.out.q (.inl c1) c2, rfl, rfl⟩
          case measure => simp [intOf]; omega
        · go_wp2
          go_meet
          exact ⟨ret_int (I.out.brk HD.out.q (.inl c1) (by omega)), ⟨_, rfl⟩, rfl⟩
      · obtain ⟨p0, p1, p2, p3⟩ := I.out.prod HD.out.q (by omega)
        have hp := Ck.u64w p0 p1
        by_cases c3 : 4294967296 * r + u1 < q * b
        · have hq1 : 0 ≤ q - 1 := by have := I.out.over HD.out.q (.inr c3); have := HD.out.q.dig; omega
          by_cases c2 : r + a < 4294967296
          · go_wp2
            go_round
            case rel => exact ⟨q - 1, r + a, I.out.dec HD.out.q (.inr c3) c2, rfl, rfl⟩
            case measure => simp [intOf]; omega
          · go_wp2
            go_meet
            exact ⟨ret_int (I.out.brk HD.out.q (.inr c3) (by omega)), ⟨_, rfl⟩, rfl⟩
        · go_wp2
          go_meet
          exact ⟨ret_int (I.out.stop HD.out.q (by omega)), ⟨_, rfl⟩, rfl⟩
  case rest =>
    obtain ⟨rfl, ⟨r, rfl⟩, rfl⟩ := hcut
    obtain ⟨Q1, hQ1⟩ : ∃ Q, (H * 4294967296 + u1) / Y = Q := ⟨_, rfl⟩
    obtain ⟨t1, ht1⟩ : ∃ t, H * 4294967296 + u1 - Q1 * Y = t := ⟨_, rfl⟩
    have ht := (Ck.rest_wrap HD.out.q Y1 Q1 hQ1.symm).trans ht1
    have hd := HD.out.q.dig
    have hr := HD.out.q.rest
    rw [hQ1] at hd hr
    rw [ht1] at hr
    have D' : Ck.QIn Y a b t1 u0 := { HD.out.q with u0 := hr.1, uY := hr.2, v0 := v0, v1 := v1 }
    obtain ⟨hd0, hd1⟩ := hd
    obtain ⟨t10, t11⟩ := hr
    obtain ⟨q', hq'⟩ : ∃ q, t1 / a = q := ⟨_, rfl⟩
    obtain ⟨hm', m0', m1', q0', q1'⟩ := Ck.div_mul_le (H := t1) t10 (by omega) (by omega) hq'
    obtain ⟨m', hmm'⟩ : ∃ m, q' * a = m := ⟨_, rfl⟩
    replace hm' := hm'.trans hmm'
    rw [hmm'] at m0' m1'
    have Q0' := Lib.hid (show Ck.QInv Y a b t1 u0 q' (t1 - m') from by have := D'.start; rw [hq', hmm'] at this; exact this)
    clear hmm'
    have DD := Lib.hid D'
    clear D'
    simp only [hQ1]
    have HQ1 := Lib.hid hQ1
    have HT1 := Lib.hid ht1
    clear hQ1 ht1
    go_upto_block 2 with fail
    simp only [hq']
    clear hq' hm'
    go_cut [18, 16] (fun v v' wx => v = .int .u64 ((t1 * 4294967296 + u0) / Y) ∧ (∃ r, v' = .int .u64 r) ∧ w = wx)
    case first =>
      go_wp2_with fail
      go_loop [18, 16] (fun v v' => ∃ q r, Hid (Ck.QInv Y a b t1 u0 q r) ∧ v = .int .u64 q ∧ v' = .int .u64 r) (fun v _ => (intOf v).toNat)
      case atStart => exact ⟨q', t1 - m', Q0', rfl, rfl⟩
      case round =>
        obtain ⟨q, r, I, rfl, rfl⟩ := hrel
        have r0 := I.out.r0
        have r1 := I.out.r1
        have g0 := I.out.q0
        have g1 := I.out.q1
        by_cases c1 : 4294967296 ≤ q
        · by_cases c2 : r + a < 4294967296
          · go_wp2
            go_round
            case rel => exact ⟨q - 1, r + a, I.out.dec DD.out (.inl c1) c2, rfl, rfl⟩
            case measure => simp [intOf]; omega
          · go_wp2
            go_meet
            exact ⟨ret_int (I.out.brk DD.out (.inl c1) (by omega)), ⟨_, rfl⟩, rfl⟩
        · obtain ⟨p0, p1, p2, p3⟩ := I.out.prod DD.out (by omega)
          have hp := Ck.u64w p0 p1
          by_cases c3 : 4294967296 * r + u0 < q * b
          · have hq1 : 0 ≤ q - 1 := by have := I.out.over DD.out (.inr c3); have := DD.out.dig; omega
            by_cases c2 : r + a < 4294967296
            · go_wp2
              go_round
              case rel => exact ⟨q - 1, r + a, I.out.dec DD.out (.inr c3) c2, rfl, rfl⟩
              case measure => simp [intOf]; omega
            · go_wp2
              go_meet
              exact ⟨ret_int (I.out.brk DD.out (.inr c3) (by omega)), ⟨_, rfl⟩, rfl⟩
          · go_wp2
            go_meet
            exact ⟨ret_int (I.out.stop DD.out (by omega)), ⟨_, rfl⟩, rfl⟩
    case rest =>
      obtain ⟨rfl, ⟨r, rfl⟩, rfl⟩ := hcut
      obtain ⟨Q2, hQ2⟩ : ∃ Q, (t1 * 4294967296 + u0) / Y = Q := ⟨_, rfl⟩
      obtain ⟨t0, ht0⟩ : ∃ t, t1 * 4294967296 + u0 - Q2 * Y = t := ⟨_, rfl⟩
      have ht' := (Ck.rest_wrap DD.out Y1 Q2 hQ2.symm).trans ht0
      have hd := DD.out.dig
      have hr := DD.out.rest
      rw [hQ2] at hd hr
      rw [ht0] at hr
      obtain ⟨hd0', hd1'⟩ := hd
      obtain ⟨t00, t01⟩ := hr
      simp only [hQ2]
      have yP := HD.out.yP
      have hfin := Ck.two_digits (N := hi * 18446744073709551616 + lo) (y := y) (P := 2 ^ s) (H := H) (un1 := u1) (un0 := u0) (q1 := Q1) (q0 := Q2) (t1 := t1) (t0 := t0) HD.out.P1 (by omega) HD.out.N (by rw [← yP, HT1.out]) (by rw [← yP, ht0]) t00 (by rw [← yP]; exact t01)
      clear yP
      have HF := Lib.hid hfin
      clear hfin ht0
      have hQ2' := Lib.hid hQ2
      clear hQ2
      go_wp2_with fail
      go_ret2
      refine ⟨?_, rfl⟩
      rw [← HF.out.1, ← HF.out.2]
      rfl

theorem div64_small (lo y : Int) (w : World) (h1 : 0 < y) (hy : y ≤ 18446744073709551615) (l0 : 0 ≤ lo) (l1 : lo ≤ 18446744073709551615) :
    Calls Tryz.prog 194 #[.int .u64 0, .int .u64 lo, .int .u64 y] w fun e w' => e = .returned (.tuple #[.int .u64 (lo / y), .int .u64 (lo % y)]) ∧ ∃ n, w' = w.drewN n := by
  have hy0 : ¬ y = 0 := by omega
  go_enter Tryz.func194, Tryz.ntmps194
  go_wp2_with fail
  go_quiet (fail)
  go_wp2
  go_ret2
  exact ⟨rfl, _, rfl⟩
end Go.Proofs.YtbidlkmagbjllaaGreatDoor
