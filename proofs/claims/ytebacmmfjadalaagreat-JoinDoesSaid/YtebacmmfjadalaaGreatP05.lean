/- A2 A1 J1 in one text. -/
import Derived.Test.YtebacmmfjadalaaGreatProg
import Derived.Test.YtebacmmfjadalaaGreatP01
import Derived.Test.YtebacmmfjadalaaGreatP04
import Derived.WalkKit
import Derived.Outline
import Derived.WalkLawsBesides
import Derived.WalkSpells
import Derived.Handy
import Derived.Deep.DeepCutAuto
import Derived.Deep.QuietTactic
import Derived.BigQuiet
import Derived.Deep.CutBlock
import Derived.Lib.Hide

namespace Go.Proofs.YtebacmmfjadalaaGreat
open Go.RowKit

theorem ret_int {k : IntKind} {a b : Int} (h : a = b) : Value.int k a = Value.int k b := by rw [h]
theorem lz64 (y : Int) (s : Nat) (w : World) (h0 : 0 ≤ y) (h1 : y ≤ 18446744073709551615) (hs : (64 : Int) - (Lib.bitLen y.toNat : Int) = (s : Int)) :
    Calls Tryz.prog 110 #[.int .u64 y] w fun e w' => e = .returned (.int .i64 (s : Int)) ∧ w = w' := by
  rw [← hs]
  exact (Tryz.bits_LeadingZeros64 y w h0 h1).mono fun e w' ⟨a, b⟩ => ⟨a, b.symm⟩

set_option maxHeartbeats 1000000 in
theorem div64_big (hi lo y : Int) (w : World) (h0 : 0 < hi) (h1 : hi < y) (hy : y ≤ 18446744073709551615) (l0 : 0 ≤ lo) (l1 : lo ≤ 18446744073709551615) :
    Calls Tryz.prog 92 #[.int .u64 hi, .int .u64 lo, .int .u64 y] w fun e w' => e = .returned (.tuple #[.int .u64 ((hi * 18446744073709551616 + lo) / y), .int .u64 ((hi * 18446744073709551616 + lo) % y)]) ∧ w = w' := by
  have hy0 : ¬ y = 0 := by omega
  have hh0 : ¬ hi = 0 := by omega
  have hle : ¬ y ≤ hi := by omega
  obtain ⟨s, hs, hs63, hY0, hY1⟩ := Ck.lz_spec (y := y.toNat) (by omega) (by omega)
  obtain ⟨Y, a, b, A, H, L, u1, u0, D⟩ := Ck.dset (by omega) h1 l0 l1 hs63 hY0 hY1
  have HS := Lib.hid hs
  have HD := Lib.hid D
  clear hs hY0 hY1
  obtain ⟨q, hq⟩ : ∃ q, H / a = q := ⟨_, rfl⟩
  have a0 := D.q.a0
  have a1 := D.q.a1
  have ha : (1 : Int) ≤ a := by omega
  obtain ⟨hm, m0, m1, q0, q1⟩ := Ck.div_mul_le D.H0 D.H1 (by omega) hq
  obtain ⟨m, hmm⟩ : ∃ m, q * a = m := ⟨_, rfl⟩
  replace hm := hm.trans hmm
  rw [hmm] at m0 m1
  have Q0 := Lib.hid (show Ck.QInv Y a b H u1 q (H - m) from by have := D.q.start; rw [hq, hmm] at this; exact this)
  clear hmm
  have hmin : min s 64 = s := by omega
  have eY := D.eY
  have ea := D.ea
  have eb := D.eb
  have eA := D.eA
  have eH := D.eH
  have eL := D.eL
  have e1 := D.e1
  have e0 := D.e0
  have b0 := D.q.b0
  have b1 := D.q.b1
  have Y1 := D.Y1
  have H0 := D.H0
  have H1 := D.H1
  have L0 := D.L0
  have L1 := D.L1
  have v0 := D.v0
  have v1 := D.v1
  have w0 := D.q.v0
  have w1 := D.q.v1
  clear D
  go_enter Tryz.func92, Tryz.ntmps92
  go_upto_block 0 with (go_at_call 110; refine (lz64 _ s _ (by omega) (by omega) HS.out).mono ?_; rintro e w' ⟨rfl, rfl⟩)
  simp only [hq]
  clear hq hm hmin eY ea eb eA eH eL e1 e0
  go_cut [15, 16] (fun v v' wx => v = .int .u64 ((H * 4294967296 + u1) / Y) ∧ (∃ r, v' = .int .u64 r) ∧ w = wx)
  case first =>
    go_wp2_with fail
    go_loop [15, 16] (fun v v' => ∃ q r, Hid (Ck.QInv Y a b H u1 q r) ∧ v = .int .u64 q ∧ v' = .int .u64 r) (fun v _ => (intOf v).toNat)
    case atStart => exact ⟨q, H - m, Q0, rfl, rfl⟩
    case round =>
      obtain ⟨q, r, I, rfl, rfl⟩ := hrel
      have r0 := I.out.r0
      have r1 := I.out.r1
      have g0 := I.out.q0
      have g1 := I.out.q1
      by_cases c1 : 4294967296 ≤ q
      · by_cases c2 : r + a < 4294967296
        · go_wp2
          go_round
          case rel => exact ⟨q - 1, r + a, I.out.dec HD.out.q (.inl c1) c2, rfl, rfl⟩
          case measure => simp [intOf]; omega
        · go_wp2
          go_meet
          exact ⟨ret_int (I.out.brk HD.out.q (.inl c1) (by omega)), ⟨_, rfl⟩, rfl⟩
      · obtain ⟨p0, p1, p2, p3⟩ := I.out.prod HD.out.q (by omega)
        have hp := Ck.u64w p0 p1
        by_cases c3 : 4294967296 * r + u1 < q * b
        · have hq1 : 0 ≤ q - 1 := by have := I.out.over HD.out.q (.inr c3); have := HD.out.q.dig; omega
          by_cases c2 : r + a < 4294967296
          · go_wp2
            go_round
            case rel => exact ⟨q - 1, r + a, I.out.dec HD.out.q (.inr c3) c2, rfl, rfl⟩
            case measure => simp [intOf]; omega
          · go_wp2
            go_meet
            exact ⟨ret_int (I.out.brk HD.out.q (.inr c3) (by omega)), ⟨_, rfl⟩, rfl⟩
        · go_wp2
          go_meet
          exact ⟨ret_int (I.out.stop HD.out.q (by omega)), ⟨_, rfl⟩, rfl⟩
  case rest =>
    obtain ⟨rfl, ⟨r, rfl⟩, rfl⟩ := hcut
    obtain ⟨Q1, hQ1⟩ : ∃ Q, (H * 4294967296 + u1) / Y = Q := ⟨_, rfl⟩
    obtain ⟨t1, ht1⟩ : ∃ t, H * 4294967296 + u1 - Q1 * Y = t := ⟨_, rfl⟩
    have ht := (Ck.rest_wrap HD.out.q Y1 Q1 hQ1.symm).trans ht1
    have hd := HD.out.q.dig
    have hr := HD.out.q.rest
    rw [hQ1] at hd hr
    rw [ht1] at hr
    have D' : Ck.QIn Y a b t1 u0 := { HD.out.q with u0 := hr.1, uY := hr.2, v0 := v0, v1 := v1 }
    obtain ⟨hd0, hd1⟩ := hd
    obtain ⟨t10, t11⟩ := hr
    obtain ⟨q', hq'⟩ : ∃ q, t1 / a = q := ⟨_, rfl⟩
    obtain ⟨hm', m0', m1', q0', q1'⟩ := Ck.div_mul_le (H := t1) t10 (by omega) (by omega) hq'
    obtain ⟨m', hmm'⟩ : ∃ m, q' * a = m := ⟨_, rfl⟩
    replace hm' := hm'.trans hmm'
    rw [hmm'] at m0' m1'
    have Q0' := Lib.hid (show Ck.QInv Y a b t1 u0 q' (t1 - m') from by have := D'.start; rw [hq', hmm'] at this; exact this)
    clear hmm'
    have DD := Lib.hid D'
    clear D'
    simp only [hQ1]
    have HQ1 := Lib.hid hQ1
    have HT1 := Lib.hid ht1
    clear hQ1 ht1
    go_upto_block 2 with fail
    simp only [hq']
    clear hq' hm'
    go_cut [18, 16] (fun v v' wx => v = .int .u64 ((t1 * 4294967296 + u0) / Y) ∧ (∃ r, v' = .int .u64 r) ∧ w = wx)
    case first =>
      go_wp2_with fail
      go_loop [18, 16] (fun v v' => ∃ q r, Hid (Ck.QInv Y a b t1 u0 q r) ∧ v = .int .u64 q ∧ v' = .int .u64 r) (fun v _ => (intOf v).toNat)
      case atStart => exact ⟨q', t1 - m', Q0', rfl, rfl⟩
      case round =>
        obtain ⟨q, r, I, rfl, rfl⟩ := hrel
        have r0 := I.out.r0
        have r1 := I.out.r1
        have g0 := I.out.q0
        have g1 := I.out.q1
        by_cases c1 : 4294967296 ≤ q
        · by_cases c2 : r + a < 4294967296
          · go_wp2
            go_round
            case rel => exact ⟨q - 1, r + a, I.out.dec DD.out (.inl c1) c2, rfl, rfl⟩
            case measure => simp [intOf]; omega
          · go_wp2
            go_meet
            exact ⟨ret_int (I.out.brk DD.out (.inl c1) (by omega)), ⟨_, rfl⟩, rfl⟩
        · obtain ⟨p0, p1, p2, p3⟩ := I.out.prod DD.out (by omega)
          have hp := Ck.u64w p0 p1
          by_cases c3 : 4294967296 * r + u0 < q * b
          · have hq1 : 0 ≤ q - 1 := by have := I.out.over DD.out (.inr c3); have := DD.out.dig; omega
            by_cases c2 : r + a < 4294967296
            · go_wp2
              go_round
              case rel => exact ⟨q - 1, r + a, I.out.dec DD.out (.inr c3) c2, rfl, rfl⟩
              case measure => simp [intOf]; omega
            · go_wp2
              go_meet
              exact ⟨ret_int (I.out.brk DD.out (.inr c3) (by omega)), ⟨_, rfl⟩, rfl⟩
          · go_wp2
            go_meet
            exact ⟨ret_int (I.out.stop DD.out (by omega)), ⟨_, rfl⟩, rfl⟩
    case rest =>
      obtain ⟨rfl, ⟨r, rfl⟩, rfl⟩ := hcut
      obtain ⟨Q2, hQ2⟩ : ∃ Q, (t1 * 4294967296 + u0) / Y = Q := ⟨_, rfl⟩
      obtain ⟨t0, ht0⟩ : ∃ t, t1 * 4294967296 + u0 - Q2 * Y = t := ⟨_, rfl⟩
      have ht' := (Ck.rest_wrap DD.out Y1 Q2 hQ2.symm).trans ht0
      have hd := DD.out.dig
      have hr := DD.out.rest
      rw [hQ2] at hd hr
      rw [ht0] at hr
      obtain ⟨hd0', hd1'⟩ := hd
      obtain ⟨t00, t01⟩ := hr
      simp only [hQ2]
      have yP := HD.out.yP
      have hfin := Ck.two_digits (N := hi * 18446744073709551616 + lo) (y := y) (P := 2 ^ s) (H := H) (un1 := u1) (un0 := u0) (q1 := Q1) (q0 := Q2) (t1 := t1) (t0 := t0) HD.out.P1 (by omega) HD.out.N (by rw [← yP, HT1.out]) (by rw [← yP, ht0]) t00 (by rw [← yP]; exact t01)
      clear yP
      have HF := Lib.hid hfin
      clear hfin ht0
      have hQ2' := Lib.hid hQ2
      clear hQ2
      go_wp2_with fail
      go_ret2
      refine ⟨?_, rfl⟩
      rw [← HF.out.1, ← HF.out.2]
      rfl

theorem div64_small (lo y : Int) (w : World) (h1 : 0 < y) (hy : y ≤ 18446744073709551615) (l0 : 0 ≤ lo) (l1 : lo ≤ 18446744073709551615) :
    Calls Tryz.prog 92 #[.int .u64 0, .int .u64 lo, .int .u64 y] w fun e w' => e = .returned (.tuple #[.int .u64 (lo / y), .int .u64 (lo % y)]) ∧ ∃ n, w' = w.drewN n := by
  have hy0 : ¬ y = 0 := by omega
  go_enter Tryz.func92, Tryz.ntmps92
  go_wp2_with fail
  go_quiet (fail)
  go_wp2
  go_ret2
  exact ⟨rfl, _, rfl⟩
end Go.Proofs.YtebacmmfjadalaaGreat

namespace Go.Proofs.YtebacmmfjadalaaGreat
open Go.RowKit

theorem within_any (n m : Int) (w : World) (h0 : 0 ≤ m) (h1 : m ≤ 9223372036854775807) :
    Calls Tryz.prog 48 #[.int .i64 n, .int .i64 m] w fun e w' => e = .returned (.bool (decide (-m ≤ n ∧ n ≤ m))) ∧ w = w' := by
  by_cases a : -m ≤ n
  · by_cases b : n ≤ m
    · go_enter Tryz.func48, Tryz.ntmps48
      go_wp2
      go_ret
      exact ⟨by simp [a, b], rfl⟩
    · have c : decide (-m ≤ n ∧ n ≤ m) = false := by simp; omega
      rw [c]
      clear c
      go_enter Tryz.func48, Tryz.ntmps48
      go_wp2
      go_ret
      exact ⟨rfl, rfl⟩
  · have c : decide (-m ≤ n ∧ n ≤ m) = false := by simp; omega
    rw [c]
    clear c
    go_enter Tryz.func48, Tryz.ntmps48
    go_wp2
    go_ret
    exact ⟨rfl, rfl⟩

theorem amount_any (n : Int) (w : World) (h0 : -9223372036854775808 ≤ n) (h1 : n ≤ 9223372036854775807) :
    Calls Tryz.prog 91 #[.int .i64 n] w fun e w' => e = .returned (.int .u64 (n.natAbs : Int)) ∧ w = w' := by
  by_cases a : n < 0
  · go_enter Tryz.func91, Tryz.ntmps91
    go_wp2
    go_ret
    exact ⟨congrArg Ending.returned (ret_int (by simp only [IntKind.wrap_u64]; omega)), rfl⟩
  · go_enter Tryz.func91, Tryz.ntmps91
    go_wp2
    go_ret
    exact ⟨congrArg Ending.returned (ret_int (by omega)), rfl⟩

/-- a product, as the program keeps it -/
def wide (p : Int) : Value := .agg #[.bool (decide (p < 0)), .int .u64 ((p.natAbs / 18446744073709551616 : Nat) : Int), .int .u64 ((p.natAbs % 18446744073709551616 : Nat) : Int)]

theorem or_zero {a b : Int} (a0 : 0 ≤ a) (a1 : a ≤ 18446744073709551615) (b0 : 0 ≤ b) (b1 : b ≤ 18446744073709551615) : (bits .or .u64 a b != 0) = !(decide (a = 0 ∧ b = 0)) := by
  rw [u64_or _ _ a0 (by omega) b0 (by omega)]
  have : (a.toNat ||| b.toNat = 0) ↔ (a = 0 ∧ b = 0) := by rw [Nat.or_eq_zero_iff]; omega
  rw [Bool.eq_iff_iff]
  simp
  omega

theorem wide_eq {a b : Int} {p : Nat} (h : (a * b).natAbs = p) {n : Bool} (hn : n = decide (a * b < 0)) :
    wide (a * b) = .agg #[.bool n, .int .u64 ((p : Int) / 18446744073709551616), .int .u64 ((p : Int) % 18446744073709551616)] := by
  subst hn
  simp [wide, h]
theorem neg_mixed {x : Int} {p : Nat} (hx : x ≤ 0) (h : x.natAbs = p) (hp : (p : Int) ≤ 340282366920938463463374607431768211455) :
    (bits .or .u64 ((p : Int) / 18446744073709551616) ((p : Int) % 18446744073709551616) != 0) = decide (x < 0) := by
  rw [or_zero (by omega) (by omega) (by omega) (by omega)]
  rw [Bool.eq_iff_iff]
  simp
  omega
theorem mul_abs_le {a b : Nat} (ha : a ≤ 9223372036854775808) (hb : b ≤ 9223372036854775808) : a * b ≤ 85070591730234615865843651857942052864 := Nat.mul_le_mul ha hb

set_option maxHeartbeats 400000 in
theorem times_any (a b : Int) (w : World) (a0 : -9223372036854775808 ≤ a) (a1 : a ≤ 9223372036854775807) (b0 : -9223372036854775808 ≤ b) (b1 : b ≤ 9223372036854775807) :
    Calls Tryz.prog 73 #[.int .i64 a, .int .i64 b] w fun e w' => e = .returned (wide (a * b)) ∧ Below w.heap.size w w' := by
  obtain ⟨p, hp⟩ : ∃ p, a.natAbs * b.natAbs = p := ⟨_, rfl⟩
  have hp' : (a * b).natAbs = p := by rw [Int.natAbs_mul, hp]
  have hm := Tryz.bits_Mul64 a.natAbs b.natAbs (by omega) (by omega)
  have hpb : (p : Int) ≤ 85070591730234615865843651857942052864 := by
    have := mul_abs_le (a := a.natAbs) (b := b.natAbs) (by omega) (by omega)
    omega
  rw [hp] at hm
  have HM := Lib.hid hm
  have HP' := Lib.hid hp'
  have HB := Lib.hid hpb
  clear hm hp hp' hpb
  by_cases ca : a < 0 <;> by_cases cb : b < 0
  · have hs : 0 ≤ a * b := Int.mul_nonneg_of_nonpos_of_nonpos (by omega) (by omega)
    rw [wide_eq (n := false) HP'.out (by simpa using hs)]
    clear hs
    go_enter Tryz.func73, Tryz.ntmps73
    go_wp2_with (first | (go_at_call 91; refine (amount_any _ _ (by assumption) (by assumption)).mono ?_; rintro e w' ⟨rfl, rfl⟩) | (go_at_call 90; refine (HM.out _).mono ?_; rintro e w' ⟨rfl, rfl⟩))
    exact bodyPost_ret (by simp [results, Tryz.results73, go_sem]) rfl ⟨rfl, (Below.refl _ _).alloc (Nat.le_refl _) _⟩
  · have hs : a * b ≤ 0 := Int.mul_nonpos_of_nonpos_of_nonneg (by omega) (by omega)
    have cb' : decide (b < 0) = false := by simpa using cb
    rw [wide_eq HP'.out (neg_mixed hs HP'.out (by have := HB.out; omega))]
    clear hs
    go_enter Tryz.func73, Tryz.ntmps73
    go_wp2_with (first | (go_at_call 91; refine (amount_any _ _ (by assumption) (by assumption)).mono ?_; rintro e w' ⟨rfl, rfl⟩) | (go_at_call 90; refine (HM.out _).mono ?_; rintro e w' ⟨rfl, rfl⟩))
    exact bodyPost_ret (by simp [results, Tryz.results73, go_sem]) rfl ⟨rfl, (Below.refl _ _).alloc (Nat.le_refl _) _⟩
  · have hs : a * b ≤ 0 := Int.mul_nonpos_of_nonneg_of_nonpos (by omega) (by omega)
    have ca' : decide (a < 0) = false := by simpa using ca
    rw [wide_eq HP'.out (neg_mixed hs HP'.out (by have := HB.out; omega))]
    clear hs
    go_enter Tryz.func73, Tryz.ntmps73
    go_wp2_with (first | (go_at_call 91; refine (amount_any _ _ (by assumption) (by assumption)).mono ?_; rintro e w' ⟨rfl, rfl⟩) | (go_at_call 90; refine (HM.out _).mono ?_; rintro e w' ⟨rfl, rfl⟩))
    exact bodyPost_ret (by simp [results, Tryz.results73, go_sem]) rfl ⟨rfl, (Below.refl _ _).alloc (Nat.le_refl _) _⟩
  · have hs : 0 ≤ a * b := Int.mul_nonneg (by omega) (by omega)
    have ca' : decide (a < 0) = false := by simpa using ca
    have cb' : decide (b < 0) = false := by simpa using cb
    rw [wide_eq (n := false) HP'.out (by simpa using hs)]
    clear hs
    go_enter Tryz.func73, Tryz.ntmps73
    go_wp2_with (first | (go_at_call 91; refine (amount_any _ _ (by assumption) (by assumption)).mono ?_; rintro e w' ⟨rfl, rfl⟩) | (go_at_call 90; refine (HM.out _).mono ?_; rintro e w' ⟨rfl, rfl⟩))
    exact bodyPost_ret (by simp [results, Tryz.results73, go_sem]) rfl ⟨rfl, (Below.refl _ _).alloc (Nat.le_refl _) _⟩

theorem div64_any (hi lo y : Int) (w : World) (h0 : 0 ≤ hi) (h1 : hi < y) (hy : y ≤ 18446744073709551615) (l0 : 0 ≤ lo) (l1 : lo ≤ 18446744073709551615) :
    Calls Tryz.prog 92 #[.int .u64 hi, .int .u64 lo, .int .u64 y] w fun e w' => e = .returned (.tuple #[.int .u64 ((hi * 18446744073709551616 + lo) / y), .int .u64 ((hi * 18446744073709551616 + lo) % y)]) ∧ ∃ n, w' = w.drewN n := by
  by_cases h : hi = 0
  · subst h
    simpa using div64_small lo y w h1 hy l0 l1
  · exact (div64_big hi lo y w (by omega) h1 hy l0 l1).mono fun e w' ⟨a, b⟩ => ⟨a, 0, by rw [← b]; rfl⟩

theorem below_drewN {B : Nat} {a w : World} (h : Below B a w) (n : Nat) : Below B a (w.drewN n) := ⟨h.os, h.tape, h.output, h.size, h.block⟩

/-- what 'over' answers, out of the quotient and the rest of the amounts -/
def overV (neg : Bool) (q r : Int) : Int := if 4611686018427387904 < q then 0 else if neg then (if r = 0 then -q else -q - 1) else q

set_option maxHeartbeats 400000 in
theorem over_core (neg : Bool) (hi lo d : Int) (w : World) (h0 : 0 ≤ hi) (_h1 : hi ≤ 18446744073709551615) (l0 : 0 ≤ lo) (l1 : lo ≤ 18446744073709551615) (d0 : 0 < d) (d1 : d ≤ 9223372036854775807) (q r : Int)
    (hq : (hi * 18446744073709551616 + lo) / d = q) (hr : (hi * 18446744073709551616 + lo) % d = r) (hlt : hi < d) (q0 : 0 ≤ q) :
    Calls Tryz.prog 74 #[.agg #[.bool neg, .int .u64 hi, .int .u64 lo], .int .i64 d] w fun e w' => e = .returned (.tuple #[.int .i64 (overV neg q r), .bool (decide (q ≤ 4611686018427387904))]) ∧ Below w.heap.size w w' := by
  have hd := div64_any hi lo d
  rw [hq, hr] at hd
  have HD := Lib.hid hd
  clear hd hq hr
  by_cases c : 4611686018427387904 < q
  · rw [show overV neg q r = 0 from if_pos c, show decide (q ≤ 4611686018427387904) = false by simpa using c]
    go_enter Tryz.func74, Tryz.ntmps74
    go_wp2_with (go_at_call 92; refine (HD.out _ (by omega) (by omega) (by omega) (by omega) (by omega)).mono ?_; rintro e w' ⟨rfl, n, rfl⟩)
    go_ret2
    exact ⟨rfl, below_drewN ((Below.refl _ _).alloc (Nat.le_refl _) _) _⟩
  · have c' : ¬ 4611686018427387904 < q := c
    rw [show decide (q ≤ 4611686018427387904) = true by simp; omega]
    cases neg
    · rw [show overV false q r = q by simp [overV, c]]
      go_enter Tryz.func74, Tryz.ntmps74
      go_wp2_with (go_at_call 92; refine (HD.out _ (by omega) (by omega) (by omega) (by omega) (by omega)).mono ?_; rintro e w' ⟨rfl, n, rfl⟩)
      go_ret2
      exact ⟨rfl, below_drewN ((Below.refl _ _).alloc (Nat.le_refl _) _) _⟩
    · by_cases hr0 : r = 0
      · rw [show overV true q r = -q by simp [overV, c, hr0]]
        go_enter Tryz.func74, Tryz.ntmps74
        go_wp2_with (go_at_call 92; refine (HD.out _ (by omega) (by omega) (by omega) (by omega) (by omega)).mono ?_; rintro e w' ⟨rfl, n, rfl⟩)
        go_ret2
        exact ⟨rfl, below_drewN ((Below.refl _ _).alloc (Nat.le_refl _) _) _⟩
      · rw [show overV true q r = -q - 1 by simp [overV, c, hr0]]
        have hr1 : (r != 0) = true := by simpa using hr0
        go_enter Tryz.func74, Tryz.ntmps74
        go_wp2_with (go_at_call 92; refine (HD.out _ (by omega) (by omega) (by omega) (by omega) (by omega)).mono ?_; rintro e w' ⟨rfl, n, rfl⟩)
        go_ret2
        exact ⟨rfl, below_drewN ((Below.refl _ _).alloc (Nat.le_refl _) _) _⟩

theorem over_high (neg : Bool) (hi lo d : Int) (w : World) (_h1 : hi ≤ 18446744073709551615) (d0 : 0 < d) (d1 : d ≤ 9223372036854775807) (hlt : d ≤ hi) :
    Calls Tryz.prog 74 #[.agg #[.bool neg, .int .u64 hi, .int .u64 lo], .int .i64 d] w fun e w' => e = .returned (.tuple #[.int .i64 0, .bool false]) ∧ Below w.heap.size w w' := by
  go_enter Tryz.func74, Tryz.ntmps74
  go_wp2_with fail
  go_ret2
  exact ⟨rfl, (Below.refl _ _).alloc (Nat.le_refl _) _⟩

theorem overV_eq {p d : Int} (d0 : 0 < d) (hf : Ck.fits p d = true) : overV (decide (p < 0)) ((p.natAbs : Int) / d) ((p.natAbs : Int) % d) = p / d := by
  simp only [Ck.fits, decide_eq_true_eq] at hf
  obtain ⟨q, r, e, hp, r0, r1⟩ := Ck.fl (p.natAbs : Int) d d0
  have er : (p.natAbs : Int) % d = r := by rw [Int.emod_def, e]; omega
  rw [e] at hf
  rw [er, e]
  by_cases c : p < 0
  · have hp' : p = -(d * q + r) := by omega
    simp only [overV, if_neg (by omega : ¬ 4611686018427387904 < q), decide_eq_true c, if_true]
    split
    · rename_i h0
      exact (Ck.fl_unique (q := -q) (r := 0) d0 (by rw [Int.mul_neg]; omega) (by omega) (by omega)).symm
    · exact (Ck.fl_unique (q := -q - 1) (r := d - r) d0 (by rw [Int.mul_sub, Int.mul_neg]; omega) (by omega) (by omega)).symm
  · have hp' : p = d * q + r := by omega
    simp only [overV, if_neg (by omega : ¬ 4611686018427387904 < q), decide_eq_false c]
    exact (Ck.fl_unique (q := q) (r := r) d0 hp' r0 r1).symm

/-- 'over' of a product -/
theorem over_any (p d : Int) (w : World) (d0 : 0 < d) (d1 : d ≤ 9223372036854775807) (hp : (p.natAbs : Int) ≤ 340282366920938463463374607431768211455) :
    Calls Tryz.prog 74 #[wide p, .int .i64 d] w fun e w' => e = .returned (.tuple #[.int .i64 (if Ck.fits p d then p / d else 0), .bool (Ck.fits p d)]) ∧ Below w.heap.size w w' := by
  have hn : ((p.natAbs / 18446744073709551616 : Nat) : Int) * 18446744073709551616 + ((p.natAbs % 18446744073709551616 : Nat) : Int) = (p.natAbs : Int) := by omega
  have q0 : 0 ≤ (p.natAbs : Int) / d := Int.ediv_nonneg (by omega) (by omega)
  by_cases h : ((p.natAbs / 18446744073709551616 : Nat) : Int) < d
  · have hc := over_core (decide (p < 0)) ((p.natAbs / 18446744073709551616 : Nat) : Int) ((p.natAbs % 18446744073709551616 : Nat) : Int) d w (by omega) (by omega) (by omega) (by omega) d0 d1 _ _ rfl rfl h (by rw [hn]; exact q0)
    rw [hn] at hc
    refine hc.mono fun e w' ⟨he, hb⟩ => ⟨?_, hb⟩
    rw [he]
    have hfe : Ck.fits p d = decide ((p.natAbs : Int) / d ≤ 4611686018427387904) := rfl
    by_cases hf : Ck.fits p d = true
    · rw [overV_eq d0 hf, ← hfe, hf]; rfl
    · have hf' : Ck.fits p d = false := by simpa using hf
      rw [← hfe, hf']
      have : 4611686018427387904 < (p.natAbs : Int) / d := by simpa [Ck.fits] using hf
      simp [overV, this]
  · refine (over_high (decide (p < 0)) ((p.natAbs / 18446744073709551616 : Nat) : Int) ((p.natAbs % 18446744073709551616 : Nat) : Int) d w (by omega) d0 d1 (by omega)).mono fun e w' ⟨he, hb⟩ => ⟨?_, hb⟩
    have hf' : Ck.fits p d = false := by
      simp only [Ck.fits, decide_eq_false_iff_not]
      have : 4611686018427387905 ≤ (p.natAbs : Int) / d := by
        rw [Int.le_ediv_iff_mul_le d0]
        have : 4611686018427387905 * d ≤ 18446744073709551616 * d := Int.mul_le_mul_of_nonneg_right (by omega) (by omega)
        omega
      omega
    rw [he, hf']; rfl
end Go.Proofs.YtebacmmfjadalaaGreat

namespace Go.Proofs.YtebacmmfjadalaaGreat
open Go Go.RowKit

/-- three ways of two numbers -/
def cmpO (a b : Int) : Int := if a < b then -1 else if b < a then 1 else 0

theorem cmp64_any (a b : Int) (w : World) : Calls Tryz.prog 99 #[.int .i64 a, .int .i64 b] w fun e w' => e = .returned (.int .i64 (cmpO a b)) ∧ w = w' := by
  unfold cmpO
  by_cases h : a < b
  · rw [if_pos h]
    go_enter Tryz.func99, Tryz.ntmps99
    go_wp2
    go_ret
    exact ⟨rfl, rfl⟩
  · rw [if_neg h]
    by_cases h2 : b < a
    · rw [if_pos h2]
      go_enter Tryz.func99, Tryz.ntmps99
      go_wp2
      go_ret
      exact ⟨rfl, rfl⟩
    · rw [if_neg h2]
      go_enter Tryz.func99, Tryz.ntmps99
      go_wp2
      go_ret
      exact ⟨rfl, rfl⟩
theorem cmpI_any (a b : Int) (w : World) : Calls Tryz.prog 100 #[.int .i64 a, .int .i64 b] w fun e w' => e = .returned (.int .i64 (cmpO a b)) ∧ w = w' := by
  unfold cmpO
  by_cases h : a < b
  · rw [if_pos h]
    go_enter Tryz.func100, Tryz.ntmps100
    go_wp2
    go_ret
    exact ⟨rfl, rfl⟩
  · rw [if_neg h]
    by_cases h2 : b < a
    · rw [if_pos h2]
      go_enter Tryz.func100, Tryz.ntmps100
      go_wp2
      go_ret
      exact ⟨rfl, rfl⟩
    · rw [if_neg h2]
      go_enter Tryz.func100, Tryz.ntmps100
      go_wp2
      go_ret
      exact ⟨rfl, rfl⟩
theorem cmpU_any (a b : Int) (w : World) : Calls Tryz.prog 101 #[.int .u32 a, .int .u32 b] w fun e w' => e = .returned (.int .i64 (cmpO a b)) ∧ w = w' := by
  unfold cmpO
  by_cases h : a < b
  · rw [if_pos h]
    go_enter Tryz.func101, Tryz.ntmps101
    go_wp2
    go_ret
    exact ⟨rfl, rfl⟩
  · rw [if_neg h]
    by_cases h2 : b < a
    · rw [if_pos h2]
      go_enter Tryz.func101, Tryz.ntmps101
      go_wp2
      go_ret
      exact ⟨rfl, rfl⟩
    · rw [if_neg h2]
      go_enter Tryz.func101, Tryz.ntmps101
      go_wp2
      go_ret
      exact ⟨rfl, rfl⟩

/-- the first that is not nought -/
def orL : List Int → Int
  | [] => 0
  | x :: l => if x = 0 then orL l else x
theorem orL_zero {xs : List Int} : ∀ {k : Nat}, (∀ j, j < k → xs.getD j 0 = 0) → k ≤ xs.length → orL xs = orL (xs.drop k)
  | 0, _, _ => by simp
  | k + 1, h, hk => by
    rw [orL_zero (k := k) (fun j hj => h j (by omega)) (by omega)]
    have h1 := h k (by omega)
    have h2 : xs.drop k = xs.getD k 0 :: xs.drop (k + 1) := by
      rw [List.getD_eq_getElem?_getD, List.getElem?_eq_getElem (by omega : k < xs.length)]
      exact List.drop_eq_getElem_cons (by omega)
    rw [h2, orL, if_pos h1]
theorem orL_at {xs : List Int} {k : Nat} (h : ∀ j, j < k → xs.getD j 0 = 0) (hk : k < xs.length) (hx : xs.getD k 0 ≠ 0) : orL xs = xs.getD k 0 := by
  rw [orL_zero h (by omega)]
  have h2 : xs.drop k = xs.getD k 0 :: xs.drop (k + 1) := by
    rw [List.getD_eq_getElem?_getD, List.getElem?_eq_getElem hk]
    exact List.drop_eq_getElem_cons hk
  rw [h2, orL, if_neg hx]

set_option maxHeartbeats 400000 in
theorem or_any (g c n : Nat) (xs : List Int) (w : World) (hn : xs.length = n) (hc : ∀ j, j < n → w.cell? ⟨g, j, none⟩ = some (.int .i64 (xs.getD j 0))) (h63 : n ≤ 9223372036854775807) :
    Calls Tryz.prog 98 #[.slice (some ⟨g, 0, none⟩) n c] w fun e w' => e = .returned (.int .i64 (orL xs)) ∧ Below w.heap.size w w' := by
  have HC := Lib.hid hc
  have HN := Lib.hid hn
  clear hc hn
  go_enter Tryz.func98, Tryz.ntmps98
  go_wp2_with fail
  go_loopw [8] (fun i wr => ∃ k : Nat, k ≤ n ∧ i = .int .i64 (k : Int) ∧ Hid (∀ j, j < k → xs.getD j 0 = 0) ∧ w = wr) (fun i _ => n - (intOf i).toNat)
  case atStart => exact ⟨0, by omega, rfl, Lib.hid (fun j hj => by omega), rfl⟩
  case round =>
    obtain ⟨k, hk, rfl, hz, rfl⟩ := hrel
    by_cases hlt : k < n
    · obtain ⟨x, hx⟩ : ∃ x, xs.getD k 0 = x := ⟨_, rfl⟩
      have hcell := HC.out k hlt
      rw [hx] at hcell
      have HX := Lib.hid hx
      clear hx
      have hki : (k : Int) < (n : Int) := by omega
      by_cases h0 : x = 0
      · subst h0
        go_wp2_with fail
        go_roundw
        case rel => exact ⟨k + 1, by omega, by go_num, Lib.hid (fun j hj => by
            rcases Nat.lt_or_ge j k with h | h
            · exact hz.out j h
            · rw [show j = k by omega]; exact HX.out), by first | rfl | trivial⟩
        case measure => simp [intOf]; omega
      · have h0' : (x == 0) = false := by simpa using h0
        go_wp2_with fail
        go_ret
        exact ⟨by rw [orL_at hz.out (by have := HN.out; omega) (by rw [HX.out]; exact h0), HX.out]; rfl, Below.refl _ _⟩
    · have hkn : k = n := by omega
      subst hkn
      go_wp2_with fail
      go_ret
      exact ⟨by rw [orL_zero hz.out (by have := HN.out; omega), List.drop_eq_nil_of_le (by have := HN.out; omega)]; rfl, Below.refl _ _⟩
end Go.Proofs.YtebacmmfjadalaaGreat
