/- Contracts of within, amount, times, over: products and floors in two words. Conditions: the arguments fit 64 bits, the divisor is above 0. -/
import Derived.Test.YtebacmmfjadalaaA2
namespace Go.Proofs.Ytebacmmfjadalaa
open Go.RowKit

theorem within_any (n m : Int) (w : World) (h0 : 0 ≤ m) (h1 : m ≤ 9223372036854775807) :
    Calls Try.prog 54 #[.int .i64 n, .int .i64 m] w fun e w' => e = .returned (.bool (decide (-m ≤ n ∧ n ≤ m))) ∧ w = w' := by
  by_cases a : -m ≤ n
  · by_cases b : n ≤ m
    · go_enter Try.func54, Try.ntmps54
      go_wp2
      go_ret
      exact ⟨by simp [a, b], rfl⟩
    · have c : decide (-m ≤ n ∧ n ≤ m) = false := by simp; omega
      rw [c]
      clear c
      go_enter Try.func54, Try.ntmps54
      go_wp2
      go_ret
      exact ⟨rfl, rfl⟩
  · have c : decide (-m ≤ n ∧ n ≤ m) = false := by simp; omega
    rw [c]
    clear c
    go_enter Try.func54, Try.ntmps54
    go_wp2
    go_ret
    exact ⟨rfl, rfl⟩

theorem amount_any (n : Int) (w : World) (h0 : -9223372036854775808 ≤ n) (h1 : n ≤ 9223372036854775807) :
    Calls Try.prog 79 #[.int .i64 n] w fun e w' => e = .returned (.int .u64 (n.natAbs : Int)) ∧ w = w' := by
  by_cases a : n < 0
  · go_enter Try.func79, Try.ntmps79
    go_wp2
    go_ret
    exact ⟨congrArg Ending.returned (ret_int (by simp only [IntKind.wrap_u64]; omega)), rfl⟩
  · go_enter Try.func79, Try.ntmps79
    go_wp2
    go_ret
    exact ⟨congrArg Ending.returned (ret_int (by omega)), rfl⟩

/-- a product, as the program keeps it -/
def wide (p : Int) : Value := .agg #[.bool (decide (p < 0)), .int .u64 ((p.natAbs / 18446744073709551616 : Nat) : Int), .int .u64 ((p.natAbs % 18446744073709551616 : Nat) : Int)]

theorem or_zero {a b : Int} (a0 : 0 ≤ a) (a1 : a ≤ 18446744073709551615) (b0 : 0 ≤ b) (b1 : b ≤ 18446744073709551615) : (bits .or .u64 a b != 0) = !(decide (a = 0 ∧ b = 0)) := by
  rw [u64_or _ _ a0 (by omega) b0 (by omega)]
  have : (a.toNat ||| b.toNat = 0) ↔ (a = 0 ∧ b = 0) := by rw [Nat.or_eq_zero_iff]; omega
  rw [Bool.eq_iff_iff]
  simp
  omega

theorem wide_eq {a b : Int} {p : Nat} (h : (a * b).natAbs = p) {n : Bool} (hn : n = decide (a * b < 0)) :
    wide (a * b) = .agg #[.bool n, .int .u64 ((p : Int) / 18446744073709551616), .int .u64 ((p : Int) % 18446744073709551616)] := by
  subst hn
  simp [wide, h]
theorem neg_mixed {x : Int} {p : Nat} (hx : x ≤ 0) (h : x.natAbs = p) (hp : (p : Int) ≤ 340282366920938463463374607431768211455) :
    (bits .or .u64 ((p : Int) / 18446744073709551616) ((p : Int) % 18446744073709551616) != 0) = decide (x < 0) := by
  rw [or_zero (by omega) (by omega) (by omega) (by omega)]
  rw [Bool.eq_iff_iff]
  simp
  omega
theorem mul_abs_le {a b : Nat} (ha : a ≤ 9223372036854775808) (hb : b ≤ 9223372036854775808) : a * b ≤ 85070591730234615865843651857942052864 := Nat.mul_le_mul ha hb

set_option maxHeartbeats 400000 in
theorem times_any (a b : Int) (w : World) (a0 : -9223372036854775808 ≤ a) (a1 : a ≤ 9223372036854775807) (b0 : -9223372036854775808 ≤ b) (b1 : b ≤ 9223372036854775807) :
    Calls Try.prog 71 #[.int .i64 a, .int .i64 b] w fun e w' => e = .returned (wide (a * b)) ∧ Below w.heap.size w w' := by
  obtain ⟨p, hp⟩ : ∃ p, a.natAbs * b.natAbs = p := ⟨_, rfl⟩
  have hp' : (a * b).natAbs = p := by rw [Int.natAbs_mul, hp]
  have hm := Try.bits_Mul64 a.natAbs b.natAbs (by omega) (by omega)
  have hpb : (p : Int) ≤ 85070591730234615865843651857942052864 := by
    have := mul_abs_le (a := a.natAbs) (b := b.natAbs) (by omega) (by omega)
    omega
  rw [hp] at hm
  have HM := Lib.hid hm
  have HP' := Lib.hid hp'
  have HB := Lib.hid hpb
  clear hm hp hp' hpb
  by_cases ca : a < 0 <;> by_cases cb : b < 0
  · have hs : 0 ≤ a * b := Int.mul_nonneg_of_nonpos_of_nonpos (by omega) (by omega)
    rw [wide_eq (n := false) HP'.out (by simpa using hs)]
    clear hs
    go_enter Try.func71, Try.ntmps71
    go_wp2_with (first | (go_at_call 79; refine (amount_any _ _ (by assumption) (by assumption)).mono ?_; rintro e w' ⟨rfl, rfl⟩) | (go_at_call 78; refine (HM.out _).mono ?_; rintro e w' ⟨rfl, rfl⟩))
    exact bodyPost_ret (by simp [results, Try.results71, go_sem]) rfl ⟨rfl, (Below.refl _ _).alloc (Nat.le_refl _) _⟩
  · have hs : a * b ≤ 0 := Int.mul_nonpos_of_nonpos_of_nonneg (by omega) (by omega)
    have cb' : decide (b < 0) = false := by simpa using cb
    rw [wide_eq HP'.out (neg_mixed hs HP'.out (by have := HB.out; omega))]
    clear hs
    go_enter Try.func71, Try.ntmps71
    go_wp2_with (first | (go_at_call 79; refine (amount_any _ _ (by assumption) (by assumption)).mono ?_; rintro e w' ⟨rfl, rfl⟩) | (go_at_call 78; refine (HM.out _).mono ?_; rintro e w' ⟨rfl, rfl⟩))
    exact bodyPost_ret (by simp [results, Try.results71, go_sem]) rfl ⟨rfl, (Below.refl _ _).alloc (Nat.le_refl _) _⟩
  · have hs : a * b ≤ 0 := Int.mul_nonpos_of_nonneg_of_nonpos (by omega) (by omega)
    have ca' : decide (a < 0) = false := by simpa using ca
    rw [wide_eq HP'.out (neg_mixed hs HP'.out (by have := HB.out; omega))]
    clear hs
    go_enter Try.func71, Try.ntmps71
    go_wp2_with (first | (go_at_call 79; refine (amount_any _ _ (by assumption) (by assumption)).mono ?_; rintro e w' ⟨rfl, rfl⟩) | (go_at_call 78; refine (HM.out _).mono ?_; rintro e w' ⟨rfl, rfl⟩))
    exact bodyPost_ret (by simp [results, Try.results71, go_sem]) rfl ⟨rfl, (Below.refl _ _).alloc (Nat.le_refl _) _⟩
  · have hs : 0 ≤ a * b := Int.mul_nonneg (by omega) (by omega)
    have ca' : decide (a < 0) = false := by simpa using ca
    have cb' : decide (b < 0) = false := by simpa using cb
    rw [wide_eq (n := false) HP'.out (by simpa using hs)]
    clear hs
    go_enter Try.func71, Try.ntmps71
    go_wp2_with (first | (go_at_call 79; refine (amount_any _ _ (by assumption) (by assumption)).mono ?_; rintro e w' ⟨rfl, rfl⟩) | (go_at_call 78; refine (HM.out _).mono ?_; rintro e w' ⟨rfl, rfl⟩))
    exact bodyPost_ret (by simp [results, Try.results71, go_sem]) rfl ⟨rfl, (Below.refl _ _).alloc (Nat.le_refl _) _⟩

theorem div64_any (hi lo y : Int) (w : World) (h0 : 0 ≤ hi) (h1 : hi < y) (hy : y ≤ 18446744073709551615) (l0 : 0 ≤ lo) (l1 : lo ≤ 18446744073709551615) :
    Calls Try.prog 80 #[.int .u64 hi, .int .u64 lo, .int .u64 y] w fun e w' => e = .returned (.tuple #[.int .u64 ((hi * 18446744073709551616 + lo) / y), .int .u64 ((hi * 18446744073709551616 + lo) % y)]) ∧ ∃ n, w' = w.drewN n := by
  by_cases h : hi = 0
  · subst h
    simpa using div64_small lo y w h1 hy l0 l1
  · exact (div64_big hi lo y w (by omega) h1 hy l0 l1).mono fun e w' ⟨a, b⟩ => ⟨a, 0, by rw [← b]; rfl⟩

theorem below_drewN {B : Nat} {a w : World} (h : Below B a w) (n : Nat) : Below B a (w.drewN n) := ⟨h.os, h.tape, h.output, h.size, h.block⟩

/-- what 'over' answers, out of the quotient and the rest of the amounts -/
def overV (neg : Bool) (q r : Int) : Int := if 4611686018427387904 < q then 0 else if neg then (if r = 0 then -q else -q - 1) else q

set_option maxHeartbeats 400000 in
theorem over_core (neg : Bool) (hi lo d : Int) (w : World) (h0 : 0 ≤ hi) (_h1 : hi ≤ 18446744073709551615) (l0 : 0 ≤ lo) (l1 : lo ≤ 18446744073709551615) (d0 : 0 < d) (d1 : d ≤ 9223372036854775807) (q r : Int)
    (hq : (hi * 18446744073709551616 + lo) / d = q) (hr : (hi * 18446744073709551616 + lo) % d = r) (hlt : hi < d) (q0 : 0 ≤ q) :
    Calls Try.prog 72 #[.agg #[.bool neg, .int .u64 hi, .int .u64 lo], .int .i64 d] w fun e w' => e = .returned (.tuple #[.int .i64 (overV neg q r), .bool (decide (q ≤ 4611686018427387904))]) ∧ Below w.heap.size w w' := by
  have hd := div64_any hi lo d
  rw [hq, hr] at hd
  have HD := Lib.hid hd
  clear hd hq hr
  by_cases c : 4611686018427387904 < q
  · rw [show overV neg q r = 0 from if_pos c, show decide (q ≤ 4611686018427387904) = false by simpa using c]
    go_enter Try.func72, Try.ntmps72
    go_wp2_with (go_at_call 80; refine (HD.out _ (by omega) (by omega) (by omega) (by omega) (by omega)).mono ?_; rintro e w' ⟨rfl, n, rfl⟩)
    go_ret2
    exact ⟨rfl, below_drewN ((Below.refl _ _).alloc (Nat.le_refl _) _) _⟩
  · have c' : ¬ 4611686018427387904 < q := c
    rw [show decide (q ≤ 4611686018427387904) = true by simp; omega]
    cases neg
    · rw [show overV false q r = q by simp [overV, c]]
      go_enter Try.func72, Try.ntmps72
      go_wp2_with (go_at_call 80; refine (HD.out _ (by omega) (by omega) (by omega) (by omega) (by omega)).mono ?_; rintro e w' ⟨rfl, n, rfl⟩)
      go_ret2
      exact ⟨rfl, below_drewN ((Below.refl _ _).alloc (Nat.le_refl _) _) _⟩
    · by_cases hr0 : r = 0
      · rw [show overV true q r = -q by simp [overV, c, hr0]]
        go_enter Try.func72, Try.ntmps72
        go_wp2_with (go_at_call 80; refine (HD.out _ (by omega) (by omega) (by omega) (by omega) (by omega)).mono ?_; rintro e w' ⟨rfl, n, rfl⟩)
        go_ret2
        exact ⟨rfl, below_drewN ((Below.refl _ _).alloc (Nat.le_refl _) _) _⟩
      · rw [show overV true q r = -q - 1 by simp [overV, c, hr0]]
        have hr1 : (r != 0) = true := by simpa using hr0
        go_enter Try.func72, Try.ntmps72
        go_wp2_with (go_at_call 80; refine (HD.out _ (by omega) (by omega) (by omega) (by omega) (by omega)).mono ?_; rintro e w' ⟨rfl, n, rfl⟩)
        go_ret2
        exact ⟨rfl, below_drewN ((Below.refl _ _).alloc (Nat.le_refl _) _) _⟩

theorem over_high (neg : Bool) (hi lo d : Int) (w : World) (_h1 : hi ≤ 18446744073709551615) (d0 : 0 < d) (d1 : d ≤ 9223372036854775807) (hlt : d ≤ hi) :
    Calls Try.prog 72 #[.agg #[.bool neg, .int .u64 hi, .int .u64 lo], .int .i64 d] w fun e w' => e = .returned (.tuple #[.int .i64 0, .bool false]) ∧ Below w.heap.size w w' := by
  go_enter Try.func72, Try.ntmps72
  go_wp2_with fail
  go_ret2
  exact ⟨rfl, (Below.refl _ _).alloc (Nat.le_refl _) _⟩

theorem overV_eq {p d : Int} (d0 : 0 < d) (hf : Ck.fits p d = true) : overV (decide (p < 0)) ((p.natAbs : Int) / d) ((p.natAbs : Int) % d) = p / d := by
  simp only [Ck.fits, decide_eq_true_eq] at hf
  obtain ⟨q, r, e, hp, r0, r1⟩ := Ck.fl (p.natAbs : Int) d d0
  have er : (p.natAbs : Int) % d = r := by rw [Int.emod_def, e]; omega
  rw [e] at hf
  rw [er, e]
  by_cases c : p < 0
  · have hp' : p = -(d * q + r) := by omega
    simp only [overV, if_neg (by omega : ¬ 4611686018427387904 < q), decide_eq_true c, if_true]
    split
    · rename_i h0
      exact (Ck.fl_unique (q := -q) (r := 0) d0 (by rw [Int.mul_neg]; omega) (by omega) (by omega)).symm
    · exact (Ck.fl_unique (q := -q - 1) (r := d - r) d0 (by rw [Int.mul_sub, Int.mul_neg]; omega) (by omega) (by omega)).symm
  · have hp' : p = d * q + r := by omega
    simp only [overV, if_neg (by omega : ¬ 4611686018427387904 < q), decide_eq_false c]
    exact (Ck.fl_unique (q := q) (r := r) d0 hp' r0 r1).symm

/-- 'over' of a product -/
theorem over_any (p d : Int) (w : World) (d0 : 0 < d) (d1 : d ≤ 9223372036854775807) (hp : (p.natAbs : Int) ≤ 340282366920938463463374607431768211455) :
    Calls Try.prog 72 #[wide p, .int .i64 d] w fun e w' => e = .returned (.tuple #[.int .i64 (if Ck.fits p d then p / d else 0), .bool (Ck.fits p d)]) ∧ Below w.heap.size w w' := by
  have hn : ((p.natAbs / 18446744073709551616 : Nat) : Int) * 18446744073709551616 + ((p.natAbs % 18446744073709551616 : Nat) : Int) = (p.natAbs : Int) := by omega
  have q0 : 0 ≤ (p.natAbs : Int) / d := Int.ediv_nonneg (by omega) (by omega)
  by_cases h : ((p.natAbs / 18446744073709551616 : Nat) : Int) < d
  · have hc := over_core (decide (p < 0)) ((p.natAbs / 18446744073709551616 : Nat) : Int) ((p.natAbs % 18446744073709551616 : Nat) : Int) d w (by omega) (by omega) (by omega) (by omega) d0 d1 _ _ rfl rfl h (by rw [hn]; exact q0)
    rw [hn] at hc
    refine hc.mono fun e w' ⟨he, hb⟩ => ⟨?_, hb⟩
    rw [he]
    have hfe : Ck.fits p d = decide ((p.natAbs : Int) / d ≤ 4611686018427387904) := rfl
    by_cases hf : Ck.fits p d = true
    · rw [overV_eq d0 hf, ← hfe, hf]; rfl
    · have hf' : Ck.fits p d = false := by simpa using hf
      rw [← hfe, hf']
      have : 4611686018427387904 < (p.natAbs : Int) / d := by simpa [Ck.fits] using hf
      simp [overV, this]
  · refine (over_high (decide (p < 0)) ((p.natAbs / 18446744073709551616 : Nat) : Int) ((p.natAbs % 18446744073709551616 : Nat) : Int) d w (by omega) d0 d1 (by omega)).mono fun e w' ⟨he, hb⟩ => ⟨?_, hb⟩
    have hf' : Ck.fits p d = false := by
      simp only [Ck.fits, decide_eq_false_iff_not]
      have : 4611686018427387905 ≤ (p.natAbs : Int) / d := by
        rw [Int.le_ediv_iff_mul_le d0]
        have : 4611686018427387905 * d ≤ 18446744073709551616 * d := Int.mul_le_mul_of_nonneg_right (by omega) (by omega)
        omega
      omega
    rw [he, hf']; rfl
end Go.Proofs.Ytebacmmfjadalaa
