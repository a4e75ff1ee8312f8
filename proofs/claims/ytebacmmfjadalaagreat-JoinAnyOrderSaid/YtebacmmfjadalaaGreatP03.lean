/- A1 J1 M2 in one text. -/
import Derived.Test.YtebacmmfjadalaaGreatP02
import Derived.Test.YtebacmmfjadalaaGreatP01

namespace Go.Proofs.YtebacmmfjadalaaGreat
open Go.RowKit

theorem within_any (n m : Int) (w : World) (h0 : 0 ≤ m) (h1 : m ≤ 9223372036854775807) :
    Calls Tryz.prog 48 #[.int .i64 n, .int .i64 m] w fun e w' => e = .returned (.bool (decide (-m ≤ n ∧ n ≤ m))) ∧ w = w' := by
  by_cases a : -m ≤ n
  · by_cases b : n ≤ m
    · go_enter Tryz.func48, Tryz.ntmps48
      go_wp2
      go_ret
      exact ⟨by simp [a, b], rfl⟩
    · have c : decide (-m ≤ n ∧ n ≤ m) = false := by simp; omega
      rw [c]
      clear c
      go_enter Tryz.func48, Tryz.ntmps48
      go_wp2
      go_ret
      exact ⟨rfl, rfl⟩
  · have c : decide (-m ≤ n ∧ n ≤ m) = false := by simp; omega
    rw [c]
    clear c
    go_enter Tryz.func48, Tryz.ntmps48
    go_wp2
    go_ret
    exact ⟨rfl, rfl⟩

theorem amount_any (n : Int) (w : World) (h0 : -9223372036854775808 ≤ n) (h1 : n ≤ 9223372036854775807) :
    Calls Tryz.prog 91 #[.int .i64 n] w fun e w' => e = .returned (.int .u64 (n.natAbs : Int)) ∧ w = w' := by
  by_cases a : n < 0
  · go_enter Tryz.func91, Tryz.ntmps91
    go_wp2
    go_ret
    exact ⟨congrArg Ending.returned (ret_int (by simp only [IntKind.wrap_u64]; omega)), rfl⟩
  · go_enter Tryz.func91, Tryz.ntmps91
    go_wp2
    go_ret
    exact ⟨congrArg Ending.returned (ret_int (by omega)), rfl⟩

/-- a product, as the program keeps it -/
def wide (p : Int) : Value := .agg #[.bool (decide (p < 0)), .int .u64 ((p.natAbs / 18446744073709551616 : Nat) : Int), .int .u64 ((p.natAbs % 18446744073709551616 : Nat) : Int)]

theorem or_zero {a b : Int} (a0 : 0 ≤ a) (a1 : a ≤ 18446744073709551615) (b0 : 0 ≤ b) (b1 : b ≤ 18446744073709551615) : (bits .or .u64 a b != 0) = !(decide (a = 0 ∧ b = 0)) := by
  rw [u64_or _ _ a0 (by omega) b0 (by omega)]
  have : (a.toNat ||| b.toNat = 0) ↔ (a = 0 ∧ b = 0) := by rw [Nat.or_eq_zero_iff]; omega
  rw [Bool.eq_iff_iff]
  simp
  omega

theorem wide_eq {a b : Int} {p : Nat} (h : (a * b).natAbs = p) {n : Bool} (hn : n = decide (a * b < 0)) :
    wide (a * b) = .agg #[.bool n, .int .u64 ((p : Int) / 18446744073709551616), .int .u64 ((p : Int) % 18446744073709551616)] := by
  subst hn
  simp [wide, h]
theorem neg_mixed {x : Int} {p : Nat} (hx : x ≤ 0) (h : x.natAbs = p) (hp : (p : Int) ≤ 340282366920938463463374607431768211455) :
    (bits .or .u64 ((p : Int) / 18446744073709551616) ((p : Int) % 18446744073709551616) != 0) = decide (x < 0) := by
  rw [or_zero (by omega) (by omega) (by omega) (by omega)]
  rw [Bool.eq_iff_iff]
  simp
  omega
theorem mul_abs_le {a b : Nat} (ha : a ≤ 9223372036854775808) (hb : b ≤ 9223372036854775808) : a * b ≤ 85070591730234615865843651857942052864 := Nat.mul_le_mul ha hb

set_option maxHeartbeats 400000 in
theorem times_any (a b : Int) (w : World) (a0 : -9223372036854775808 ≤ a) (a1 : a ≤ 9223372036854775807) (b0 : -9223372036854775808 ≤ b) (b1 : b ≤ 9223372036854775807) :
    Calls Tryz.prog 73 #[.int .i64 a, .int .i64 b] w fun e w' => e = .returned (wide (a * b)) ∧ Below w.heap.size w w' := by
  obtain ⟨p, hp⟩ : ∃ p, a.natAbs * b.natAbs = p := ⟨_, rfl⟩
  have hp' : (a * b).natAbs = p := by rw [Int.natAbs_mul, hp]
  have hm := Tryz.bits_Mul64 a.natAbs b.natAbs (by omega) (by omega)
  have hpb : (p : Int) ≤ 85070591730234615865843651857942052864 := by
    have := mul_abs_le (a := a.natAbs) (b := b.natAbs) (by omega) (by omega)
    omega
  rw [hp] at hm
  have HM := Lib.hid hm
  have HP' := Lib.hid hp'
  have HB := Lib.hid hpb
  clear hm hp hp' hpb
  by_cases ca : a < 0 <;> by_cases cb : b < 0
  · have hs : 0 ≤ a * b := Int.mul_nonneg_of_nonpos_of_nonpos (by omega) (by omega)
    rw [wide_eq (n := false) HP'.out (by simpa using hs)]
    clear hs
    go_enter Tryz.func73, Tryz.ntmps73
    go_wp2_with (first | (go_at_call 91; refine (amount_any _ _ (by assumption) (by assumption)).mono ?_; rintro e w' ⟨rfl, rfl⟩) | (go_at_call 90; refine (HM.out _).mono ?_; rintro e w' ⟨rfl, rfl⟩))
    exact bodyPost_ret (by simp [results, Tryz.results73, go_sem]) rfl ⟨rfl, (Below.refl _ _).alloc (Nat.le_refl _) _⟩
  · have hs : a * b ≤ 0 := Int.mul_nonpos_of_nonpos_of_nonneg (by omega) (by omega)
    have cb' : decide (b < 0) = false := by simpa using cb
    rw [wide_eq HP'.out (neg_mixed hs HP'.out (by have := HB.out; omega))]
    clear hs
    go_enter Tryz.func73, Tryz.ntmps73
    go_wp2_with (first | (go_at_call 91; refine (amount_any _ _ (by assumption) (by assumption)).mono ?_; rintro e w' ⟨rfl, rfl⟩) | (go_at_call 90; refine (HM.out _).mono ?_; rintro e w' ⟨rfl, rfl⟩))
    exact bodyPost_ret (by simp [results, Tryz.results73, go_sem]) rfl ⟨rfl, (Below.refl _ _).alloc (Nat.le_refl _) _⟩
  · have hs : a * b ≤ 0 := Int.mul_nonpos_of_nonneg_of_nonpos (by omega) (by omega)
    have ca' : decide (a < 0) = false := by simpa using ca
    rw [wide_eq HP'.out (neg_mixed hs HP'.out (by have := HB.out; omega))]
    clear hs
    go_enter Tryz.func73, Tryz.ntmps73
    go_wp2_with (first | (go_at_call 91; refine (amount_any _ _ (by assumption) (by assumption)).mono ?_; rintro e w' ⟨rfl, rfl⟩) | (go_at_call 90; refine (HM.out _).mono ?_; rintro e w' ⟨rfl, rfl⟩))
    exact bodyPost_ret (by simp [results, Tryz.results73, go_sem]) rfl ⟨rfl, (Below.refl _ _).alloc (Nat.le_refl _) _⟩
  · have hs : 0 ≤ a * b := Int.mul_nonneg (by omega) (by omega)
    have ca' : decide (a < 0) = false := by simpa using ca
    have cb' : decide (b < 0) = false := by simpa using cb
    rw [wide_eq (n := false) HP'.out (by simpa using hs)]
    clear hs
    go_enter Tryz.func73, Tryz.ntmps73
    go_wp2_with (first | (go_at_call 91; refine (amount_any _ _ (by assumption) (by assumption)).mono ?_; rintro e w' ⟨rfl, rfl⟩) | (go_at_call 90; refine (HM.out _).mono ?_; rintro e w' ⟨rfl, rfl⟩))
    exact bodyPost_ret (by simp [results, Tryz.results73, go_sem]) rfl ⟨rfl, (Below.refl _ _).alloc (Nat.le_refl _) _⟩

theorem div64_any (hi lo y : Int) (w : World) (h0 : 0 ≤ hi) (h1 : hi < y) (hy : y ≤ 18446744073709551615) (l0 : 0 ≤ lo) (l1 : lo ≤ 18446744073709551615) :
    Calls Tryz.prog 92 #[.int .u64 hi, .int .u64 lo, .int .u64 y] w fun e w' => e = .returned (.tuple #[.int .u64 ((hi * 18446744073709551616 + lo) / y), .int .u64 ((hi * 18446744073709551616 + lo) % y)]) ∧ ∃ n, w' = w.drewN n := by
  by_cases h : hi = 0
  · subst h
    simpa using div64_small lo y w h1 hy l0 l1
  · exact (div64_big hi lo y w (by omega) h1 hy l0 l1).mono fun e w' ⟨a, b⟩ => ⟨a, 0, by rw [← b]; rfl⟩

theorem below_drewN {B : Nat} {a w : World} (h : Below B a w) (n : Nat) : Below B a (w.drewN n) := ⟨h.os, h.tape, h.output, h.size, h.block⟩

/-- what 'over' answers, out of the quotient and the rest of the amounts -/
def overV (neg : Bool) (q r : Int) : Int := if 4611686018427387904 < q then 0 else if neg then (if r = 0 then -q else -q - 1) else q

set_option maxHeartbeats 400000 in
theorem over_core (neg : Bool) (hi lo d : Int) (w : World) (h0 : 0 ≤ hi) (_h1 : hi ≤ 18446744073709551615) (l0 : 0 ≤ lo) (l1 : lo ≤ 18446744073709551615) (d0 : 0 < d) (d1 : d ≤ 9223372036854775807) (q r : Int)
    (hq : (hi * 18446744073709551616 + lo) / d = q) (hr : (hi * 18446744073709551616 + lo) % d = r) (hlt : hi < d) (q0 : 0 ≤ q) :
    Calls Tryz.prog 74 #[.agg #[.bool neg, .int .u64 hi, .int .u64 lo], .int .i64 d] w fun e w' => e = .returned (.tuple #[.int .i64 (overV neg q r), .bool (decide (q ≤ 4611686018427387904))]) ∧ Below w.heap.size w w' := by
  have hd := div64_any hi lo d
  rw [hq, hr] at hd
  have HD := Lib.hid hd
  clear hd hq hr
  by_cases c : 4611686018427387904 < q
  · rw [show overV neg q r = 0 from if_pos c, show decide (q ≤ 4611686018427387904) = false by simpa using c]
    go_enter Tryz.func74, Tryz.ntmps74
    go_wp2_with (go_at_call 92; refine (HD.out _ (by omega) (by omega) (by omega) (by omega) (by omega)).mono ?_; rintro e w' ⟨rfl, n, rfl⟩)
    go_ret2
    exact ⟨rfl, below_drewN ((Below.refl _ _).alloc (Nat.le_refl _) _) _⟩
  · have c' : ¬ 4611686018427387904 < q := c
    rw [show decide (q ≤ 4611686018427387904) = true by simp; omega]
    cases neg
    · rw [show overV false q r = q by simp [overV, c]]
      go_enter Tryz.func74, Tryz.ntmps74
      go_wp2_with (go_at_call 92; refine (HD.out _ (by omega) (by omega) (by omega) (by omega) (by omega)).mono ?_; rintro e w' ⟨rfl, n, rfl⟩)
      go_ret2
      exact ⟨rfl, below_drewN ((Below.refl _ _).alloc (Nat.le_refl _) _) _⟩
    · by_cases hr0 : r = 0
      · rw [show overV true q r = -q by simp [overV, c, hr0]]
        go_enter Tryz.func74, Tryz.ntmps74
        go_wp2_with (go_at_call 92; refine (HD.out _ (by omega) (by omega) (by omega) (by omega) (by omega)).mono ?_; rintro e w' ⟨rfl, n, rfl⟩)
        go_ret2
        exact ⟨rfl, below_drewN ((Below.refl _ _).alloc (Nat.le_refl _) _) _⟩
      · rw [show overV true q r = -q - 1 by simp [overV, c, hr0]]
        have hr1 : (r != 0) = true := by simpa using hr0
        go_enter Tryz.func74, Tryz.ntmps74
        go_wp2_with (go_at_call 92; refine (HD.out _ (by omega) (by omega) (by omega) (by omega) (by omega)).mono ?_; rintro e w' ⟨rfl, n, rfl⟩)
        go_ret2
        exact ⟨rfl, below_drewN ((Below.refl _ _).alloc (Nat.le_refl _) _) _⟩

theorem over_high (neg : Bool) (hi lo d : Int) (w : World) (_h1 : hi ≤ 18446744073709551615) (d0 : 0 < d) (d1 : d ≤ 9223372036854775807) (hlt : d ≤ hi) :
    Calls Tryz.prog 74 #[.agg #[.bool neg, .int .u64 hi, .int .u64 lo], .int .i64 d] w fun e w' => e = .returned (.tuple #[.int .i64 0, .bool false]) ∧ Below w.heap.size w w' := by
  go_enter Tryz.func74, Tryz.ntmps74
  go_wp2_with fail
  go_ret2
  exact ⟨rfl, (Below.refl _ _).alloc (Nat.le_refl _) _⟩

theorem overV_eq {p d : Int} (d0 : 0 < d) (hf : Ck.fits p d = true) : overV (decide (p < 0)) ((p.natAbs : Int) / d) ((p.natAbs : Int) % d) = p / d := by
  simp only [Ck.fits, decide_eq_true_eq] at hf
  obtain ⟨q, r, e, hp, r0, r1⟩ := Ck.fl (p.natAbs : Int) d d0
  have er : (p.natAbs : Int) % d = r := by rw [Int.emod_def, e]; omega
  rw [e] at hf
  rw [er, e]
  by_cases c : p < 0
  · have hp' : p = -(d * q + r) := by omega
    simp only [overV, if_neg (by omega : ¬ 4611686018427387904 < q), decide_eq_true c, if_true]
    split
    · rename_i h0
      exact (Ck.fl_unique (q := -q) (r := 0) d0 (by rw [Int.mul_neg]; omega) (by omega) (by omega)).symm
    · exact (Ck.fl_unique (q := -q - 1) (r := d - r) d0 (by rw [Int.mul_sub, Int.mul_neg]; omega) (by omega) (by omega)).symm
  · have hp' : p = d * q + r := by omega
    simp only [overV, if_neg (by omega : ¬ 4611686018427387904 < q), decide_eq_false c]
    exact (Ck.fl_unique (q := q) (r := r) d0 hp' r0 r1).symm

/-- 'over' of a product -/
theorem over_any (p d : Int) (w : World) (d0 : 0 < d) (d1 : d ≤ 9223372036854775807) (hp : (p.natAbs : Int) ≤ 340282366920938463463374607431768211455) :
    Calls Tryz.prog 74 #[wide p, .int .i64 d] w fun e w' => e = .returned (.tuple #[.int .i64 (if Ck.fits p d then p / d else 0), .bool (Ck.fits p d)]) ∧ Below w.heap.size w w' := by
  have hn : ((p.natAbs / 18446744073709551616 : Nat) : Int) * 18446744073709551616 + ((p.natAbs % 18446744073709551616 : Nat) : Int) = (p.natAbs : Int) := by omega
  have q0 : 0 ≤ (p.natAbs : Int) / d := Int.ediv_nonneg (by omega) (by omega)
  by_cases h : ((p.natAbs / 18446744073709551616 : Nat) : Int) < d
  · have hc := over_core (decide (p < 0)) ((p.natAbs / 18446744073709551616 : Nat) : Int) ((p.natAbs % 18446744073709551616 : Nat) : Int) d w (by omega) (by omega) (by omega) (by omega) d0 d1 _ _ rfl rfl h (by rw [hn]; exact q0)
    rw [hn] at hc
    refine hc.mono fun e w' ⟨he, hb⟩ => ⟨?_, hb⟩
    rw [he]
    have hfe : Ck.fits p d = decide ((p.natAbs : Int) / d ≤ 4611686018427387904) := rfl
    by_cases hf : Ck.fits p d = true
    · rw [overV_eq d0 hf, ← hfe, hf]; rfl
    · have hf' : Ck.fits p d = false := by simpa using hf
      rw [← hfe, hf']
      have : 4611686018427387904 < (p.natAbs : Int) / d := by simpa [Ck.fits] using hf
      simp [overV, this]
  · refine (over_high (decide (p < 0)) ((p.natAbs / 18446744073709551616 : Nat) : Int) ((p.natAbs % 18446744073709551616 : Nat) : Int) d w (by omega) d0 d1 (by omega)).mono fun e w' ⟨he, hb⟩ => ⟨?_, hb⟩
    have hf' : Ck.fits p d = false := by
      simp only [Ck.fits, decide_eq_false_iff_not]
      have : 4611686018427387905 ≤ (p.natAbs : Int) / d := by
        rw [Int.le_ediv_iff_mul_le d0]
        have : 4611686018427387905 * d ≤ 18446744073709551616 * d := Int.mul_le_mul_of_nonneg_right (by omega) (by omega)
        omega
      omega
    rw [he, hf']; rfl
end Go.Proofs.YtebacmmfjadalaaGreat

namespace Go.Proofs.YtebacmmfjadalaaGreat
open Go Go.RowKit

/-- three ways of two numbers -/
def cmpO (a b : Int) : Int := if a < b then -1 else if b < a then 1 else 0

theorem cmp64_any (a b : Int) (w : World) : Calls Tryz.prog 99 #[.int .i64 a, .int .i64 b] w fun e w' => e = .returned (.int .i64 (cmpO a b)) ∧ w = w' := by
  unfold cmpO
  by_cases h : a < b
  · rw [if_pos h]
    go_enter Tryz.func99, Tryz.ntmps99
    go_wp2
    go_ret
    exact ⟨rfl, rfl⟩
  · rw [if_neg h]
    by_cases h2 : b < a
    · rw [if_pos h2]
      go_enter Tryz.func99, Tryz.ntmps99
      go_wp2
      go_ret
      exact ⟨rfl, rfl⟩
    · rw [if_neg h2]
      go_enter Tryz.func99, Tryz.ntmps99
      go_wp2
      go_ret
      exact ⟨rfl, rfl⟩
theorem cmpI_any (a b : Int) (w : World) : Calls Tryz.prog 100 #[.int .i64 a, .int .i64 b] w fun e w' => e = .returned (.int .i64 (cmpO a b)) ∧ w = w' := by
  unfold cmpO
  by_cases h : a < b
  · rw [if_pos h]
    go_enter Tryz.func100, Tryz.ntmps100
    go_wp2
    go_ret
    exact ⟨rfl, rfl⟩
  · rw [if_neg h]
    by_cases h2 : b < a
    · rw [if_pos h2]
      go_enter Tryz.func100, Tryz.ntmps100
      go_wp2
      go_ret
      exact ⟨rfl, rfl⟩
    · rw [if_neg h2]
      go_enter Tryz.func100, Tryz.ntmps100
      go_wp2
      go_ret
      exact ⟨rfl, rfl⟩
theorem cmpU_any (a b : Int) (w : World) : Calls Tryz.prog 101 #[.int .u32 a, .int .u32 b] w fun e w' => e = .returned (.int .i64 (cmpO a b)) ∧ w = w' := by
  unfold cmpO
  by_cases h : a < b
  · rw [if_pos h]
    go_enter Tryz.func101, Tryz.ntmps101
    go_wp2
    go_ret
    exact ⟨rfl, rfl⟩
  · rw [if_neg h]
    by_cases h2 : b < a
    · rw [if_pos h2]
      go_enter Tryz.func101, Tryz.ntmps101
      go_wp2
      go_ret
      exact ⟨rfl, rfl⟩
    · rw [if_neg h2]
      go_enter Tryz.func101, Tryz.ntmps101
      go_wp2
      go_ret
      exact ⟨rfl, rfl⟩

/-- the first that is not nought -/
def orL : List Int → Int
  | [] => 0
  | x :: l => if x = 0 then orL l else x
theorem orL_zero {xs : List Int} : ∀ {k : Nat}, (∀ j, j < k → xs.getD j 0 = 0) → k ≤ xs.length → orL xs = orL (xs.drop k)
  | 0, _, _ => by simp
  | k + 1, h, hk => by
    rw [orL_zero (k := k) (fun j hj => h j (by omega)) (by omega)]
    have h1 := h k (by omega)
    have h2 : xs.drop k = xs.getD k 0 :: xs.drop (k + 1) := by
      rw [List.getD_eq_getElem?_getD, List.getElem?_eq_getElem (by omega : k < xs.length)]
      exact List.drop_eq_getElem_cons (by omega)
    rw [h2, orL, if_pos h1]
theorem orL_at {xs : List Int} {k : Nat} (h : ∀ j, j < k → xs.getD j 0 = 0) (hk : k < xs.length) (hx : xs.getD k 0 ≠ 0) : orL xs = xs.getD k 0 := by
  rw [orL_zero h (by omega)]
  have h2 : xs.drop k = xs.getD k 0 :: xs.drop (k + 1) := by
    rw [List.getD_eq_getElem?_getD, List.getElem?_eq_getElem hk]
    exact List.drop_eq_getElem_cons hk
  rw [h2, orL, if_neg hx]

set_option maxHeartbeats 400000 in
theorem or_any (g c n : Nat) (xs : List Int) (w : World) (hn : xs.length = n) (hc : ∀ j, j < n → w.cell? ⟨g, j, none⟩ = some (.int .i64 (xs.getD j 0))) (h63 : n ≤ 9223372036854775807) :
    Calls Tryz.prog 98 #[.slice (some ⟨g, 0, none⟩) n c] w fun e w' => e = .returned (.int .i64 (orL xs)) ∧ Below w.heap.size w w' := by
  have HC := Lib.hid hc
  have HN := Lib.hid hn
  clear hc hn
  go_enter Tryz.func98, Tryz.ntmps98
  go_wp2_with fail
  go_loopw [8] (fun i wr => ∃ k : Nat, k ≤ n ∧ i = .int .i64 (k : Int) ∧ Hid (∀ j, j < k → xs.getD j 0 = 0) ∧ w = wr) (fun i _ => n - (intOf i).toNat)
  case atStart => exact ⟨0, by omega, rfl, Lib.hid (fun j hj => by omega), rfl⟩
  case round =>
    obtain ⟨k, hk, rfl, hz, rfl⟩ := hrel
    by_cases hlt : k < n
    · obtain ⟨x, hx⟩ : ∃ x, xs.getD k 0 = x := ⟨_, rfl⟩
      have hcell := HC.out k hlt
      rw [hx] at hcell
      have HX := Lib.hid hx
      clear hx
      have hki : (k : Int) < (n : Int) := by omega
      by_cases h0 : x = 0
      · subst h0
        go_wp2_with fail
        go_roundw
        case rel => exact ⟨k + 1, by omega, by go_num, Lib.hid (fun j hj => by
            rcases Nat.lt_or_ge j k with h | h
            · exact hz.out j h
            · rw [show j = k by omega]; exact HX.out), by first | rfl | trivial⟩
        case measure => simp [intOf]; omega
      · have h0' : (x == 0) = false := by simpa using h0
        go_wp2_with fail
        go_ret
        exact ⟨by rw [orL_at hz.out (by have := HN.out; omega) (by rw [HX.out]; exact h0), HX.out]; rfl, Below.refl _ _⟩
    · have hkn : k = n := by omega
      subst hkn
      go_wp2_with fail
      go_ret
      exact ⟨by rw [orL_zero hz.out (by have := HN.out; omega), List.drop_eq_nil_of_le (by have := HN.out; omega)]; rfl, Below.refl _ _⟩
end Go.Proofs.YtebacmmfjadalaaGreat

namespace Go.Proofs.YtebacmmfjadalaaGreat.Ck
/-! Unwrap -/
def unw (last s : Int) : Int := if 2147483648 < (s - last) % 4294967296 then last + (s - last) % 4294967296 - 4294967296 else last + (s - last) % 4294967296
def unwOk (last s : Int) : Bool := inT last && inT (unw last s)
def unwV (last s : Int) : Int := if unwOk last s then unw last s else 0
def unwE (last s : Int) : Int := if unwOk last s then 0 else 1
theorem unwOk_iff {l s : Int} : unwOk l s = true ↔ inT l = true ∧ inT (unw l s) = true := by simp [unwOk]
theorem unw_bd (last s : Int) : last - 2147483648 < unw last s ∧ unw last s ≤ last + 2147483648 := by unfold unw; split <;> omega

/-- what the reference has found behind the candidates below k -/
def bst (last s k : Int) : Int :=
  if k ≤ -2 then 0 else if k ≤ -1 then last - last % 4294967296 + s - 8589934592 else if k ≤ 0 then last - last % 4294967296 + s - 4294967296
  else if k ≤ 1 then (if 2147483648 < s - last % 4294967296 then last - last % 4294967296 + s - 4294967296 else last - last % 4294967296 + s) else unw last s
def nearI (a b : Int) : Int := if a < b then b - a else a - b
def cand (last s k : Int) : Int := (last / 4294967296 + k) * 4294967296 + s
theorem bst_step {last s k : Int} (hs : 0 ≤ s) (hs' : s < 4294967296) (h0 : -2 ≤ k) (h1 : k ≤ 2) :
    bst last s (k + 1) = if k = -2 ∨ nearI (cand last s k) last < nearI (bst last s k) last ∨ nearI (cand last s k) last = nearI (bst last s k) last ∧ bst last s k < cand last s k then cand last s k else bst last s k := by
  rcases (by omega : k = -2 ∨ k = -1 ∨ k = 0 ∨ k = 1 ∨ k = 2) with rfl | rfl | rfl | rfl | rfl
  all_goals simp [bst, unw, cand, nearI]
  all_goals (repeat' split) <;> omega
theorem bst_end (last s : Int) : bst last s 3 = unw last s := by simp [bst]
theorem unw_next {is s : Int} (h0 : -2147483648 < s) (h1 : s < 2147483648) : unw is ((is + s) % 4294967296) = is + s := by unfold unw; split <;> omega

/-! Then -/
theorem red_ediv {n g K E : Int} (hg : 0 < g) : n * (g * K) / (g * E) = n * K / E := by
  rw [show n * (g * K) = g * (n * K) by rw [Int.mul_left_comm]]
  exact Int.mul_ediv_mul_of_pos _ _ hg

theorem then_law {od oc n Nc Dc Nd Dd : Int} (h2 : 1 ≤ Dc) (h3 : 1 ≤ Nd) (h4 : 1 ≤ Dd) :
    (od + (oc + n * Nc / Dc) * Nd / Dd) - (od + oc * Nd / Dd + n * (Nc * Nd) / (Dc * Dd)) ≤ (Nd + Dd - 1) / Dd ∧
    (od + oc * Nd / Dd + n * (Nc * Nd) / (Dc * Dd)) - (od + (oc + n * Nc / Dc) * Nd / Dd) ≤ (Nd + Dd - 1) / Dd := by
  have ev : n * (Nc * Nd) / (Dc * Dd) = (n * Nc * Nd / Dc) / Dd := by
    rw [← Int.mul_assoc, Int.ediv_ediv_of_nonneg (by omega)]
  rw [ev]
  obtain ⟨q1, r1, e1, p1, a1, b1⟩ := fl (n * Nc) Dc (by omega)
  rw [e1, p1]
  have em : (Dc * q1 + r1) * Nd / Dc = q1 * Nd + r1 * Nd / Dc := by
    rw [Int.add_mul, Int.mul_assoc, Int.add_comm, Int.add_mul_ediv_left _ _ (by omega), Int.add_comm]
  rw [em]
  have m0 : 0 ≤ r1 * Nd / Dc := Int.ediv_nonneg (Int.mul_nonneg a1 (by omega)) (by omega)
  have m1 : r1 * Nd / Dc < Nd := by
    apply Int.ediv_lt_of_lt_mul (by omega)
    rw [Int.mul_comm Nd]
    exact Int.mul_lt_mul_of_pos_right b1 (by omega)
  generalize r1 * Nd / Dc = m at m0 m1
  rw [Int.add_mul]
  generalize oc * Nd = A
  generalize q1 * Nd = B
  obtain ⟨a, ra, ea, pa, a2, b2⟩ := fl A Dd (by omega)
  obtain ⟨b, rb, eb, pb, a3, b3⟩ := fl B Dd (by omega)
  obtain ⟨c, rc, ec, pc, a4, b4⟩ := fl (A + B) Dd (by omega)
  obtain ⟨d, rd, ed, pd, a5, b5⟩ := fl (B + m) Dd (by omega)
  obtain ⟨f, rf, ef, pf, a6, b6⟩ := fl (Nd + Dd - 1) Dd (by omega)
  rw [ea, ec, ed, ef]
  have x1 : Dd * c < Dd * (a + b + 2) := by rw [Int.mul_add, Int.mul_add]; omega
  have x2 : Dd * (a + b) < Dd * (c + 1) := by rw [Int.mul_add, Int.mul_add]; omega
  have x3 : Dd * b < Dd * (d + 1) := by rw [Int.mul_add]; omega
  have x4 : Dd * d < Dd * (b + f + 1) := by rw [Int.mul_add, Int.mul_add]; omega
  have x5 : Dd * 0 < Dd * f := by rw [Int.mul_zero]; 
                                  have : Dd * 1 < Dd * (f + 1) := by rw [Int.mul_add]; omega
                                  have := Int.lt_of_mul_lt_mul_left this (by omega)
                                  exact Int.mul_pos (by omega) (by omega)
  have y1 := Int.lt_of_mul_lt_mul_left x1 (by omega)
  have y2 := Int.lt_of_mul_lt_mul_left x2 (by omega)
  have y3 := Int.lt_of_mul_lt_mul_left x3 (by omega)
  have y4 := Int.lt_of_mul_lt_mul_left x4 (by omega)
  have y5 := Int.lt_of_mul_lt_mul_left x5 (by omega)
  omega
end Go.Proofs.YtebacmmfjadalaaGreat.Ck
