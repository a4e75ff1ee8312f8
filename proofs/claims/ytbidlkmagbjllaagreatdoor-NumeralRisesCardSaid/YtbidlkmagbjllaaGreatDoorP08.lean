/- D1 Z1 RK1 in one text. -/
import Derived.Test.YtbidlkmagbjllaaGreatDoorP01
import Derived.Lib.ItoaNum

namespace Go.Proofs.YtbidlkmagbjllaaGreatDoor.Ck
open Go.Lib
/-! Div64: a digit of the quotient -/
structure QIn (Y a b u u1 : Int) : Prop where
  hY : Y = a * 4294967296 + b
  a0 : 2147483648 ≤ a
  a1 : a < 4294967296
  b0 : 0 ≤ b
  b1 : b < 4294967296
  u0 : 0 ≤ u
  uY : u < Y
  v0 : 0 ≤ u1
  v1 : u1 < 4294967296
/-- the guess q, with the rest r, is not below the digit -/
structure QInv (Y a b u u1 q r : Int) : Prop where
  ge : (u * 4294967296 + u1) / Y ≤ q
  eq : q * a + r = u
  r0 : 0 ≤ r
  r1 : r < 4294967296
  q1 : q ≤ 4294967297
  q0 : 0 ≤ q

variable {Y a b u u1 q r : Int}
theorem QIn.Ypos (h : QIn Y a b u u1) : 0 < Y := by have := h.hY; have := h.a0; have := h.b0; omega
theorem QIn.dig (h : QIn Y a b u u1) : 0 ≤ (u * 4294967296 + u1) / Y ∧ (u * 4294967296 + u1) / Y < 4294967296 := by
  have := h.Ypos; have := h.u0; have := h.uY; have := h.v0; have := h.v1
  refine ⟨Int.ediv_nonneg (by omega) (by omega), Int.ediv_lt_of_lt_mul (by omega) (by omega)⟩
theorem QIn.start (h : QIn Y a b u u1) : QInv Y a b u u1 (u / a) (u - u / a * a) := by
  have hp := h.Ypos
  obtain ⟨Q, R, eQ, pQ, R0, R1⟩ := fl (u * 4294967296 + u1) Y hp
  obtain ⟨q, r, eq, pq, r0, r1⟩ := fl u a (by have := h.a0; omega)
  rw [eq]
  have hm : q * a = a * q := Int.mul_comm _ _
  have h0 : 0 ≤ q := by rw [← eq]; exact Int.ediv_nonneg h.u0 (by have := h.a0; omega)
  refine ⟨?_, by omega, by omega, by have := h.a1; omega, ?_, h0⟩
  · rw [eQ]
    -- Q * a ≤ u
    have hQ0 : 0 ≤ Q := by rw [← eQ]; exact h.dig.1
    have e1 : Y * Q = 4294967296 * (a * Q) + b * Q := by rw [h.hY, Int.add_mul, Int.mul_assoc, Int.mul_left_comm]
    have e2 : 0 ≤ b * Q := Int.mul_nonneg h.b0 hQ0
    have e3 : a * Q ≤ u := by have := h.v1; omega
    rw [← eq, Int.le_ediv_iff_mul_le (by have := h.a0; omega), Int.mul_comm]; exact e3
  · refine Int.not_lt.1 fun hlt => ?_
    have : a * 4294967298 ≤ a * q := Int.mul_le_mul_of_nonneg_left hlt (by have := h.a0; omega)
    have := h.uY; have := h.hY; have := h.b1; have := h.a0; omega

/-- the test said that the guess is too great -/
theorem QInv.over (h : QIn Y a b u u1) (i : QInv Y a b u u1 q r) (ht : 4294967296 ≤ q ∨ 4294967296 * r + u1 < q * b) : (u * 4294967296 + u1) / Y ≤ q - 1 := by
  rcases ht with ht | ht
  · have := h.dig; omega
  · have : (u * 4294967296 + u1) / Y < q := by
      apply Int.ediv_lt_of_lt_mul h.Ypos
      have e : q * Y = 4294967296 * (q * a) + q * b := by rw [h.hY, Int.mul_add, ← Int.mul_assoc, Int.mul_comm (q * a)]
      have := i.eq
      omega
    omega
theorem QInv.dec (h : QIn Y a b u u1) (i : QInv Y a b u u1 q r) (ht : 4294967296 ≤ q ∨ 4294967296 * r + u1 < q * b) (hr : r + a < 4294967296) : QInv Y a b u u1 (q - 1) (r + a) := by
  have h1 := i.over h ht
  have := h.dig; have := i.eq; have := i.r0; have := h.a0; have := i.q1
  exact ⟨h1, by rw [Int.sub_mul, Int.one_mul]; omega, by omega, hr, by omega, by omega⟩
theorem digit_of (h : QIn Y a b u u1) (hge : (u * 4294967296 + u1) / Y ≤ q) (e : q * a + r = u) (hle : q * b ≤ 4294967296 * r + u1) : q = (u * 4294967296 + u1) / Y := by
  have : q ≤ (u * 4294967296 + u1) / Y := by
    rw [Int.le_ediv_iff_mul_le h.Ypos]
    have e2 : q * Y = 4294967296 * (q * a) + q * b := by rw [h.hY, Int.mul_add, ← Int.mul_assoc, Int.mul_comm (q * a)]
    omega
  omega
theorem QInv.brk (h : QIn Y a b u u1) (i : QInv Y a b u u1 q r) (ht : 4294967296 ≤ q ∨ 4294967296 * r + u1 < q * b) (hr : 4294967296 ≤ r + a) : q - 1 = (u * 4294967296 + u1) / Y := by
  have h1 := i.over h ht
  have := h.dig
  refine digit_of (r := r + a) h h1 (by have := i.eq; rw [Int.sub_mul, Int.one_mul]; omega) ?_
  have e1 : (q - 1) * b ≤ 4294967296 * b := Int.mul_le_mul_of_nonneg_right (by have := i.q1; omega) h.b0
  have := h.b1; have := h.v0
  omega
theorem QInv.stop (h : QIn Y a b u u1) (i : QInv Y a b u u1 q r) (ht : ¬ (4294967296 ≤ q ∨ 4294967296 * r + u1 < q * b)) : q = (u * 4294967296 + u1) / Y :=
  digit_of h i.ge i.eq (by omega)
/-- the products of the test do not wrap -/
theorem QInv.prod (h : QIn Y a b u u1) (i : QInv Y a b u u1 q r) (hq : q < 4294967296) : 0 ≤ q * b ∧ q * b ≤ 18446744073709551615 ∧ 0 ≤ 4294967296 * r + u1 ∧ 4294967296 * r + u1 ≤ 18446744073709551615 := by
  have h1 : q * b ≤ 4294967295 * b := Int.mul_le_mul_of_nonneg_right (by omega) h.b0
  have := h.b1; have := i.r0; have := i.r1; have := h.v0; have := h.v1
  have := Int.mul_nonneg i.q0 h.b0
  omega
/-- the rest behind a digit -/
theorem QIn.rest (h : QIn Y a b u u1) : 0 ≤ u * 4294967296 + u1 - (u * 4294967296 + u1) / Y * Y ∧ u * 4294967296 + u1 - (u * 4294967296 + u1) / Y * Y < Y := by
  obtain ⟨Q, R, eQ, pQ, R0, R1⟩ := fl (u * 4294967296 + u1) Y h.Ypos
  rw [eQ, Int.mul_comm Q]; omega

/-! Div64: the numbers moved up so that the divisor's first bit stands -/
theorem lz_spec {y : Nat} (h0 : 0 < y) (h1 : y < 18446744073709551616) : ∃ s : Nat, (64 : Int) - (bitLen y : Int) = (s : Int) ∧ s ≤ 63 ∧ 9223372036854775808 ≤ y * 2 ^ s ∧ y * 2 ^ s < 18446744073709551616 := by
  have hb : bitLen y = bitLenAux 64 y := rfl
  obtain ⟨a1, a2, a3⟩ := bitLenAux_bounds 64 y (by simpa using h1) (by omega)
  have a4 := bitLenAux_le 64 y 64 (by simpa using h1)
  rw [hb]
  generalize bitLenAux 64 y = L at *
  refine ⟨64 - L, by omega, by omega, ?_, ?_⟩
  · have : 2 ^ (L - 1) * 2 ^ (64 - L) = 2 ^ 63 := by rw [← Nat.pow_add]; congr 1; omega
    have := Nat.mul_le_mul_right (2 ^ (64 - L)) a2
    omega
  · have : 2 ^ L * 2 ^ (64 - L) = 2 ^ 64 := by rw [← Nat.pow_add]; congr 1; omega
    have := Nat.mul_lt_mul_of_pos_right a3 (Nat.two_pow_pos (64 - L))
    omega

/-- P: the power by which all is moved up; P * R = 2^64. -/
theorem shift_facts {hi lo y P R : Int} (hP : 1 ≤ P) (hPR : P * R = 18446744073709551616) (h0 : 0 ≤ hi) (h1 : hi < y) (l0 : 0 ≤ lo) (l1 : lo < 18446744073709551616) :
    (hi * 18446744073709551616 + lo) * P = (hi * P + lo / R) * 18446744073709551616 + lo * P % 18446744073709551616 ∧
    0 ≤ lo / R ∧ lo / R < P ∧ hi * P + lo / R < y * P ∧ 0 ≤ hi * P := by
  have hR : 1 ≤ R := by
    refine Int.not_lt.1 fun hlt => ?_
    have : P * R ≤ P * 0 := Int.mul_le_mul_of_nonneg_left (by omega) (by omega)
    omega
  have d0 : 0 ≤ lo / R := Int.ediv_nonneg l0 (by omega)
  have d1 : lo / R < P := Int.ediv_lt_of_lt_mul (by omega) (by omega)
  have hlo : lo * P / 18446744073709551616 = lo / R := by
    rw [← hPR, Int.mul_comm lo P]; exact Int.mul_ediv_mul_of_pos _ _ (by omega)
  have hm := Int.mul_ediv_add_emod (lo * P) 18446744073709551616
  refine ⟨?_, d0, d1, ?_, Int.mul_nonneg h0 (by omega)⟩
  · rw [Int.add_mul, Int.add_mul, Int.mul_right_comm, ← hlo]; omega
  · have : (hi + 1) * P ≤ y * P := Int.mul_le_mul_of_nonneg_right (by omega) (by omega)
    rw [Int.add_mul, Int.one_mul] at this
    omega

/-- two digits make the quotient, the last rest moved down the remainder -/
theorem two_digits {N y P H un1 un0 q1 q0 t1 t0 : Int} (hP : 1 ≤ P) (hy : 1 ≤ y) (hN : N * P = H * 18446744073709551616 + (un1 * 4294967296 + un0))
    (e1 : t1 = H * 4294967296 + un1 - q1 * (y * P)) (e0 : t0 = t1 * 4294967296 + un0 - q0 * (y * P)) (r0 : 0 ≤ t0) (r1 : t0 < y * P) :
    q1 * 4294967296 + q0 = N / y ∧ t0 / P = N % y := by
  have hsum : N * P = (y * P) * (q1 * 4294967296 + q0) + t0 := by
    rw [Int.mul_add, Int.mul_comm (y * P) q0, ← Int.mul_assoc, Int.mul_comm (y * P) q1, hN, e0, e1]
    omega
  have hyP : 0 < y * P := Int.mul_pos (by omega) (by omega)
  have hq : N / y = q1 * 4294967296 + q0 := by
    rw [← Int.mul_ediv_mul_of_pos_left N y (by omega : 0 < P)]
    exact fl_unique hyP hsum r0 r1
  refine ⟨hq.symm, ?_⟩
  have hr : t0 = (N % y) * P := by
    rw [Int.emod_def, hq, Int.sub_mul, hsum]
    rw [Int.mul_right_comm]; omega
  rw [hr, Int.mul_ediv_cancel _ (by omega)]
end Go.Proofs.YtbidlkmagbjllaaGreatDoor.Ck

namespace Go.Proofs.YtbidlkmagbjllaaGreatDoor.Nt
open Go Go.Lib

/-- the six digits of a number below a million -/
def six (r : Nat) : List UInt8 := (List.range 6).map fun t => dg r (5 - t)
theorem six_million {r : Nat} (h : r < 1000000) : decDigits (1000000 + r) = 49 :: six r := by
  have hn : nDigits (1000000 + r) = 7 := nDigits_unique 6 _ (by omega) (by omega)
  rw [decDigits_eq, hn]
  simp only [six, List.range, List.range.loop, List.map_cons, List.map_nil, Nat.sub_zero, Nat.reduceSub, dg]
  have e : ∀ j, (1000000 + r) / 10 ^ j % 10 = (1000000 + r) / 10 ^ j % 10 := fun _ => rfl
  have h6 : (1000000 + r) / 10 ^ 6 % 10 = 1 := by omega
  have h5 : (1000000 + r) / 10 ^ 5 % 10 = r / 10 ^ 5 % 10 := by omega
  have h4 : (1000000 + r) / 10 ^ 4 % 10 = r / 10 ^ 4 % 10 := by omega
  have h3 : (1000000 + r) / 10 ^ 3 % 10 = r / 10 ^ 3 % 10 := by omega
  have h2 : (1000000 + r) / 10 ^ 2 % 10 = r / 10 ^ 2 % 10 := by omega
  have h1 : (1000000 + r) / 10 ^ 1 % 10 = r / 10 ^ 1 % 10 := by omega
  have h0 : (1000000 + r) / 10 ^ 0 % 10 = r / 10 ^ 0 % 10 := by omega
  rw [h6, h5, h4, h3, h2, h1, h0]
  rfl
theorem dg_high {r j : Nat} (h : r < 10 ^ j) : dg r j = 48 := by
  unfold dg
  rw [Nat.div_eq_of_lt h]
  rfl
/-- digits with noughts ahead -/
theorem six_pad {r : Nat} (h : r < 1000000) : nDigits r ≤ 6 ∧ List.replicate (6 - nDigits r) 48 ++ decDigits r = six r := by
  have hl := lt_pow_nDigits r
  have hp := nDigits_pos r
  have hk : nDigits r ≤ 6 := by
    rcases Nat.lt_or_ge 6 (nDigits r) with q | q
    · exfalso
      have h1 : nDigits r = nDigits r - 1 + 1 := by omega
      have hge : 10 ^ (nDigits r - 1) ≤ r := by
        rcases Nat.lt_or_ge r (10 ^ (nDigits r - 1)) with q2 | q2
        · exfalso
          have hall : ∀ k, ∀ u, u < 10 ^ k → nDigits u ≤ max 1 k := fun k => by
            induction k with
            | zero => intro u hu; rw [nDigits_small (by simp at hu; omega)]; omega
            | succ k ih =>
              intro u hu
              by_cases c : u < 10
              · rw [nDigits_small c]; omega
              · rw [nDigits_big c]
                have := ih (u / 10) (by rw [Nat.pow_succ] at hu; omega)
                have : 1 ≤ k := by
                  rcases Nat.eq_zero_or_pos k with q3 | q3
                  · subst q3; simp at hu; omega
                  · exact q3
                omega
          have := hall (nDigits r - 1) r q2
          omega
        · exact q2
      have h2 : (10 : Nat) ^ 6 ≤ 10 ^ (nDigits r - 1) := Nat.pow_le_pow_right (by omega) (by omega)
      omega
    · exact q
  refine ⟨hk, ?_⟩
  rw [decDigits_eq]
  apply List.ext_getElem?
  intro i
  unfold six
  by_cases c1 : i < 6 - nDigits r
  · rw [List.getElem?_append_left (by simpa using c1), List.getElem?_replicate, if_pos c1, List.getElem?_map, List.getElem?_range (by omega)]
    simp only [Option.map_some]
    rw [dg_high (Nat.lt_of_lt_of_le hl (Nat.pow_le_pow_right (by omega) (by omega)))]
  · rw [List.getElem?_append_right (by simpa using c1), List.getElem?_map, List.getElem?_map, List.length_replicate]
    by_cases c2 : i < 6
    · rw [List.getElem?_range (by omega), List.getElem?_range c2]
      simp only [Option.map_some]
      rw [show nDigits r - 1 - (i - (6 - nDigits r)) = 5 - i by omega]
    · rw [List.getElem?_eq_none (by simp; omega), List.getElem?_eq_none (by simp; omega)]
      rfl
end Go.Proofs.YtbidlkmagbjllaaGreatDoor.Nt

namespace Go.Proofs.YtbidlkmagbjllaaGreatDoor.Bg
open Go

/-- what a guess begins with: the divisor's first two words, the rest's first three -/
structure KIn (v1 v0 t u0 : Nat) : Prop where
  v1l : v1 < 4294967296
  v1h : 2147483648 ≤ v1
  v0l : v0 < 4294967296
  u0l : u0 < 4294967296
  tl : t ≤ v1 * 4294967296 + v0
/-- the word that the guess comes to -/
def kG (v1 v0 t u0 : Nat) : Nat := min ((t * 4294967296 + u0) / (v1 * 4294967296 + v0)) 4294967295
/-- ahead of a look at guess g, rest r -/
structure KInv (v1 v0 t u0 g r : Nat) : Prop where
  e : g * v1 + r = t
  rl : r < 4294967296
  gl : g ≤ 4294967297
  lo : kG v1 v0 t u0 ≤ g
theorem KIn.lt {v1 v0 t u0 g : Nat} (h : KIn v1 v0 t u0) : kG v1 v0 t u0 < g ↔ 4294967296 ≤ g ∨ (t * 4294967296 + u0) < g * (v1 * 4294967296 + v0) := by
  have hp : 0 < v1 * 4294967296 + v0 := by have := h.v1h; omega
  unfold kG
  rw [← Nat.div_lt_iff_lt_mul hp]
  omega
theorem KIn.start {v1 v0 t u0 : Nat} (h : KIn v1 v0 t u0) : KInv v1 v0 t u0 (t / v1) (t % v1) := by
  have hv : 0 < v1 := by have := h.v1h; omega
  have e := Nat.div_add_mod t v1
  have hm := Nat.mod_lt t hv
  refine ⟨by rw [Nat.mul_comm]; exact e, by have := h.v1l; omega, ?_, ?_⟩
  · have h1 : t / v1 < 4294967298 := by
      rw [Nat.div_lt_iff_lt_mul hv]
      have := h.tl; have := h.v0l; have := h.v1h
      omega
    omega
  · have h1 : ¬ t / v1 < kG v1 v0 t u0 := fun hlt => by
      have h2 : kG v1 v0 t u0 ≤ (t * 4294967296 + u0) / (v1 * 4294967296 + v0) := Nat.min_le_left _ _
      have h3 : (t * 4294967296 + u0) / (v1 * 4294967296 + v0) ≤ (t * 4294967296 + u0) / (v1 * 4294967296) := Nat.div_le_div_left (by omega) (by omega)
      have h4 : (t * 4294967296 + u0) / (v1 * 4294967296) = t / v1 := by
        rw [Nat.mul_comm v1, ← Nat.div_div_eq_div_mul]
        congr 1
        have := h.u0l
        omega
      omega
    omega
/-- the product by the second word, against what is left -/
theorem KInv.side {v1 v0 t u0 g r : Nat} (i : KInv v1 v0 t u0 g r) : (t * 4294967296 + u0 < g * (v1 * 4294967296 + v0)) ↔ r * 4294967296 + u0 < g * v0 := by
  have e : g * (v1 * 4294967296 + v0) + r * 4294967296 = t * 4294967296 + g * v0 := by
    rw [← i.e, Nat.mul_add, Nat.add_mul, ← Nat.mul_assoc]; omega
  omega
theorem KInv.stop {v1 v0 t u0 g r : Nat} (h : KIn v1 v0 t u0) (i : KInv v1 v0 t u0 g r) (h1 : ¬ 4294967296 ≤ g) (h2 : ¬ r * 4294967296 + u0 < g * v0) : g = kG v1 v0 t u0 := by
  have h3 := i.lo
  have h4 : ¬ kG v1 v0 t u0 < g := by rw [h.lt, i.side]; omega
  omega
theorem KInv.more {v1 v0 t u0 g r : Nat} (h : KIn v1 v0 t u0) (i : KInv v1 v0 t u0 g r) (h1 : 4294967296 ≤ g ∨ r * 4294967296 + u0 < g * v0) : kG v1 v0 t u0 ≤ g - 1 ∧ 0 < g ∧ (g - 1) * v1 + (r + v1) = t := by
  have h4 : kG v1 v0 t u0 < g := by rw [h.lt, i.side]; exact h1
  refine ⟨by omega, by omega, ?_⟩
  obtain ⟨k, rfl⟩ : ∃ k, g = k + 1 := ⟨g - 1, by omega⟩
  have := i.e
  rw [Nat.add_mul, Nat.one_mul] at this
  rw [Nat.add_sub_cancel]
  omega
theorem KInv.dec {v1 v0 t u0 g r : Nat} (h : KIn v1 v0 t u0) (i : KInv v1 v0 t u0 g r) (h1 : 4294967296 ≤ g ∨ r * 4294967296 + u0 < g * v0) (h2 : r + v1 < 4294967296) : KInv v1 v0 t u0 (g - 1) (r + v1) := by
  obtain ⟨a, b, c⟩ := i.more h h1
  exact ⟨c, h2, by have := i.gl; omega, a⟩
theorem KInv.brk {v1 v0 t u0 g r : Nat} (h : KIn v1 v0 t u0) (i : KInv v1 v0 t u0 g r) (h1 : 4294967296 ≤ g ∨ r * 4294967296 + u0 < g * v0) (h2 : 4294967296 ≤ r + v1) : g - 1 = kG v1 v0 t u0 := by
  obtain ⟨a, b, c⟩ := i.more h h1
  generalize g - 1 = k at *
  generalize r + v1 = s at *
  have hk : k < 4294967296 := by
    rcases Nat.lt_or_ge k 4294967296 with q | q
    · exact q
    · exfalso
      have h3 : 4294967296 * v1 ≤ k * v1 := Nat.mul_le_mul_right _ q
      have := h.tl; have := h.v0l
      omega
  have h5 : ¬ kG v1 v0 t u0 < k := by
    rw [h.lt]
    intro h6
    rcases h6 with h6 | h6
    · omega
    · have e : k * (v1 * 4294967296 + v0) + s * 4294967296 = t * 4294967296 + k * v0 := by
        rw [← c, Nat.mul_add, Nat.add_mul, ← Nat.mul_assoc]; omega
      have h7 : k * v0 ≤ 4294967296 * v0 := Nat.mul_le_mul_right _ (by omega)
      have h8 : k * v0 ≤ 4294967295 * 4294967295 := Nat.mul_le_mul (by omega) (by have := h.v0l; omega)
      have h9 := h.v0l
      omega
  omega
/-- the guess against the true word: the same, or one more -/
theorem guess_near {v1 v0 t u0 W V P W0 V0 : Nat} (h : KIn v1 v0 t u0) (hW : W = (t * 4294967296 + u0) * P + W0) (hW0 : W0 < P) (hV : V = (v1 * 4294967296 + v0) * P + V0) (hV0 : V0 < P) (hlt : W < V * 4294967296) :
    W / V ≤ kG v1 v0 t u0 ∧ kG v1 v0 t u0 ≤ W / V + 1 := by
  obtain ⟨T, hT⟩ : ∃ T, t * 4294967296 + u0 = T := ⟨_, rfl⟩
  obtain ⟨D, hD⟩ : ∃ D, v1 * 4294967296 + v0 = D := ⟨_, rfl⟩
  have hDl : 4294967296 * 2147483648 ≤ D := by have := h.v1h; omega
  unfold kG
  rw [hT, hD]
  rw [hT] at hW
  rw [hD] at hV
  have hP : 0 < P := by omega
  have hVp : 0 < V := by
    have : 1 * P ≤ D * P := Nat.mul_le_mul_right _ (by omega)
    omega
  obtain ⟨q, hq⟩ : ∃ q, W / V = q := ⟨_, rfl⟩
  have hq1 : q * V ≤ W := by rw [← hq]; exact Nat.div_mul_le_self W V
  have hq2 : W < (q + 1) * V := by
    have := Nat.lt_mul_div_succ W hVp
    rw [hq, Nat.mul_comm] at this
    exact this
  rw [hq]
  constructor
  · apply Nat.le_min.2
    constructor
    · rw [Nat.le_div_iff_mul_le (by omega)]
      have h1 : q * (D * P) ≤ q * V := Nat.mul_le_mul_left _ (by omega)
      have h2 : q * D * P < (T + 1) * P := by rw [Nat.mul_assoc, Nat.add_mul, Nat.one_mul]; omega
      have := Nat.lt_of_mul_lt_mul_right h2
      omega
    · have h1 : q * V < 4294967296 * V := by rw [Nat.mul_comm 4294967296]; omega
      have := Nat.lt_of_mul_lt_mul_right h1
      omega
  · obtain ⟨G, hG⟩ : ∃ G, min (T / D) 4294967295 = G := ⟨_, rfl⟩
    rw [hG]
    apply Nat.not_lt.1
    intro hlt2
    have hGT : G * D ≤ T := by
      have h1 : G ≤ T / D := by rw [← hG]; exact Nat.min_le_left _ _
      exact (Nat.le_div_iff_mul_le (by omega)).1 h1
    have hGB : G ≤ 4294967295 := by rw [← hG]; exact Nat.min_le_right _ _
    obtain ⟨k, rfl⟩ : ∃ k, G = k + 1 := ⟨G - 1, by omega⟩
    have h1 : (q + 1) * V ≤ k * V := Nat.mul_le_mul_right _ (by omega)
    have h2 : k * V < k * ((D + 1) * P) := Nat.mul_lt_mul_of_pos_left (by rw [Nat.add_mul, Nat.one_mul]; omega) (by omega)
    have h3 : (k + 1) * D * P ≤ T * P := Nat.mul_le_mul_right _ hGT
    have h4 : (k + 1) * D * P < k * (D + 1) * P := by rw [Nat.mul_assoc k]; omega
    have h5 := Nat.lt_of_mul_lt_mul_right h4
    rw [Nat.add_mul, Nat.one_mul, Nat.mul_add, Nat.mul_one] at h5
    omega
end Go.Proofs.YtbidlkmagbjllaaGreatDoor.Bg
