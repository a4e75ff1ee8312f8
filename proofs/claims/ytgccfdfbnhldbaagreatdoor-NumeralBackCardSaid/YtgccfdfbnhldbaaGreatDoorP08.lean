/- D1 Z1 in one text. -/
import Derived.Test.YtgccfdfbnhldbaaGreatDoorP01
import Derived.Lib.ItoaNum

namespace Go.Proofs.YtgccfdfbnhldbaaGreatDoor.Ck
open Go.Lib
/-! Div64: a digit of the quotient -/
structure QIn (Y a b u u1 : Int) : Prop where
  hY : Y = a * 4294967296 + b
  a0 : 2147483648 ≤ a
  a1 : a < 4294967296
  b0 : 0 ≤ b
  b1 : b < 4294967296
  u0 : 0 ≤ u
  uY : u < Y
  v0 : 0 ≤ u1
  v1 : u1 < 4294967296
/-- the guess q, with the rest r, is not below the digit -/
structure QInv (Y a b u u1 q r : Int) : Prop where
  ge : (u * 4294967296 + u1) / Y ≤ q
  eq : q * a + r = u
  r0 : 0 ≤ r
  r1 : r < 4294967296
  q1 : q ≤ 4294967297
  q0 : 0 ≤ q

variable {Y a b u u1 q r : Int}
theorem QIn.Ypos (h : QIn Y a b u u1) : 0 < Y := by have := h.hY; have := h.a0; have := h.b0; omega
theorem QIn.dig (h : QIn Y a b u u1) : 0 ≤ (u * 4294967296 + u1) / Y ∧ (u * 4294967296 + u1) / Y < 4294967296 := by
  have := h.Ypos; have := h.u0; have := h.uY; have := h.v0; have := h.v1
  refine ⟨Int.ediv_nonneg (by omega) (by omega), Int.ediv_lt_of_lt_mul (by omega) (by omega)⟩
theorem QIn.start (h : QIn Y a b u u1) : QInv Y a b u u1 (u / a) (u - u / a * a) := by
  have hp := h.Ypos
  obtain ⟨Q, R, eQ, pQ, R0, R1⟩ := fl (u * 4294967296 + u1) Y hp
  obtain ⟨q, r, eq, pq, r0, r1⟩ := fl u a (by have := h.a0; omega)
  rw [eq]
  have hm : q * a = a * q := Int.mul_comm _ _
  have h0 : 0 ≤ q := by rw [← eq]; exact Int.ediv_nonneg h.u0 (by have := h.a0; omega)
  refine ⟨?_, by omega, by omega, by have := h.a1; omega, ?_, h0⟩
  · rw [eQ]
    -- Q * a ≤ u
    have hQ0 : 0 ≤ Q := by rw [← eQ]; exact h.dig.1
    have e1 : Y * Q = 4294967296 * (a * Q) + b * Q := by rw [h.hY, Int.add_mul, Int.mul_assoc, Int.mul_left_comm]
    have e2 : 0 ≤ b * Q := Int.mul_nonneg h.b0 hQ0
    have e3 : a * Q ≤ u := by have := h.v1; omega
    rw [← eq, Int.le_ediv_iff_mul_le (by have := h.a0; omega), Int.mul_comm]; exact e3
  · refine Int.not_lt.1 fun hlt => ?_
    have : a * 4294967298 ≤ a * q := Int.mul_le_mul_of_nonneg_left hlt (by have := h.a0; omega)
    have := h.uY; have := h.hY; have := h.b1; have := h.a0; omega

/-- the test said that the guess is too great -/
theorem QInv.over (h : QIn Y a b u u1) (i : QInv Y a b u u1 q r) (ht : 4294967296 ≤ q ∨ 4294967296 * r + u1 < q * b) : (u * 4294967296 + u1) / Y ≤ q - 1 := by
  rcases ht with ht | ht
  · have := h.dig; omega
  · have : (u * 4294967296 + u1) / Y < q := by
      apply Int.ediv_lt_of_lt_mul h.Ypos
      have e : q * Y = 4294967296 * (q * a) + q * b := by rw [h.hY, Int.mul_add, ← Int.mul_assoc, Int.mul_comm (q * a)]
      have := i.eq
      omega
    omega
theorem QInv.dec (h : QIn Y a b u u1) (i : QInv Y a b u u1 q r) (ht : 4294967296 ≤ q ∨ 4294967296 * r + u1 < q * b) (hr : r + a < 4294967296) : QInv Y a b u u1 (q - 1) (r + a) := by
  have h1 := i.over h ht
  have := h.dig; have := i.eq; have := i.r0; have := h.a0; have := i.q1
  exact ⟨h1, by rw [Int.sub_mul, Int.one_mul]; omega, by omega, hr, by omega, by omega⟩
theorem digit_of (h : QIn Y a b u u1) (hge : (u * 4294967296 + u1) / Y ≤ q) (e : q * a + r = u) (hle : q * b ≤ 4294967296 * r + u1) : q = (u * 4294967296 + u1) / Y := by
  have : q ≤ (u * 4294967296 + u1) / Y := by
    rw [Int.le_ediv_iff_mul_le h.Ypos]
    have e2 : q * Y = 4294967296 * (q * a) + q * b := by rw [h.hY, Int.mul_add, ← Int.mul_assoc, Int.mul_comm (q * a)]
    omega
  omega
theorem QInv.brk (h : QIn Y a b u u1) (i : QInv Y a b u u1 q r) (ht : 4294967296 ≤ q ∨ 4294967296 * r + u1 < q * b) (hr : 4294967296 ≤ r + a) : q - 1 = (u * 4294967296 + u1) / Y := by
  have h1 := i.over h ht
  have := h.dig
  refine digit_of (r := r + a) h h1 (by have := i.eq; rw [Int.sub_mul, Int.one_mul]; omega) ?_
  have e1 : (q - 1) * b ≤ 4294967296 * b := Int.mul_le_mul_of_nonneg_right (by have := i.q1; omega) h.b0
  have := h.b1; have := h.v0
  omega
theorem QInv.stop (h : QIn Y a b u u1) (i : QInv Y a b u u1 q r) (ht : ¬ (4294967296 ≤ q ∨ 4294967296 * r + u1 < q * b)) : q = (u * 4294967296 + u1) / Y :=
  digit_of h i.ge i.eq (by omega)
/-- the products of the test do not wrap -/
theorem QInv.prod (h : QIn Y a b u u1) (i : QInv Y a b u u1 q r) (hq : q < 4294967296) : 0 ≤ q * b ∧ q * b ≤ 18446744073709551615 ∧ 0 ≤ 4294967296 * r + u1 ∧ 4294967296 * r + u1 ≤ 18446744073709551615 := by
  have h1 : q * b ≤ 4294967295 * b := Int.mul_le_mul_of_nonneg_right (by omega) h.b0
  have := h.b1; have := i.r0; have := i.r1; have := h.v0; have := h.v1
  have := Int.mul_nonneg i.q0 h.b0
  omega
/-- the rest behind a digit -/
theorem QIn.rest (h : QIn Y a b u u1) : 0 ≤ u * 4294967296 + u1 - (u * 4294967296 + u1) / Y * Y ∧ u * 4294967296 + u1 - (u * 4294967296 + u1) / Y * Y < Y := by
  obtain ⟨Q, R, eQ, pQ, R0, R1⟩ := fl (u * 4294967296 + u1) Y h.Ypos
  rw [eQ, Int.mul_comm Q]; omega

/-! Div64: the numbers moved up so that the divisor's first bit stands -/
theorem lz_spec {y : Nat} (h0 : 0 < y) (h1 : y < 18446744073709551616) : ∃ s : Nat, (64 : Int) - (bitLen y : Int) = (s : Int) ∧ s ≤ 63 ∧ 9223372036854775808 ≤ y * 2 ^ s ∧ y * 2 ^ s < 18446744073709551616 := by
  have hb : bitLen y = bitLenAux 64 y := rfl
  obtain ⟨a1, a2, a3⟩ := bitLenAux_bounds 64 y (by simpa using h1) (by omega)
  have a4 := bitLenAux_le 64 y 64 (by simpa using h1)
  rw [hb]
  generalize bitLenAux 64 y = L at *
  refine ⟨64 - L, by omega, by omega, ?_, ?_⟩
  · have : 2 ^ (L - 1) * 2 ^ (64 - L) = 2 ^ 63 := by rw [← Nat.pow_add]; congr 1; omega
    have := Nat.mul_le_mul_right (2 ^ (64 - L)) a2
    omega
  · have : 2 ^ L * 2 ^ (64 - L) = 2 ^ 64 := by rw [← Nat.pow_add]; congr 1; omega
    have := Nat.mul_lt_mul_of_pos_right a3 (Nat.two_pow_pos (64 - L))
    omega

/-- P: the power by which all is moved up; P * R = 2^64. -/
theorem shift_facts {hi lo y P R : Int} (hP : 1 ≤ P) (hPR : P * R = 18446744073709551616) (h0 : 0 ≤ hi) (h1 : hi < y) (l0 : 0 ≤ lo) (l1 : lo < 18446744073709551616) :
    (hi * 18446744073709551616 + lo) * P = (hi * P + lo / R) * 18446744073709551616 + lo * P % 18446744073709551616 ∧
    0 ≤ lo / R ∧ lo / R < P ∧ hi * P + lo / R < y * P ∧ 0 ≤ hi * P := by
  have hR : 1 ≤ R := by
    refine Int.not_lt.1 fun hlt => ?_
    have : P * R ≤ P * 0 := Int.mul_le_mul_of_nonneg_left (by omega) (by omega)
    omega
  have d0 : 0 ≤ lo / R := Int.ediv_nonneg l0 (by omega)
  have d1 : lo / R < P := Int.ediv_lt_of_lt_mul (by omega) (by omega)
  have hlo : lo * P / 18446744073709551616 = lo / R := by
    rw [← hPR, Int.mul_comm lo P]; exact Int.mul_ediv_mul_of_pos _ _ (by omega)
  have hm := Int.mul_ediv_add_emod (lo * P) 18446744073709551616
  refine ⟨?_, d0, d1, ?_, Int.mul_nonneg h0 (by omega)⟩
  · rw [Int.add_mul, Int.add_mul, Int.mul_right_comm, ← hlo]; omega
  · have : (hi + 1) * P ≤ y * P := Int.mul_le_mul_of_nonneg_right (by omega) (by omega)
    rw [Int.add_mul, Int.one_mul] at this
    omega

/-- two digits make the quotient, the last rest moved down the remainder -/
theorem two_digits {N y P H un1 un0 q1 q0 t1 t0 : Int} (hP : 1 ≤ P) (hy : 1 ≤ y) (hN : N * P = H * 18446744073709551616 + (un1 * 4294967296 + un0))
    (e1 : t1 = H * 4294967296 + un1 - q1 * (y * P)) (e0 : t0 = t1 * 4294967296 + un0 - q0 * (y * P)) (r0 : 0 ≤ t0) (r1 : t0 < y * P) :
    q1 * 4294967296 + q0 = N / y ∧ t0 / P = N % y := by
  have hsum : N * P = (y * P) * (q1 * 4294967296 + q0) + t0 := by
    rw [Int.mul_add, Int.mul_comm (y * P) q0, ← Int.mul_assoc, Int.mul_comm (y * P) q1, hN, e0, e1]
    omega
  have hyP : 0 < y * P := Int.mul_pos (by omega) (by omega)
  have hq : N / y = q1 * 4294967296 + q0 := by
    rw [← Int.mul_ediv_mul_of_pos_left N y (by omega : 0 < P)]
    exact fl_unique hyP hsum r0 r1
  refine ⟨hq.symm, ?_⟩
  have hr : t0 = (N % y) * P := by
    rw [Int.emod_def, hq, Int.sub_mul, hsum]
    rw [Int.mul_right_comm]; omega
  rw [hr, Int.mul_ediv_cancel _ (by omega)]
end Go.Proofs.YtgccfdfbnhldbaaGreatDoor.Ck

namespace Go.Proofs.YtgccfdfbnhldbaaGreatDoor.Nt
open Go Go.Lib

/-- the six digits of a number below a million -/
def six (r : Nat) : List UInt8 := (List.range 6).map fun t => dg r (5 - t)
theorem six_million {r : Nat} (h : r < 1000000) : decDigits (1000000 + r) = 49 :: six r := by
  have hn : nDigits (1000000 + r) = 7 := nDigits_unique 6 _ (by omega) (by omega)
  rw [decDigits_eq, hn]
  simp only [six, List.range, List.range.loop, List.map_cons, List.map_nil, Nat.sub_zero, Nat.reduceSub, dg]
  have e : ∀ j, (1000000 + r) / 10 ^ j % 10 = (1000000 + r) / 10 ^ j % 10 := fun _ => rfl
  have h6 : (1000000 + r) / 10 ^ 6 % 10 = 1 := by omega
  have h5 : (1000000 + r) / 10 ^ 5 % 10 = r / 10 ^ 5 % 10 := by omega
  have h4 : (1000000 + r) / 10 ^ 4 % 10 = r / 10 ^ 4 % 10 := by omega
  have h3 : (1000000 + r) / 10 ^ 3 % 10 = r / 10 ^ 3 % 10 := by omega
  have h2 : (1000000 + r) / 10 ^ 2 % 10 = r / 10 ^ 2 % 10 := by omega
  have h1 : (1000000 + r) / 10 ^ 1 % 10 = r / 10 ^ 1 % 10 := by omega
  have h0 : (1000000 + r) / 10 ^ 0 % 10 = r / 10 ^ 0 % 10 := by omega
  rw [h6, h5, h4, h3, h2, h1, h0]
  rfl
end Go.Proofs.YtgccfdfbnhldbaaGreatDoor.Nt
