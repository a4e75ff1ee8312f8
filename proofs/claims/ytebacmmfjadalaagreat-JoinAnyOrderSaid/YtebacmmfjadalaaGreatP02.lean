/- D1 D2 A2 in one text. -/
import Derived.Test.YtebacmmfjadalaaGreatP01
import Derived.Lib.ItoaNum
import Derived.Laws.BitsAllLaws
import Derived.IntWalk
import Derived.Test.YtebacmmfjadalaaGreatProg
import Derived.WalkKit
import Derived.Outline
import Derived.WalkLawsBesides
import Derived.WalkSpells
import Derived.Handy
import Derived.Deep.DeepCutAuto
import Derived.Deep.QuietTactic
import Derived.BigQuiet
import Derived.Deep.CutBlock
import Derived.Lib.Hide

namespace Go.Proofs.YtebacmmfjadalaaGreat.Ck
open Go.Lib
/-! Div64: a digit of the quotient -/
structure QIn (Y a b u u1 : Int) : Prop where
  hY : Y = a * 4294967296 + b
  a0 : 2147483648 ≤ a
  a1 : a < 4294967296
  b0 : 0 ≤ b
  b1 : b < 4294967296
  u0 : 0 ≤ u
  uY : u < Y
  v0 : 0 ≤ u1
  v1 : u1 < 4294967296
/-- the guess q, with the rest r, is not below the digit -/
structure QInv (Y a b u u1 q r : Int) : Prop where
  ge : (u * 4294967296 + u1) / Y ≤ q
  eq : q * a + r = u
  r0 : 0 ≤ r
  r1 : r < 4294967296
  q1 : q ≤ 4294967297
  q0 : 0 ≤ q

variable {Y a b u u1 q r : Int}
theorem QIn.Ypos (h : QIn Y a b u u1) : 0 < Y := by have := h.hY; have := h.a0; have := h.b0; omega
theorem QIn.dig (h : QIn Y a b u u1) : 0 ≤ (u * 4294967296 + u1) / Y ∧ (u * 4294967296 + u1) / Y < 4294967296 := by
  have := h.Ypos; have := h.u0; have := h.uY; have := h.v0; have := h.v1
  refine ⟨Int.ediv_nonneg (by omega) (by omega), Int.ediv_lt_of_lt_mul (by omega) (by omega)⟩
theorem QIn.start (h : QIn Y a b u u1) : QInv Y a b u u1 (u / a) (u - u / a * a) := by
  have hp := h.Ypos
  obtain ⟨Q, R, eQ, pQ, R0, R1⟩ := fl (u * 4294967296 + u1) Y hp
  obtain ⟨q, r, eq, pq, r0, r1⟩ := fl u a (by have := h.a0; omega)
  rw [eq]
  have hm : q * a = a * q := Int.mul_comm _ _
  have h0 : 0 ≤ q := by rw [← eq]; exact Int.ediv_nonneg h.u0 (by have := h.a0; omega)
  refine ⟨?_, by omega, by omega, by have := h.a1; omega, ?_, h0⟩
  · rw [eQ]
    -- Q * a ≤ u
    have hQ0 : 0 ≤ Q := by rw [← eQ]; exact h.dig.1
    have e1 : Y * Q = 4294967296 * (a * Q) + b * Q := by rw [h.hY, Int.add_mul, Int.mul_assoc, Int.mul_left_comm]
    have e2 : 0 ≤ b * Q := Int.mul_nonneg h.b0 hQ0
    have e3 : a * Q ≤ u := by have := h.v1; omega
    rw [← eq, Int.le_ediv_iff_mul_le (by have := h.a0; omega), Int.mul_comm]; exact e3
  · refine Int.not_lt.1 fun hlt => ?_
    have : a * 4294967298 ≤ a * q := Int.mul_le_mul_of_nonneg_left hlt (by have := h.a0; omega)
    have := h.uY; have := h.hY; have := h.b1; have := h.a0; omega

/-- the test said that the guess is too great -/
theorem QInv.over (h : QIn Y a b u u1) (i : QInv Y a b u u1 q r) (ht : 4294967296 ≤ q ∨ 4294967296 * r + u1 < q * b) : (u * 4294967296 + u1) / Y ≤ q - 1 := by
  rcases ht with ht | ht
  · have := h.dig; omega
  · have : (u * 4294967296 + u1) / Y < q := by
      apply Int.ediv_lt_of_lt_mul h.Ypos
      have e : q * Y = 4294967296 * (q * a) + q * b := by rw [h.hY, Int.mul_add, ← Int.mul_assoc, Int.mul_comm (q * a)]
      have := i.eq
      omega
    omega
theorem QInv.dec (h : QIn Y a b u u1) (i : QInv Y a b u u1 q r) (ht : 4294967296 ≤ q ∨ 4294967296 * r + u1 < q * b) (hr : r + a < 4294967296) : QInv Y a b u u1 (q - 1) (r + a) := by
  have h1 := i.over h ht
  have := h.dig; have := i.eq; have := i.r0; have := h.a0; have := i.q1
  exact ⟨h1, by rw [Int.sub_mul, Int.one_mul]; omega, by omega, hr, by omega, by omega⟩
theorem digit_of (h : QIn Y a b u u1) (hge : (u * 4294967296 + u1) / Y ≤ q) (e : q * a + r = u) (hle : q * b ≤ 4294967296 * r + u1) : q = (u * 4294967296 + u1) / Y := by
  have : q ≤ (u * 4294967296 + u1) / Y := by
    rw [Int.le_ediv_iff_mul_le h.Ypos]
    have e2 : q * Y = 4294967296 * (q * a) + q * b := by rw [h.hY, Int.mul_add, ← Int.mul_assoc, Int.mul_comm (q * a)]
    omega
  omega
theorem QInv.brk (h : QIn Y a b u u1) (i : QInv Y a b u u1 q r) (ht : 4294967296 ≤ q ∨ 4294967296 * r + u1 < q * b) (hr : 4294967296 ≤ r + a) : q - 1 = (u * 4294967296 + u1) / Y := by
  have h1 := i.over h ht
  have := h.dig
  refine digit_of (r := r + a) h h1 (by have := i.eq; rw [Int.sub_mul, Int.one_mul]; omega) ?_
  have e1 : (q - 1) * b ≤ 4294967296 * b := Int.mul_le_mul_of_nonneg_right (by have := i.q1; omega) h.b0
  have := h.b1; have := h.v0
  omega
theorem QInv.stop (h : QIn Y a b u u1) (i : QInv Y a b u u1 q r) (ht : ¬ (4294967296 ≤ q ∨ 4294967296 * r + u1 < q * b)) : q = (u * 4294967296 + u1) / Y :=
  digit_of h i.ge i.eq (by omega)
/-- the products of the test do not wrap -/
theorem QInv.prod (h : QIn Y a b u u1) (i : QInv Y a b u u1 q r) (hq : q < 4294967296) : 0 ≤ q * b ∧ q * b ≤ 18446744073709551615 ∧ 0 ≤ 4294967296 * r + u1 ∧ 4294967296 * r + u1 ≤ 18446744073709551615 := by
  have h1 : q * b ≤ 4294967295 * b := Int.mul_le_mul_of_nonneg_right (by omega) h.b0
  have := h.b1; have := i.r0; have := i.r1; have := h.v0; have := h.v1
  have := Int.mul_nonneg i.q0 h.b0
  omega
/-- the rest behind a digit -/
theorem QIn.rest (h : QIn Y a b u u1) : 0 ≤ u * 4294967296 + u1 - (u * 4294967296 + u1) / Y * Y ∧ u * 4294967296 + u1 - (u * 4294967296 + u1) / Y * Y < Y := by
  obtain ⟨Q, R, eQ, pQ, R0, R1⟩ := fl (u * 4294967296 + u1) Y h.Ypos
  rw [eQ, Int.mul_comm Q]; omega

/-! Div64: the numbers moved up so that the divisor's first bit stands -/
theorem lz_spec {y : Nat} (h0 : 0 < y) (h1 : y < 18446744073709551616) : ∃ s : Nat, (64 : Int) - (bitLen y : Int) = (s : Int) ∧ s ≤ 63 ∧ 9223372036854775808 ≤ y * 2 ^ s ∧ y * 2 ^ s < 18446744073709551616 := by
  have hb : bitLen y = bitLenAux 64 y := rfl
  obtain ⟨a1, a2, a3⟩ := bitLenAux_bounds 64 y (by simpa using h1) (by omega)
  have a4 := bitLenAux_le 64 y 64 (by simpa using h1)
  rw [hb]
  generalize bitLenAux 64 y = L at *
  refine ⟨64 - L, by omega, by omega, ?_, ?_⟩
  · have : 2 ^ (L - 1) * 2 ^ (64 - L) = 2 ^ 63 := by rw [← Nat.pow_add]; congr 1; omega
    have := Nat.mul_le_mul_right (2 ^ (64 - L)) a2
    omega
  · have : 2 ^ L * 2 ^ (64 - L) = 2 ^ 64 := by rw [← Nat.pow_add]; congr 1; omega
    have := Nat.mul_lt_mul_of_pos_right a3 (Nat.two_pow_pos (64 - L))
    omega

/-- P: the power by which all is moved up; P * R = 2^64. -/
theorem shift_facts {hi lo y P R : Int} (hP : 1 ≤ P) (hPR : P * R = 18446744073709551616) (h0 : 0 ≤ hi) (h1 : hi < y) (l0 : 0 ≤ lo) (l1 : lo < 18446744073709551616) :
    (hi * 18446744073709551616 + lo) * P = (hi * P + lo / R) * 18446744073709551616 + lo * P % 18446744073709551616 ∧
    0 ≤ lo / R ∧ lo / R < P ∧ hi * P + lo / R < y * P ∧ 0 ≤ hi * P := by
  have hR : 1 ≤ R := by
    refine Int.not_lt.1 fun hlt => ?_
    have : P * R ≤ P * 0 := Int.mul_le_mul_of_nonneg_left (by omega) (by omega)
    omega
  have d0 : 0 ≤ lo / R := Int.ediv_nonneg l0 (by omega)
  have d1 : lo / R < P := Int.ediv_lt_of_lt_mul (by omega) (by omega)
  have hlo : lo * P / 18446744073709551616 = lo / R := by
    rw [← hPR, Int.mul_comm lo P]; exact Int.mul_ediv_mul_of_pos _ _ (by omega)
  have hm := Int.mul_ediv_add_emod (lo * P) 18446744073709551616
  refine ⟨?_, d0, d1, ?_, Int.mul_nonneg h0 (by omega)⟩
  · rw [Int.add_mul, Int.add_mul, Int.mul_right_comm, ← hlo]; omega
  · have : (hi + 1) * P ≤ y * P := Int.mul_le_mul_of_nonneg_right (by omega) (by omega)
    rw [Int.add_mul, Int.one_mul] at this
    omega

/-- two digits make the quotient, the last rest moved down the remainder -/
theorem two_digits {N y P H un1 un0 q1 q0 t1 t0 : Int} (hP : 1 ≤ P) (hy : 1 ≤ y) (hN : N * P = H * 18446744073709551616 + (un1 * 4294967296 + un0))
    (e1 : t1 = H * 4294967296 + un1 - q1 * (y * P)) (e0 : t0 = t1 * 4294967296 + un0 - q0 * (y * P)) (r0 : 0 ≤ t0) (r1 : t0 < y * P) :
    q1 * 4294967296 + q0 = N / y ∧ t0 / P = N % y := by
  have hsum : N * P = (y * P) * (q1 * 4294967296 + q0) + t0 := by
    rw [Int.mul_add, Int.mul_comm (y * P) q0, ← Int.mul_assoc, Int.mul_comm (y * P) q1, hN, e0, e1]
    omega
  have hyP : 0 < y * P := Int.mul_pos (by omega) (by omega)
  have hq : N / y = q1 * 4294967296 + q0 := by
    rw [← Int.mul_ediv_mul_of_pos_left N y (by omega : 0 < P)]
    exact fl_unique hyP hsum r0 r1
  refine ⟨hq.symm, ?_⟩
  have hr : t0 = (N % y) * P := by
    rw [Int.emod_def, hq, Int.sub_mul, hsum]
    rw [Int.mul_right_comm]; omega
  rw [hr, Int.mul_ediv_cancel _ (by omega)]
end Go.Proofs.YtebacmmfjadalaaGreat.Ck

namespace Go.Proofs.YtebacmmfjadalaaGreat.Ck
open Go Go.Lib
theorem u64w {n : Int} (h0 : 0 ≤ n) (h1 : n ≤ 18446744073709551615) : IntKind.u64.wrap n = n := IntWalk.u64_in n ⟨h0, h1⟩
theorem and32 {n : Int} (h0 : 0 ≤ n) (h1 : n ≤ 18446744073709551615) : bits .and .u64 n 4294967295 = n % 4294967296 := by
  rw [u64_and _ _ h0 (by omega) (by omega) (by omega)]
  have e : n.toNat &&& (4294967295 : Int).toNat = n.toNat % 2 ^ 32 := Nat.and_two_pow_sub_one_eq_mod _ 32
  rw [e]; omega
theorem or_join {A B : Int} {s : Nat} {h : Int} (hA : A = h * 2 ^ s) (h0 : 0 ≤ h) (hA1 : A ≤ 18446744073709551615) (B0 : 0 ≤ B) (B1 : B < 2 ^ s) (hs : s ≤ 63) : bits .or .u64 A B = A + B := by
  have hp : (2 : Int) ^ s = ((2 ^ s : Nat) : Int) := by simp
  have hA0 : 0 ≤ A := by rw [hA, hp]; exact Int.mul_nonneg h0 (by omega)
  have hp2 : 2 ^ s ≤ 2 ^ 63 := Nat.pow_le_pow_right (by omega) hs
  rw [u64_or _ _ hA0 (by omega) B0 (by rw [hp] at B1; omega)]
  have e : A.toNat = 2 ^ s * h.toNat := by
    rw [hA, hp, Int.toNat_mul h0 (by omega), Int.toNat_natCast, Nat.mul_comm]
  rw [e, Nat.mul_comm, ← Nat.shiftLeft_eq, ← Nat.shiftLeft_add_eq_or_of_lt (by rw [hp] at B1; omega), Nat.shiftLeft_eq, Nat.mul_comm, ← e]
  omega

/-- all that Div64 reckons with, the numbers moved up -/
structure DSet (hi lo y : Int) (s : Nat) (Y a b A H L u1 u0 : Int) : Prop where
  eY : IntKind.u64.wrap (y * 2 ^ s) = Y
  ea : Y / 4294967296 = a
  eb : bits .and .u64 Y 4294967295 = b
  eA : IntKind.u64.wrap (hi * 2 ^ s) = A
  eH : bits .or .u64 A (lo / 2 ^ (64 - s)) = H
  eL : IntKind.u64.wrap (lo * 2 ^ s) = L
  e1 : L / 4294967296 = u1
  e0 : bits .and .u64 L 4294967295 = u0
  q : QIn Y a b H u1
  Y1 : Y ≤ 18446744073709551615
  H0 : 0 ≤ H
  H1 : H ≤ 18446744073709551615
  A0 : 0 ≤ A
  A1 : A ≤ 18446744073709551615
  L0 : 0 ≤ L
  L1 : L ≤ 18446744073709551615
  v0 : 0 ≤ u0
  v1 : u0 < 4294967296
  yP : Y = y * 2 ^ s
  P1 : (1 : Int) ≤ 2 ^ s
  N : (hi * 18446744073709551616 + lo) * 2 ^ s = H * 18446744073709551616 + (u1 * 4294967296 + u0)

theorem dset {hi lo y : Int} {s : Nat} (h0 : 0 ≤ hi) (h1 : hi < y) (l0 : 0 ≤ lo) (l1 : lo ≤ 18446744073709551615) (hs : s ≤ 63)
    (y0 : 9223372036854775808 ≤ y.toNat * 2 ^ s) (y1 : y.toNat * 2 ^ s < 18446744073709551616) :
    ∃ Y a b A H L u1 u0, DSet hi lo y s Y a b A H L u1 u0 := by
  have hp : (2 : Int) ^ s = ((2 ^ s : Nat) : Int) := by simp
  have hP1 : (1 : Int) ≤ 2 ^ s := by rw [hp]; have := Nat.two_pow_pos s; omega
  have hPR : (2 : Int) ^ s * 2 ^ (64 - s) = 18446744073709551616 := by
    rw [← Int.pow_add, show s + (64 - s) = 64 by omega]; rfl
  have hY : ((y.toNat * 2 ^ s : Nat) : Int) = y * 2 ^ s := by rw [Int.natCast_mul, hp]; congr 1; omega
  obtain ⟨f1, f2, f3, f4, f5⟩ := shift_facts hP1 hPR h0 h1 l0 (by omega)
  have hwY : IntKind.u64.wrap (y * 2 ^ s) = y * 2 ^ s := u64w (by omega) (by omega)
  have hwA : IntKind.u64.wrap (hi * 2 ^ s) = hi * 2 ^ s := u64w (by omega) (by omega)
  have hwL : IntKind.u64.wrap (lo * 2 ^ s) = lo * 2 ^ s % 18446744073709551616 := IntKind.wrap_u64 _
  have hor := or_join (A := hi * 2 ^ s) (B := lo / 2 ^ (64 - s)) rfl h0 (by omega) f2 f3 hs
  have hYb : bits .and .u64 (y * 2 ^ s) 4294967295 = y * 2 ^ s % 4294967296 := and32 (by omega) (by omega)
  have hL0 : bits .and .u64 (lo * 2 ^ s % 18446744073709551616) 4294967295 = lo * 2 ^ s % 18446744073709551616 % 4294967296 := and32 (by omega) (by omega)
  exact ⟨_, _, _, _, _, _, _, _, { eY := hwY, ea := rfl, eb := hYb, eA := hwA, eH := hor, eL := hwL, e1 := rfl, e0 := hL0
                                   q := ⟨by omega, by omega, by omega, by omega, by omega, by omega, f4, by omega, by omega⟩
                                   Y1 := by omega, H0 := by omega, H1 := by omega, A0 := f5, A1 := by omega, L0 := by omega, L1 := by omega, v0 := by omega, v1 := by omega
                                   yP := rfl, P1 := hP1, N := by rw [f1]; omega }⟩

/-- the rest behind a digit, as the code reckons it: all modulo 2^64 -/
theorem rest_wrap {Y a b u u1 : Int} (h : QIn Y a b u u1) (hY : Y ≤ 18446744073709551615) (Q : Int) (hQ : Q = (u * 4294967296 + u1) / Y) :
    IntKind.u64.wrap (IntKind.u64.wrap (IntKind.u64.wrap (u * 4294967296) + u1) - IntKind.u64.wrap (Q * Y)) = u * 4294967296 + u1 - Q * Y := by
  have hr := h.rest
  rw [← hQ] at hr
  simp only [IntKind.wrap_u64]
  generalize Q * Y = Z at *
  omega
theorem div_mul_le {H a q : Int} (hH0 : 0 ≤ H) (hH : H ≤ 18446744073709551615) (ha : 0 < a) (hq : H / a = q) : IntKind.u64.wrap (q * a) = q * a ∧ 0 ≤ q * a ∧ q * a ≤ H ∧ 0 ≤ q ∧ q ≤ H := by
  obtain ⟨q', r, e, p, r0, r1⟩ := fl H a ha
  rw [e] at hq; subst hq
  have hm : q' * a = a * q' := Int.mul_comm _ _
  have h0 : 0 ≤ q' := by rw [← e]; exact Int.ediv_nonneg hH0 (by omega)
  have h1 : 0 ≤ q' * a := Int.mul_nonneg h0 (by omega)
  have h2 : q' * 1 ≤ q' * a := Int.mul_le_mul_of_nonneg_left (by omega) h0
  exact ⟨u64w h1 (by omega), h1, by omega, h0, by omega⟩
end Go.Proofs.YtebacmmfjadalaaGreat.Ck

namespace Go.Proofs.YtebacmmfjadalaaGreat
open Go.RowKit

theorem ret_int {k : IntKind} {a b : Int} (h : a = b) : Value.int k a = Value.int k b := by rw [h]
theorem lz64 (y : Int) (s : Nat) (w : World) (h0 : 0 ≤ y) (h1 : y ≤ 18446744073709551615) (hs : (64 : Int) - (Lib.bitLen y.toNat : Int) = (s : Int)) :
    Calls Tryz.prog 110 #[.int .u64 y] w fun e w' => e = .returned (.int .i64 (s : Int)) ∧ w = w' := by
  rw [← hs]
  exact (Tryz.bits_LeadingZeros64 y w h0 h1).mono fun e w' ⟨a, b⟩ => ⟨a, b.symm⟩

set_option maxHeartbeats 1000000 in
theorem div64_big (hi lo y : Int) (w : World) (h0 : 0 < hi) (h1 : hi < y) (hy : y ≤ 18446744073709551615) (l0 : 0 ≤ lo) (l1 : lo ≤ 18446744073709551615) :
    Calls Tryz.prog 92 #[.int .u64 hi, .int .u64 lo, .int .u64 y] w fun e w' => e = .returned (.tuple #[.int .u64 ((hi * 18446744073709551616 + lo) / y), .int .u64 ((hi * 18446744073709551616 + lo) % y)]) ∧ w = w' := by
  have hy0 : ¬ y = 0 := by omega
  have hh0 : ¬ hi = 0 := by omega
  have hle : ¬ y ≤ hi := by omega
  obtain ⟨s, hs, hs63, hY0, hY1⟩ := Ck.lz_spec (y := y.toNat) (by omega) (by omega)
  obtain ⟨Y, a, b, A, H, L, u1, u0, D⟩ := Ck.dset (by omega) h1 l0 l1 hs63 hY0 hY1
  have HS := Lib.hid hs
  have HD := Lib.hid D
  clear hs hY0 hY1
  obtain ⟨q, hq⟩ : ∃ q, H / a = q := ⟨_, rfl⟩
  have a0 := D.q.a0
  have a1 := D.q.a1
  have ha : (1 : Int) ≤ a := by omega
  obtain ⟨hm, m0, m1, q0, q1⟩ := Ck.div_mul_le D.H0 D.H1 (by omega) hq
  obtain ⟨m, hmm⟩ : ∃ m, q * a = m := ⟨_, rfl⟩
  replace hm := hm.trans hmm
  rw [hmm] at m0 m1
  have Q0 := Lib.hid (show Ck.QInv Y a b H u1 q (H - m) from by have := D.q.start; rw [hq, hmm] at this; exact this)
  clear hmm
  have hmin : min s 64 = s := by omega
  have eY := D.eY
  have ea := D.ea
  have eb := D.eb
  have eA := D.eA
  have eH := D.eH
  have eL := D.eL
  have e1 := D.e1
  have e0 := D.e0
  have b0 := D.q.b0
  have b1 := D.q.b1
  have Y1 := D.Y1
  have H0 := D.H0
  have H1 := D.H1
  have L0 := D.L0
  have L1 := D.L1
  have v0 := D.v0
  have v1 := D.v1
  have w0 := D.q.v0
  have w1 := D.q.v1
  clear D
  go_enter Tryz.func92, Tryz.ntmps92
  go_upto_block 0 with (go_at_call 110; refine (lz64 _ s _ (by omega) (by omega) HS.out).mono ?_; rintro e w' ⟨rfl, rfl⟩)
  simp only [hq]
  clear hq hm hmin eY ea eb eA eH eL e1 e0
  go_cut [15, 16] (fun v v' wx => v = .int .u64 ((H * 4294967296 + u1) / Y) ∧ (∃ r, v' = .int .u64 r) ∧ w = wx)
  case first =>
    go_wp2_with fail
    go_loop [15, 16] (fun v v' => ∃ q r, Hid (Ck.QInv Y a b H u1 q r) ∧ v = .int .u64 q ∧ v' = .int .u64 r) (fun v _ => (intOf v).toNat)
    case atStart => exact ⟨q, H - m, Q0, rfl, rfl⟩
    case round =>
      obtain ⟨q, r, I, rfl, rfl⟩ := hrel
      have r0 := I.out.r0
      have r1 := I.out.r1
      have g0 := I.out.q0
      have g1 := I.out.q1
      by_cases c1 : 4294967296 ≤ q
      · by_cases c2 : r + a < 4294967296
        · go_wp2
          go_round
          case rel => exact ⟨q - 1, r + a, I.out.dec HD.out.q (.inl c1) c2, rfl, rfl⟩
          case measure => simp [intOf]; omega
        · go_wp2
          go_meet
          exact ⟨ret_int (I.out.brk HD.out.q (.inl c1) (by omega)), ⟨_, rfl⟩, rfl⟩
      · obtain ⟨p0, p1, p2, p3⟩ := I.out.prod HD.out.q (by omega)
        have hp := Ck.u64w p0 p1
        by_cases c3 : 4294967296 * r + u1 < q * b
        · have hq1 : 0 ≤ q - 1 := by have := I.out.over HD.out.q (.inr c3); have := HD.out.q.dig; omega
          by_cases c2 : r + a < 4294967296
          · go_wp2
            go_round
            case rel => exact ⟨q - 1, r + a, I.out.dec HD.out.q (.inr c3) c2, rfl, rfl⟩
            case measure => simp [intOf]; omega
          · go_wp2
            go_meet
            exact ⟨ret_int (I.out.brk HD.out.q (.inr c3) (by omega)), ⟨_, rfl⟩, rfl⟩
        · go_wp2
          go_meet
          exact ⟨ret_int (I.out.stop HD.out.q (by omega)), ⟨_, rfl⟩, rfl⟩
  case rest =>
    obtain ⟨rfl, ⟨r, rfl⟩, rfl⟩ := hcut
    obtain ⟨Q1, hQ1⟩ : ∃ Q, (H * 4294967296 + u1) / Y = Q := ⟨_, rfl⟩
    obtain ⟨t1, ht1⟩ : ∃ t, H * 4294967296 + u1 - Q1 * Y = t := ⟨_, rfl⟩
    have ht := (Ck.rest_wrap HD.out.q Y1 Q1 hQ1.symm).trans ht1
    have hd := HD.out.q.dig
    have hr := HD.out.q.rest
    rw [hQ1] at hd hr
    rw [ht1] at hr
    have D' : Ck.QIn Y a b t1 u0 := { HD.out.q with u0 := hr.1, uY := hr.2, v0 := v0, v1 := v1 }
    obtain ⟨hd0, hd1⟩ := hd
    obtain ⟨t10, t11⟩ := hr
    obtain ⟨q', hq'⟩ : ∃ q, t1 / a = q := ⟨_, rfl⟩
    obtain ⟨hm', m0', m1', q0', q1'⟩ := Ck.div_mul_le (H := t1) t10 (by omega) (by omega) hq'
    obtain ⟨m', hmm'⟩ : ∃ m, q' * a = m := ⟨_, rfl⟩
    replace hm' := hm'.trans hmm'
    rw [hmm'] at m0' m1'
    have Q0' := Lib.hid (show Ck.QInv Y a b t1 u0 q' (t1 - m') from by have := D'.start; rw [hq', hmm'] at this; exact this)
    clear hmm'
    have DD := Lib.hid D'
    clear D'
    simp only [hQ1]
    have HQ1 := Lib.hid hQ1
    have HT1 := Lib.hid ht1
    clear hQ1 ht1
    go_upto_block 2 with fail
    simp only [hq']
    clear hq' hm'
    go_cut [18, 16] (fun v v' wx => v = .int .u64 ((t1 * 4294967296 + u0) / Y) ∧ (∃ r, v' = .int .u64 r) ∧ w = wx)
    case first =>
      go_wp2_with fail
      go_loop [18, 16] (fun v v' => ∃ q r, Hid (Ck.QInv Y a b t1 u0 q r) ∧ v = .int .u64 q ∧ v' = .int .u64 r) (fun v _ => (intOf v).toNat)
      case atStart => exact ⟨q', t1 - m', Q0', rfl, rfl⟩
      case round =>
        obtain ⟨q, r, I, rfl, rfl⟩ := hrel
        have r0 := I.out.r0
        have r1 := I.out.r1
        have g0 := I.out.q0
        have g1 := I.out.q1
        by_cases c1 : 4294967296 ≤ q
        · by_cases c2 : r + a < 4294967296
          · go_wp2
            go_round
            case rel => exact ⟨q - 1, r + a, I.out.dec DD.out (.inl c1) c2, rfl, rfl⟩
            case measure => simp [intOf]; omega
          · go_wp2
            go_meet
            exact ⟨ret_int (I.out.brk DD.out (.inl c1) (by omega)), ⟨_, rfl⟩, rfl⟩
        · obtain ⟨p0, p1, p2, p3⟩ := I.out.prod DD.out (by omega)
          have hp := Ck.u64w p0 p1
          by_cases c3 : 4294967296 * r + u0 < q * b
          · have hq1 : 0 ≤ q - 1 := by have := I.out.over DD.out (.inr c3); have := DD.out.dig; omega
            by_cases c2 : r + a < 4294967296
            · go_wp2
              go_round
              case rel => exact ⟨q - 1, r + a, I.out.dec DD.out (.inr c3) c2, rfl, rfl⟩
              case measure => simp [intOf]; omega
            · go_wp2
              go_meet
              exact ⟨ret_int (I.out.brk DD.out (.inr c3) (by omega)), ⟨_, rfl⟩, rfl⟩
          · go_wp2
            go_meet
            exact ⟨ret_int (I.out.stop DD.out (by omega)), ⟨_, rfl⟩, rfl⟩
    case rest =>
      obtain ⟨rfl, ⟨r, rfl⟩, rfl⟩ := hcut
      obtain ⟨Q2, hQ2⟩ : ∃ Q, (t1 * 4294967296 + u0) / Y = Q := ⟨_, rfl⟩
      obtain ⟨t0, ht0⟩ : ∃ t, t1 * 4294967296 + u0 - Q2 * Y = t := ⟨_, rfl⟩
      have ht' := (Ck.rest_wrap DD.out Y1 Q2 hQ2.symm).trans ht0
      have hd := DD.out.dig
      have hr := DD.out.rest
      rw [hQ2] at hd hr
      rw [ht0] at hr
      obtain ⟨hd0', hd1'⟩ := hd
      obtain ⟨t00, t01⟩ := hr
      simp only [hQ2]
      have yP := HD.out.yP
      have hfin := Ck.two_digits (N := hi * 18446744073709551616 + lo) (y := y) (P := 2 ^ s) (H := H) (un1 := u1) (un0 := u0) (q1 := Q1) (q0 := Q2) (t1 := t1) (t0 := t0) HD.out.P1 (by omega) HD.out.N (by rw [← yP, HT1.out]) (by rw [← yP, ht0]) t00 (by rw [← yP]; exact t01)
      clear yP
      have HF := Lib.hid hfin
      clear hfin ht0
      have hQ2' := Lib.hid hQ2
      clear hQ2
      go_wp2_with fail
      go_ret2
      refine ⟨?_, rfl⟩
      rw [← HF.out.1, ← HF.out.2]
      rfl

theorem div64_small (lo y : Int) (w : World) (h1 : 0 < y) (hy : y ≤ 18446744073709551615) (l0 : 0 ≤ lo) (l1 : lo ≤ 18446744073709551615) :
    Calls Tryz.prog 92 #[.int .u64 0, .int .u64 lo, .int .u64 y] w fun e w' => e = .returned (.tuple #[.int .u64 (lo / y), .int .u64 (lo % y)]) ∧ ∃ n, w' = w.drewN n := by
  have hy0 : ¬ y = 0 := by omega
  go_enter Tryz.func92, Tryz.ntmps92
  go_wp2_with fail
  go_quiet (fail)
  go_wp2
  go_ret2
  exact ⟨rfl, _, rfl⟩
end Go.Proofs.YtebacmmfjadalaaGreat
