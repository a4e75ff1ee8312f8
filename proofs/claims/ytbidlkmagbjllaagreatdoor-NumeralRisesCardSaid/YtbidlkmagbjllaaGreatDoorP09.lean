/- D2 in one text. -/
import Derived.Test.YtbidlkmagbjllaaGreatDoorP08
import Derived.Laws.BitsAllLaws
import Derived.IntWalk

namespace Go.Proofs.YtbidlkmagbjllaaGreatDoor.Ck
open Go Go.Lib
theorem u64w {n : Int} (h0 : 0 ≤ n) (h1 : n ≤ 18446744073709551615) : IntKind.u64.wrap n = n := IntWalk.u64_in n ⟨h0, h1⟩
theorem and32 {n : Int} (h0 : 0 ≤ n) (h1 : n ≤ 18446744073709551615) : bits .and .u64 n 4294967295 = n % 4294967296 := by
  rw [u64_and _ _ h0 (by omega) (by omega) (by omega)]
  have e : n.toNat &&& (4294967295 : Int).toNat = n.toNat % 2 ^ 32 := Nat.and_two_pow_sub_one_eq_mod _ 32
  rw [e]; omega
theorem or_join {A B : Int} {s : Nat} {h : Int} (hA : A = h * 2 ^ s) (h0 : 0 ≤ h) (hA1 : A ≤ 18446744073709551615) (B0 : 0 ≤ B) (B1 : B < 2 ^ s) (hs : s ≤ 63) : bits .or .u64 A B = A + B := by
  have hp : (2 : Int) ^ s = ((2 ^ s : Nat) : Int) := by simp
  have hA0 : 0 ≤ A := by rw [hA, hp]; exact Int.mul_nonneg h0 (by omega)
  have hp2 : 2 ^ s ≤ 2 ^ 63 := Nat.pow_le_pow_right (by omega) hs
  rw [u64_or _ _ hA0 (by omega) B0 (by rw [hp] at B1; omega)]
  have e : A.toNat = 2 ^ s * h.toNat := by
    rw [hA, hp, Int.toNat_mul h0 (by omega), Int.toNat_natCast, Nat.mul_comm]
  rw [e, Nat.mul_comm, ← Nat.shiftLeft_eq, ← Nat.shiftLeft_add_eq_or_of_lt (by rw [hp] at B1; omega), Nat.shiftLeft_eq, Nat.mul_comm, ← e]
  omega

/-- all that Div64 reckons with, the numbers moved up -/
structure DSet (hi lo y : Int) (s : Nat) (Y a b A H L u1 u0 : Int) : Prop where
  eY : IntKind.u64.wrap (y * 2 ^ s) = Y
  ea : Y / 4294967296 = a
  eb : bits .and .u64 Y 4294967295 = b
  eA : IntKind.u64.wrap (hi * 2 ^ s) = A
  eH : bits .or .u64 A (lo / 2 ^ (64 - s)) = H
  eL : IntKind.u64.wrap (lo * 2 ^ s) = L
  e1 : L / 4294967296 = u1
  e0 : bits .and .u64 L 4294967295 = u0
  q : QIn Y a b H u1
  Y1 : Y ≤ 18446744073709551615
  H0 : 0 ≤ H
  H1 : H ≤ 18446744073709551615
  A0 : 0 ≤ A
  A1 : A ≤ 18446744073709551615
  L0 : 0 ≤ L
  L1 : L ≤ 18446744073709551615
  v0 : 0 ≤ u0
  v1 : u0 < 4294967296
  yP : Y = y * 2 ^ s
  P1 : (1 : Int) ≤ 2 ^ s
  N : (hi * 18446744073709551616 + lo) * 2 ^ s = H * 18446744073709551616 + (u1 * 4294967296 + u0)

theorem dset {hi lo y : Int} {s : Nat} (h0 : 0 ≤ hi) (h1 : hi < y) (l0 : 0 ≤ lo) (l1 : lo ≤ 18446744073709551615) (hs : s ≤ 63)
    (y0 : 9223372036854775808 ≤ y.toNat * 2 ^ s) (y1 : y.toNat * 2 ^ s < 18446744073709551616) :
    ∃ Y a b A H L u1 u0, DSet hi lo y s Y a b A H L u1 u0 := by
  have hp : (2 : Int) ^ s = ((2 ^ s : Nat) : Int) := by simp
  have hP1 : (1 : Int) ≤ 2 ^ s := by rw [hp]; have := Nat.two_pow_pos s; omega
  have hPR : (2 : Int) ^ s * 2 ^ (64 - s) = 18446744073709551616 := by
    rw [← Int.pow_add, show s + (64 - s) = 64 by omega]; rfl
  have hY : ((y.toNat * 2 ^ s : Nat) : Int) = y * 2 ^ s := by rw [Int.natCast_mul, hp]; congr 1; omega
  obtain ⟨f1, f2, f3, f4, f5⟩ := shift_facts hP1 hPR h0 h1 l0 (by omega)
  have hwY : IntKind.u64.wrap (y * 2 ^ s) = y * 2 ^ s := u64w (by omega) (by omega)
  have hwA : IntKind.u64.wrap (hi * 2 ^ s) = hi * 2 ^ s := u64w (by omega) (by omega)
  have hwL : IntKind.u64.wrap (lo * 2 ^ s) = lo * 2 ^ s % 18446744073709551616 := IntKind.wrap_u64 _
  have hor := or_join (A := hi * 2 ^ s) (B := lo / 2 ^ (64 - s)) rfl h0 (by omega) f2 f3 hs
  have hYb : bits .and .u64 (y * 2 ^ s) 4294967295 = y * 2 ^ s % 4294967296 := and32 (by omega) (by omega)
  have hL0 : bits .and .u64 (lo * 2 ^ s % 18446744073709551616) 4294967295 = lo * 2 ^ s % 18446744073709551616 % 4294967296 := and32 (by omega) (by omega)
  exact ⟨_, _, _, _, _, _, _, _, { eY := hwY, ea := rfl, eb := hYb, eA := hwA, eH := hor, eL := hwL, e1 := rfl, e0 := hL0
                                   q := ⟨by omega, by omega, by omega, by omega, by omega, by omega, f4, by omega, by omega⟩
                                   Y1 := by omega, H0 := by omega, H1 := by omega, A0 := f5, A1 := by omega, L0 := by omega, L1 := by omega, v0 := by omega, v1 := by omega
                                   yP := rfl, P1 := hP1, N := by rw [f1]; omega }⟩

/-- the rest behind a digit, as the code reckons it: all modulo 2^64 -/
theorem rest_wrap {Y a b u u1 : Int} (h : QIn Y a b u u1) (hY : Y ≤ 18446744073709551615) (Q : Int) (hQ : Q = (u * 4294967296 + u1) / Y) :
    IntKind.u64.wrap (IntKind.u64.wrap (IntKind.u64.wrap (u * 4294967296) + u1) - IntKind.u64.wrap (Q * Y)) = u * 4294967296 + u1 - Q * Y := by
  have hr := h.rest
  rw [← hQ] at hr
  simp only [IntKind.wrap_u64]
  generalize Q * Y = Z at *
  omega
theorem div_mul_le {H a q : Int} (hH0 : 0 ≤ H) (hH : H ≤ 18446744073709551615) (ha : 0 < a) (hq : H / a = q) : IntKind.u64.wrap (q * a) = q * a ∧ 0 ≤ q * a ∧ q * a ≤ H ∧ 0 ≤ q ∧ q ≤ H := by
  obtain ⟨q', r, e, p, r0, r1⟩ := fl H a ha
  rw [e] at hq; subst hq
  have hm : q' * a = a * q' := Int.mul_comm _ _
  have h0 : 0 ≤ q' := by rw [← e]; exact Int.ediv_nonneg hH0 (by omega)
  have h1 : 0 ≤ q' * a := Int.mul_nonneg h0 (by omega)
  have h2 : q' * 1 ≤ q' * a := Int.mul_le_mul_of_nonneg_left (by omega) h0
  exact ⟨u64w h1 (by omega), h1, by omega, h0, by omega⟩
end Go.Proofs.YtbidlkmagbjllaaGreatDoor.Ck
