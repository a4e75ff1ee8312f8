/- X3 in one text. -/
import Derived.Lib.TrailingZeros
import Derived.Lib.BitFns
import Derived.Handy

namespace Go.Proofs.YtbidlkmagbjllaaGreatDoor.Nx
open Go
theorem bit_spec : ∀ (k x : Nat), 0 < x → x < 2 ^ k → k ≤ 64 → 0 < Lib.bitLen x ∧ 2 ^ (Lib.bitLen x - 1) ≤ x ∧ x < 2 ^ Lib.bitLen x := by
  intro k
  induction k with
  | zero => intro x h0 h _; simp at h; omega
  | succ k ih =>
    intro x h0 h hk
    have hx : x < 2 ^ 64 := Nat.lt_of_lt_of_le h (Nat.pow_le_pow_right (by omega) hk)
    rw [Lib.bitLen_half x (by omega) hx]
    rcases Nat.eq_zero_or_pos (x / 2) with q | q
    · have hx1 : x = 1 := by omega
      subst hx1
      decide
    · obtain ⟨a, b, c⟩ := ih (x / 2) q (by rw [Nat.pow_succ] at h; omega) (by omega)
      have e1 : 2 ^ (1 + Lib.bitLen (x / 2)) = 2 * 2 ^ Lib.bitLen (x / 2) := by rw [Nat.pow_add]
      have e2 : 2 ^ (1 + Lib.bitLen (x / 2) - 1) = 2 * 2 ^ (Lib.bitLen (x / 2) - 1) := by
        rw [show 1 + Lib.bitLen (x / 2) - 1 = (Lib.bitLen (x / 2) - 1) + 1 by omega, Nat.pow_succ]; omega
      rw [e1, e2]
      omega
/-- an odd mantissa of n bits: what stands behind its first bit, as a fraction of 52 bits -/
structure HexM (m n r : Nat) : Prop where
  n1 : 1 ≤ n
  n53 : n ≤ 53
  lo : 2 ^ (n - 1) ≤ m
  up : m < 2 ^ n
  rl : r < 4503599627370496
  ref : m * 2 ^ (53 - n) = 4503599627370496 + r
  big : m * 2 ^ (65 - n) % 18446744073709551616 = r * 4096
  zero : r = 0 ↔ n = 1
theorem hexm (m : Nat) (h0 : m % 2 = 1) (h : m < 9007199254740992) : HexM m (Lib.bitLen m) (m * 2 ^ (53 - Lib.bitLen m) - 4503599627370496) := by
  obtain ⟨a, b, c⟩ := bit_spec 53 m (by omega) h (by omega)
  have hn : Lib.bitLen m ≤ 53 := Lib.bitLen_le m 53 (by omega) h
  generalize Lib.bitLen m = n at *
  have e1 : 2 ^ (n - 1) * 2 ^ (53 - n) = 4503599627370496 := by
    rw [← Nat.pow_add, show n - 1 + (53 - n) = 52 by omega]
  have e2 : 2 ^ n * 2 ^ (53 - n) = 9007199254740992 := by
    rw [← Nat.pow_add, show n + (53 - n) = 53 by omega]
  have l1 : 4503599627370496 ≤ m * 2 ^ (53 - n) := by rw [← e1]; exact Nat.mul_le_mul_right _ b
  have l2 : m * 2 ^ (53 - n) < 9007199254740992 := by rw [← e2]; exact Nat.mul_lt_mul_of_pos_right c (Nat.pow_pos (by omega))
  have e3 : m * 2 ^ (65 - n) = m * 2 ^ (53 - n) * 4096 := by
    rw [show 65 - n = 53 - n + 12 by omega, Nat.pow_add, ← Nat.mul_assoc]
  refine ⟨a, hn, b, c, by omega, by omega, by rw [e3]; omega, ?_⟩
  constructor
  · intro hr
    have hm : m * 2 ^ (53 - n) = 2 ^ (n - 1) * 2 ^ (53 - n) := by omega
    have hm2 : m = 2 ^ (n - 1) := Nat.eq_of_mul_eq_mul_right (Nat.pow_pos (by omega)) hm
    rcases Nat.eq_zero_or_pos (n - 1) with q | q
    · omega
    · exfalso
      have : 2 ^ (n - 1) = 2 * 2 ^ (n - 1 - 1) := by
        rw [show n - 1 = (n - 1 - 1) + 1 by omega, Nat.pow_succ]; simp; omega
      omega
  · intro hn1
    subst hn1
    have : m = 1 := by omega
    subst this
    decide
/-- a number above 0: an odd one, times a power of 2 -/
theorem odd_part (M : Nat) (h0 : 0 < M) (h : M < 2 ^ 64) : ∃ m t, M = m * 2 ^ t ∧ m % 2 = 1 ∧ Lib.ctz 64 M = t ∧ t < 64 := by
  obtain ⟨m, hm, hk⟩ := Lib.ctzFrom_spec 64 M h0 h
  refine ⟨2 * m + 1, Lib.ctzFrom 64 M, by rw [Nat.mul_comm]; exact hm, by omega, ?_, hk⟩
  unfold Lib.ctz
  rw [if_neg (by omega)]
end Go.Proofs.YtbidlkmagbjllaaGreatDoor.Nx
