/- X2 in one text. -/
import Derived.Lib.TrailingZeros
import Derived.Handy

namespace Go.Proofs.YthnmfcjodobkbaaGreatDoor.Nx
open Go
/-- the sign of a hexadecimal digit -/
def hxd (n : Nat) : UInt8 := if n < 10 then UInt8.ofNat (48 + n) else UInt8.ofNat (87 + n)
/-- the hexadecimal digits of a fraction of 52 bits, noughts behind left out -/
def digs : Nat → Nat → List UInt8
  | 0, _ => []
  | k + 1, r => if r = 0 then [] else hxd (r / 281474976710656) :: digs k (r % 281474976710656 * 16)
def FracOk (k r : Nat) : Prop := r < 4503599627370496 ∧ 2 ^ (52 - 4 * k) ∣ r ∧ k ≤ 13
theorem frac_end {r : Nat} (h : FracOk 0 r) : r = 0 := by
  obtain ⟨h1, ⟨c, h2⟩, -⟩ := h
  rcases Nat.eq_zero_or_pos c with q | q
  · subst q; simpa using h2
  · exfalso
    have : 2 ^ (52 - 4 * 0) * 1 ≤ 2 ^ (52 - 4 * 0) * c := Nat.mul_le_mul_left _ q
    omega
theorem frac_step {k r : Nat} (h : FracOk (k + 1) r) : FracOk k (r % 281474976710656 * 16) := by
  obtain ⟨h1, ⟨c, h2⟩, h3⟩ := h
  refine ⟨by have := Nat.mod_lt r (show 0 < 281474976710656 by omega); omega, ?_, by omega⟩
  have e : 2 ^ (52 - 4 * k) = 2 ^ (52 - 4 * (k + 1)) * 16 := by
    rw [show 52 - 4 * k = 52 - 4 * (k + 1) + 4 by omega, Nat.pow_add]
  rw [e]
  apply Nat.mul_dvd_mul_right
  have hd : 2 ^ (52 - 4 * (k + 1)) ∣ 281474976710656 := by
    rw [show (281474976710656 : Nat) = 2 ^ 48 by decide]
    exact Nat.pow_dvd_pow 2 (by omega)
  exact (Nat.dvd_mod_iff hd).2 ⟨c, h2⟩
theorem digs_zero (k : Nat) : digs k 0 = [] := by cases k <;> simp [digs]
theorem digs_cons {k r : Nat} (h : r ≠ 0) : digs (k + 1) r = hxd (r / 281474976710656) :: digs k (r % 281474976710656 * 16) := by simp [digs, h]
theorem frac_start {r : Nat} (h : r < 4503599627370496) : FracOk 13 r := ⟨h, ⟨r, by simp⟩, by omega⟩
end Go.Proofs.YthnmfcjodobkbaaGreatDoor.Nx
