/- S1 in one text. -/
import Derived.Test.YtmecnlgndaeidaaGreatDoorP20
import Derived.Lib.TrailingZeros
import Derived.Lib.ItoaNum

namespace Go.Proofs.YtmecnlgndaeidaaGreatDoor.Bg
open Go Go.RowKit

/-- 2 goes t times into n -/
def TzIs (n t : Nat) : Prop := ∃ m, n = 2 ^ t * (2 * m + 1)
theorem TzIs.odd {n t : Nat} (h : TzIs n t) : n / 2 ^ t % 2 = 1 := by
  obtain ⟨m, rfl⟩ := h
  rw [Nat.mul_div_cancel_left _ (Nat.two_pow_pos t)]
  omega
/-- a number has L bits -/
def BitsIs (n L : Nat) : Prop := 1 ≤ L ∧ 2 ^ (L - 1) ≤ n ∧ n < 2 ^ L
theorem bits_words {ws : List Nat} (hw : W32 ws) {k x : Nat} (hk : ws.length = k + 1) (hx : ws.getD k 0 = x) (hx0 : 0 < x) : BitsIs (val ws) (32 * k + Lib.bitLen x) := by
  have hxb : x < 4294967296 := by rw [← hx]; exact hw.get k
  have hb : Lib.bitLen x = Lib.bitLenAux 64 x := rfl
  obtain ⟨a1, a2, a3⟩ := Lib.bitLenAux_bounds 64 x (by have : (2 : Nat) ^ 64 = 18446744073709551616 := by decide
                                                       omega) (by omega)
  rw [hb]
  generalize Lib.bitLenAux 64 x = L at *
  have h1 := val_take_drop ws (k := k) (by omega)
  have h2 := val_take_lt hw k
  have h3 := val_drop_one ws k
  rw [hx, List.drop_of_length_le (by omega : ws.length ≤ k + 1), val, Nat.mul_zero, Nat.add_zero] at h3
  rw [h3] at h1
  have e : (4294967296 : Nat) ^ k = 2 ^ (32 * k) := by rw [Nat.pow_mul]
  rw [e] at h1 h2
  refine ⟨by omega, ?_, ?_⟩
  · rw [show 32 * k + L - 1 = 32 * k + (L - 1) by omega, Nat.pow_add]
    have := Nat.mul_le_mul_left (2 ^ (32 * k)) a2
    omega
  · rw [Nat.pow_add]
    have : 2 ^ (32 * k) * (x + 1) ≤ 2 ^ (32 * k) * 2 ^ L := Nat.mul_le_mul_left _ a3
    rw [Nat.mul_add, Nat.mul_one] at this
    omega
end Go.Proofs.YtmecnlgndaeidaaGreatDoor.Bg
