/- S1 in one text. -/
import Derived.Test.YtbidlkmagbjllaaGreatDoorP20
import Derived.Lib.TrailingZeros
import Derived.Lib.ItoaNum

namespace Go.Proofs.YtbidlkmagbjllaaGreatDoor.Bg
open Go Go.RowKit

/-- 2 goes t times into n -/
def TzIs (n t : Nat) : Prop := ∃ m, n = 2 ^ t * (2 * m + 1)
theorem take_zero {ws : List Nat} : ∀ {i : Nat}, (∀ k, k < i → ws.getD k 0 = 0) → val (ws.take i) = 0
  | 0, _ => rfl
  | i + 1, hz => by rw [val_take_succ', take_zero (i := i) (fun k hk => hz k (by omega)), hz i (by omega)]; rfl
theorem tz_words {ws : List Nat} {i x c : Nat} (hz : ∀ k, k < i → ws.getD k 0 = 0) (hx : ws.getD i 0 = x) (hx0 : x ≠ 0) (hc : TzIs x c) (hc2 : c < 32) : TzIs (val ws) (32 * i + c) := by
  have h1 := take_zero hz
  have hil : i < ws.length := by
    refine Nat.not_le.1 fun hle => ?_
    rw [List.getD_eq_getElem?_getD, List.getElem?_eq_none hle] at hx
    exact hx0 hx.symm
  have h2 := val_take_drop ws (k := i) (by omega)
  rw [h1, Nat.zero_add, val_drop_one ws i, hx] at h2
  obtain ⟨m, hm⟩ := hc
  refine ⟨m + 2 ^ (31 - c) * val (ws.drop (i + 1)), ?_⟩
  rw [h2, Nat.pow_add, Nat.pow_mul, show (2 : Nat) ^ 32 = 4294967296 by decide, Nat.mul_assoc]
  congr 1
  have e : (4294967296 : Nat) = 2 ^ c * (2 * 2 ^ (31 - c)) := by
    rw [← Nat.pow_succ', ← Nat.pow_add, show c + (31 - c + 1) = 32 by omega]
  conv => lhs; rw [e, hm]
  rw [Nat.mul_assoc, ← Nat.mul_add]
  congr 1
  rw [Nat.mul_add, Nat.mul_assoc]
  omega
theorem ctz_is {x : Nat} (h0 : x ≠ 0) (h1 : x < 4294967296) : TzIs x (Lib.ctz 32 x) ∧ Lib.ctz 32 x < 32 := by
  unfold Lib.ctz
  rw [if_neg h0]
  obtain ⟨m, h2, h3⟩ := Lib.ctzFrom_spec 32 x (by omega) h1
  exact ⟨⟨m, h2⟩, h3⟩
theorem TzIs.dvd {n t : Nat} (h : TzIs n t) {k : Nat} (hk : k ≤ t) : 2 ^ k ∣ n := by
  obtain ⟨m, rfl⟩ := h
  exact Nat.dvd_trans (Nat.pow_dvd_pow 2 hk) (Nat.dvd_mul_right _ _)
theorem TzIs.odd {n t : Nat} (h : TzIs n t) : n / 2 ^ t % 2 = 1 := by
  obtain ⟨m, rfl⟩ := h
  rw [Nat.mul_div_cancel_left _ (Nat.two_pow_pos t)]
  omega
/-- a number has L bits -/
def BitsIs (n L : Nat) : Prop := 1 ≤ L ∧ 2 ^ (L - 1) ≤ n ∧ n < 2 ^ L
theorem bits_words {ws : List Nat} (hw : W32 ws) {k x : Nat} (hk : ws.length = k + 1) (hx : ws.getD k 0 = x) (hx0 : 0 < x) : BitsIs (val ws) (32 * k + Lib.bitLen x) := by
  have hxb : x < 4294967296 := by rw [← hx]; exact hw.get k
  have hb : Lib.bitLen x = Lib.bitLenAux 64 x := rfl
  obtain ⟨a1, a2, a3⟩ := Lib.bitLenAux_bounds 64 x (by have : (2 : Nat) ^ 64 = 18446744073709551616 := by decide
                                                       omega) (by omega)
  rw [hb]
  generalize Lib.bitLenAux 64 x = L at *
  have h1 := val_take_drop ws (k := k) (by omega)
  have h2 := val_take_lt hw k
  have h3 := val_drop_one ws k
  rw [hx, List.drop_of_length_le (by omega : ws.length ≤ k + 1), val, Nat.mul_zero, Nat.add_zero] at h3
  rw [h3] at h1
  have e : (4294967296 : Nat) ^ k = 2 ^ (32 * k) := by rw [Nat.pow_mul]
  rw [e] at h1 h2
  refine ⟨by omega, ?_, ?_⟩
  · rw [show 32 * k + L - 1 = 32 * k + (L - 1) by omega, Nat.pow_add]
    have := Nat.mul_le_mul_left (2 ^ (32 * k)) a2
    omega
  · rw [Nat.pow_add]
    have : 2 ^ (32 * k) * (x + 1) ≤ 2 ^ (32 * k) * 2 ^ L := Nat.mul_le_mul_left _ a3
    rw [Nat.mul_add, Nat.mul_one] at this
    omega
/-- where 2 goes in as often as there are bits but one the number is a power of 2 -/
theorem pow_of_bits {n t L : Nat} (ht : TzIs n t) (hL : BitsIs n L) (h : t = L - 1) : n = 2 ^ t := by
  obtain ⟨m, hm⟩ := ht
  obtain ⟨l1, l2, l3⟩ := hL
  rw [show L = t + 1 by omega, Nat.pow_succ, hm] at l3
  have := Nat.lt_of_mul_lt_mul_left l3
  have : m = 0 := by omega
  subst this
  omega
/-- both numbers less the twos that both hold; the second one a power of 2: no divisor is left -/
theorem coprime_pow {a b ta tb n t : Nat} (ha : TzIs a ta) (hb : TzIs b tb) (hn : n = min ta tb) (hp : b / 2 ^ n = 2 ^ t) : Nat.gcd (a / 2 ^ n) (b / 2 ^ n) = 1 := by
  rw [hp]
  rcases Nat.eq_zero_or_pos t with h0 | h0
  · subst h0; simp
  · have hne : n = ta := by
      rcases Nat.lt_or_ge ta tb with h1 | h1
      · omega
      · have e : n = tb := by omega
        rw [e] at hp
        have := hb.odd
        rw [hp, show t = (t - 1) + 1 by omega, Nat.pow_succ] at this
        omega
    have ho := ha.odd
    rw [← hne] at ho
    have : Nat.Coprime (a / 2 ^ n) 2 := by
      rw [Nat.coprime_comm]
      show Nat.gcd 2 (a / 2 ^ n) = 1
      rw [Nat.gcd_rec, ho, Nat.gcd_one_left]
    exact Nat.Coprime.pow_right t this
/-- lowest terms -/
theorem red_shift {a b n : Nat} (ha : 2 ^ n ∣ a) (hb : 2 ^ n ∣ b) : Nat.gcd a b = 2 ^ n * Nat.gcd (a / 2 ^ n) (b / 2 ^ n) := by
  obtain ⟨x, rfl⟩ := ha
  obtain ⟨y, rfl⟩ := hb
  have hp := Nat.two_pow_pos n
  rw [Nat.mul_div_cancel_left _ hp, Nat.mul_div_cancel_left _ hp, Nat.gcd_mul_left]
theorem red_div {a b n g : Nat} (ha : 2 ^ n ∣ a) (hb : 2 ^ n ∣ b) (hg : Nat.gcd (a / 2 ^ n) (b / 2 ^ n) = g) : a / 2 ^ n / g = a / Nat.gcd a b ∧ b / 2 ^ n / g = b / Nat.gcd a b := by
  rw [Nat.div_div_eq_div_mul, Nat.div_div_eq_div_mul, ← hg, ← red_shift ha hb]
  exact ⟨rfl, rfl⟩
end Go.Proofs.YtbidlkmagbjllaaGreatDoor.Bg
