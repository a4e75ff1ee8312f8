/- Plain laws of doubles as bits: which are NaNs, the one NaN, the place in the total order. -/
import Derived.Test.YtebacmmfjadalaaK2
import Derived.Laws.BitsAllLaws
import Ieee.Arith
import GoSem.Core.Float
namespace Go.Proofs.Ytebacmmfjadalaa
open Go Go.RowKit

/-- the bits of a NaN -/
def nanN (f : Nat) : Bool := decide (9218868437227405312 < f % 9223372036854775808)
/-- the bits, of any NaN those of the one -/
def cnN (f : Nat) : Nat := if nanN f = true then 9221120237041090561 else f
/-- the place in the total order -/
def keyN (f : Nat) : Int := if nanN f = true then 9218868437227405313 else if 9223372036854775808 ≤ f then -1 - ((f : Int) - 9223372036854775808) else f

theorem cmp_self (d : Ieee.Datum) : (d.order d == some Ordering.eq) = !d.isNaN := by
  cases d with
  | number s m i => simp [Ieee.Datum.order, Ieee.Datum.isNaN]
  | infinity s => simp [Ieee.Datum.order, Ieee.Datum.isNaN]
  | nan s f => simp [Ieee.Datum.order, Ieee.Datum.isNaN]
theorem read_nan (f : Nat) : (Ieee.double.read f).isNaN = nanN f := by
  have e1 : Ieee.double.signWeight = 9223372036854775808 := by decide
  have e2 : Ieee.double.binade = 4503599627370496 := by decide
  have e3 : Ieee.double.infRung = 9218868437227405312 := by decide
  unfold Ieee.Format.read nanN
  simp only [e1, e2, e3]
  split
  · rename_i h
    simp [Ieee.Datum.isNaN]; omega
  · split
    · rename_i h
      simp [Ieee.Datum.isNaN]; omega
    · split
      · rename_i h
        simp [Ieee.Datum.isNaN]; omega
      · simp [Ieee.Datum.isNaN]; omega
theorem order_self (f : Nat) : (Ieee.double.order f f == some Ordering.eq) = !nanN f := by
  rw [Ieee.Format.order, cmp_self, read_nan]

theorem neq_self (f : Nat) : (FloatKind.f64.format.order f f != some Ordering.eq) = nanN f := by
  have h := order_self f
  show (!(Ieee.double.order f f == some Ordering.eq)) = nanN f
  rw [h, Bool.not_not]
theorem andnot_top {f : Nat} (h : f < 18446744073709551616) : bits .andNot .u64 (f : Int) 9223372036854775808 = ((f % 9223372036854775808 : Nat) : Int) := by
  rw [u64_andNot _ _ (by omega) (by omega) (by omega) (by omega)]
  have e : f % 9223372036854775808 = f &&& (18446744073709551615 - (9223372036854775808 : Int).toNat) := (Nat.and_two_pow_sub_one_eq_mod f 63).symm
  rw [e, Int.toNat_natCast]
theorem nan_eq {f : Nat} (h : f < 18446744073709551616) : nanV (f : Int) = nanN f := by
  unfold nanV nanN
  rw [andnot_top h]
  apply decide_eq_decide.2
  omega
theorem cnN_lt {f : Nat} (h : f < 18446744073709551616) : cnN f < 18446744073709551616 := by unfold cnN; split <;> omega
theorem canon_eq {f : Nat} (h : f < 18446744073709551616) : canonV (f : Int) = (cnN f : Int) := by
  unfold canonV cnN
  rw [nan_eq h]
  split <;> rfl
theorem cnN_nan (f : Nat) : nanN (cnN f) = nanN f := by
  unfold cnN
  split
  · rename_i h
    rw [h]
    decide
  · rfl
theorem and_top {f : Nat} (h : f < 18446744073709551616) : (bits .and .u64 (f : Int) 9223372036854775808 != 0) = decide (9223372036854775808 ≤ f) := by
  rw [u64_and _ _ (by omega) (by omega) (by omega) (by omega), Int.toNat_natCast]
  have e : f &&& (9223372036854775808 : Int).toNat = f / 9223372036854775808 % 2 * 9223372036854775808 := by
    apply Nat.eq_of_testBit_eq
    intro i
    have e2 : (9223372036854775808 : Int).toNat = 2 ^ 63 := by decide
    rw [e2, Nat.testBit_and, Nat.testBit_two_pow, show (9223372036854775808 : Nat) = 2 ^ 63 by decide, Nat.testBit_mul_two_pow]
    by_cases hi : i = 63
    · subst hi
      simp [Nat.testBit_eq_decide_div_mod_eq]
    · have h63 : ¬ 63 = i := fun e => hi e.symm
      simp only [h63, decide_false, Bool.and_false]
      by_cases hl : 63 ≤ i
      · have : (f / 2 ^ 63 % 2).testBit (i - 63) = false := by
          apply Nat.testBit_lt_two_pow
          have := Nat.one_lt_two_pow (n := i - 63) (by omega)
          omega
        simp [this]
      · simp [hl]
  rw [e]
  have h1 : f / 9223372036854775808 % 2 = 0 ∨ f / 9223372036854775808 % 2 = 1 := by omega
  rcases h1 with h1 | h1
  · rw [h1]
    have : ¬ 9223372036854775808 ≤ f := by omega
    simp [this]
  · rw [h1]
    have : 9223372036854775808 ≤ f := by omega
    simp [this]
theorem xor_top {f : Nat} (h : f < 18446744073709551616) (h1 : 9223372036854775808 ≤ f) : bits .xor .u64 (f : Int) 9223372036854775808 = (f : Int) - 9223372036854775808 := by
  rw [u64_xor _ _ (by omega) (by omega) (by omega) (by omega), Int.toNat_natCast]
  have e : f ^^^ (9223372036854775808 : Int).toNat = f - 9223372036854775808 := by
    obtain ⟨g, rfl⟩ : ∃ g, f = g + 9223372036854775808 := ⟨f - 9223372036854775808, by omega⟩
    rw [Nat.add_sub_cancel]
    have e2 : (9223372036854775808 : Int).toNat = 2 ^ 63 := by decide
    apply Nat.eq_of_testBit_eq
    intro i
    rw [e2, Nat.testBit_xor, Nat.testBit_two_pow, show g + 9223372036854775808 = 2 ^ 63 + g by omega]
    by_cases hi : i = 63
    · subst hi
      rw [Nat.testBit_two_pow_add_eq]
      simp
    · have h63 : ¬ 63 = i := fun e => hi e.symm
      simp only [h63, decide_false, Bool.xor_false]
      by_cases hl : 63 ≤ i
      · have h2 : g.testBit i = false := Nat.testBit_lt_two_pow (Nat.lt_of_lt_of_le (by omega : g < 2 ^ 63) (Nat.pow_le_pow_right (by omega) hl))
        rw [h2]
        apply Nat.testBit_lt_two_pow
        have := Nat.pow_le_pow_right (n := 2) (by omega) (by omega : 64 ≤ i)
        omega
      · exact Nat.testBit_two_pow_add_gt (by omega) g
  rw [e]
  omega

/-- what the program's Key reckons -/
def keyP (b : Int) : Int := if nanV b = true then 9218868437227405313 else if (bits .and .u64 b 9223372036854775808 != 0) = true then IntKind.i64.wrap (-1 - IntKind.i64.wrap (bits .xor .u64 b 9223372036854775808)) else IntKind.i64.wrap b
theorem key_eq {f : Nat} (h : f < 18446744073709551616) : keyP (canonV (f : Int)) = keyN f := by
  have hc := cnN_lt h
  rw [canon_eq h]
  unfold keyP keyN
  rw [nan_eq hc, cnN_nan, and_top hc]
  by_cases hn : nanN f = true
  · rw [if_pos hn, if_pos hn]
  · rw [if_neg hn, if_neg hn]
    have e : cnN f = f := by unfold cnN; rw [if_neg hn]
    rw [e]
    by_cases h2 : 9223372036854775808 ≤ f
    · rw [if_pos (by simpa using h2), if_pos h2, xor_top h h2]
      rw [IntWalk.i64_in ((f : Int) - 9223372036854775808) (by omega), IntWalk.i64_in _ (by omega)]
    · rw [if_neg (by simpa using h2), if_neg h2, IntWalk.i64_in _ (by omega)]
theorem key_inj {f g : Nat} (hf : f < 18446744073709551616) (hg : g < 18446744073709551616) (e : keyN f = keyN g) : cnN f = cnN g := by
  unfold keyN nanN at e
  unfold cnN nanN
  simp only [decide_eq_true_eq] at e ⊢
  split at e <;> split at e <;> (try split at e) <;> (try split at e) <;> (try split) <;> (try split) <;> omega
theorem key_cn {f g : Nat} (e : cnN f = cnN g) : keyN f = keyN g := by
  unfold cnN nanN at e
  unfold keyN nanN
  simp only [decide_eq_true_eq] at e ⊢
  split at e <;> split at e <;> (try split) <;> (try split) <;> (try split) <;> (try split) <;> omega
end Go.Proofs.Ytebacmmfjadalaa
