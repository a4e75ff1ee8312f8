/- X1 in one text. -/
import Ieee.Arith
import GoSem.Core.Float
import Derived.Handy

namespace Go.Proofs.YthnmfcjodobkbaaGreatDoor.Nx
open Go
theorem read_cases (f : Nat) : Ieee.double.read f =
    if f % 9223372036854775808 < 4503599627370496 then .number (f / 9223372036854775808 % 2 == 1) (f % 9223372036854775808) (-1074)
    else if f % 9223372036854775808 < 9218868437227405312 then .number (f / 9223372036854775808 % 2 == 1) (4503599627370496 + f % 9223372036854775808 % 4503599627370496) (-1074 + ((f % 9223372036854775808 / 4503599627370496 - 1 : Nat) : Int))
    else if f % 9223372036854775808 = 9218868437227405312 then .infinity (f / 9223372036854775808 % 2 == 1) else .nan (f / 9223372036854775808 % 2 == 1) (f % 9223372036854775808 - 9218868437227405312) := by
  have e1 : Ieee.double.signWeight = 9223372036854775808 := by decide
  have e2 : Ieee.double.binade = 4503599627370496 := by decide
  have e3 : Ieee.double.infRung = 9218868437227405312 := by decide
  have e4 : Ieee.double.leastPlace = -1074 := by decide
  unfold Ieee.Format.read
  simp only [e1, e2, e3, e4]
theorem cmp_le {a b : Int} (h : a ≤ b) : (some (compare a b) == some Ordering.gt) = false := by
  have h2 : compare a b ≠ .gt := by
    intro e
    have h3 := Int.compare_eq_gt.1 e
    omega
  cases q : compare a b
  · rfl
  · rfl
  · exact absurd q h2
theorem signed_le (s : Bool) (m k n : Nat) (h : m ≤ n * 2 ^ k) : Ieee.signed s m 0 ≤ Ieee.signed false n k := by
  unfold Ieee.signed
  rw [Nat.shiftLeft_eq, Nat.shiftLeft_eq, Nat.pow_zero, Nat.mul_one]
  cases s
  · simp only [Bool.false_eq_true, if_false]; exact Int.ofNat_le.2 h
  · simp only [if_true, Bool.false_eq_true, if_false]; omega
theorem num_le (s : Bool) (m : Nat) (i : Int) (hm : m ≤ 9007199254740991) (hi : i ≤ 971) : ((Ieee.Datum.number s m i).order (.number false 9007199254740991 971) == some Ordering.gt) = false := by
  have hb : min i 971 = i := by omega
  simp only [Ieee.Datum.order, hb]
  rw [Int.sub_self]
  apply cmp_le
  apply signed_le
  exact Nat.le_trans hm (Nat.le_mul_of_pos_right _ (Nat.pow_pos (by omega)))
theorem gt_max (f : Nat) (hf : f < 18446744073709551616) : (FloatKind.f64.format.order f 9218868437227405311 == some Ordering.gt) = decide (f = 9218868437227405312) := by
  show (Ieee.double.order f 9218868437227405311 == some Ordering.gt) = _
  have em : Ieee.double.read 9218868437227405311 = .number false 9007199254740991 971 := by rw [read_cases]; rfl
  unfold Ieee.Format.order
  rw [em, read_cases]
  split
  · rename_i h
    rw [num_le _ _ _ (by omega) (by omega)]
    symm; apply decide_eq_false; omega
  · split
    · rename_i h h2
      rw [num_le _ _ _ (by omega) (by omega)]
      symm; apply decide_eq_false; omega
    · split
      · rename_i h h2 h3
        simp only [Ieee.Datum.order]
        by_cases c : f < 9223372036854775808
        · have : f / 9223372036854775808 % 2 = 0 := by omega
          rw [this]
          have e : f = 9218868437227405312 := by omega
          rw [e]; rfl
        · have : f / 9223372036854775808 % 2 = 1 := by omega
          rw [this]
          have e : ¬ f = 9218868437227405312 := by omega
          simp [e]
      · rename_i h h2 h3
        simp only [Ieee.Datum.order]
        symm; simp; omega
theorem cmp_eq {a b : Int} : (some (compare a b) == some Ordering.eq) = decide (a = b) := by
  by_cases h : a = b
  · subst h; simp
  · have h2 : compare a b ≠ .eq := fun e => h (Int.compare_eq_eq.1 e)
    rw [decide_eq_false h]
    cases q : compare a b
    · rfl
    · exact absurd q h2
    · rfl
theorem signed_zero (s : Bool) (m k : Nat) : Ieee.signed s m k = 0 ↔ m = 0 := by
  unfold Ieee.signed
  rw [Nat.shiftLeft_eq]
  have hp : 0 < 2 ^ k := Nat.pow_pos (by omega)
  constructor
  · intro h
    have : m * 2 ^ k = 0 := by
      cases s
      · simp only [Bool.false_eq_true, if_false] at h; omega
      · simp only [if_true] at h; omega
    rcases Nat.mul_eq_zero.1 this with q | q
    · exact q
    · omega
  · intro h
    subst h
    cases s <;> simp
theorem num_zero (s : Bool) (m : Nat) (i : Int) : ((Ieee.Datum.number s m i).order (.number false 0 (-1074)) == some Ordering.eq) = decide (m = 0) := by
  simp only [Ieee.Datum.order]
  rw [cmp_eq]
  have e : Ieee.signed false 0 (-1074 - min i (-1074)).toNat = 0 := (signed_zero _ _ _).2 rfl
  rw [e]
  exact decide_eq_decide.2 (signed_zero _ _ _)
theorem eq_zero (f : Nat) : (FloatKind.f64.format.order f 0 == some Ordering.eq) = decide (f % 9223372036854775808 = 0) := by
  show (Ieee.double.order f 0 == some Ordering.eq) = _
  have em : Ieee.double.read 0 = .number false 0 (-1074) := by rw [read_cases]; rfl
  unfold Ieee.Format.order
  rw [em, read_cases]
  split
  · rw [num_zero]
  · split
    · rw [num_zero]; apply decide_eq_decide.2; omega
    · split
      · simp only [Ieee.Datum.order]
        rename_i h h2 h3
        have : ¬ f % 9223372036854775808 = 0 := by omega
        rw [decide_eq_false this]
        cases (f / 9223372036854775808 % 2 == 1) <;> rfl
      · rename_i h h2 h3
        have : ¬ f % 9223372036854775808 = 0 := by omega
        rw [decide_eq_false this]
        rfl
end Go.Proofs.YthnmfcjodobkbaaGreatDoor.Nx
