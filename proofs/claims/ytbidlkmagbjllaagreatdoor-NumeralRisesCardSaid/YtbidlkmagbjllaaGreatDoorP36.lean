/- BR1 X1 RZ1 in one text. -/
import Derived.Handy
import Ieee.Arith
import GoSem.Core.Float

namespace Go.Proofs.YtbidlkmagbjllaaGreatDoor.Nb

/-- m is the whole number nearest to A / D, of two as near the even one -/
structure Near (A D m : Nat) : Prop where
  up : 2 * A ≤ (2 * m + 1) * D
  ue : 2 * A = (2 * m + 1) * D → m % 2 = 0
  dn : 2 * m * D ≤ 2 * A + D
  de : 2 * m * D = 2 * A + D → m % 2 = 0
/-- x are the bits (but for the sign, and but for what is too great) of the binary number nearest to a / b -/
def Rnd (S T a b x : Nat) : Prop := ∃ k m, (k = 0 ∨ 2 ^ (S - 1) * (b * 2 ^ k) ≤ a * 2 ^ T) ∧ a * 2 ^ T < 2 ^ S * (b * 2 ^ k) ∧ Near (a * 2 ^ T) (b * 2 ^ k) m ∧ x = k * 2 ^ (S - 1) + m

theorem near_le {A D m S : Nat} (h : Near A D m) (hl : A < 2 ^ S * D) : m ≤ 2 ^ S := by
  rcases Nat.lt_or_ge (2 ^ S) m with q | q
  · exfalso
    have h1 : 2 * (2 ^ S + 1) * D ≤ 2 * m * D := Nat.mul_le_mul_right _ (by omega)
    have h2 := h.dn
    have e : 2 * (2 ^ S + 1) * D = 2 * (2 ^ S * D) + 2 * D := by rw [Nat.mul_add, Nat.add_mul, Nat.mul_assoc]
    omega
  · exact q
theorem near_ge {A D m B : Nat} (h : Near A D m) (hD : 0 < D) (hl : B * D ≤ A) : B ≤ m := by
  rcases Nat.lt_or_ge m B with q | q
  · exfalso
    have h1 : (2 * m + 1) * D < 2 * B * D := Nat.mul_lt_mul_of_pos_right (by omega) hD
    have h2 := h.up
    have e : 2 * B * D = 2 * (B * D) := Nat.mul_assoc _ _ _
    omega
  · exact q
theorem near_mono {A D m A' D' m' c c' : Nat} (h : Near A D m) (h' : Near A' D' m') (hD : 0 < D) (hc : 0 < c') (hle : A * c' ≤ A' * c) (he : D * c' = D' * c) : m ≤ m' := by
  rcases Nat.lt_or_ge m' m with q | q
  · exfalso
    have hDD : 0 < D * c' := Nat.mul_pos hD hc
    -- (2m - 1) D c' ≤ 2 A c' ≤ 2 A' c ≤ (2m' + 1) D' c
    have a1 : 2 * m * D * c' ≤ (2 * A + D) * c' := Nat.mul_le_mul_right _ h.dn
    have a2 : 2 * A' * c ≤ (2 * m' + 1) * D' * c := Nat.mul_le_mul_right _ h'.up
    have e1 : 2 * m * D * c' = 2 * m * (D * c') := Nat.mul_assoc _ _ _
    have e2 : (2 * A + D) * c' = 2 * (A * c') + D * c' := by rw [Nat.add_mul, Nat.mul_assoc]
    have e3 : 2 * A' * c = 2 * (A' * c) := Nat.mul_assoc _ _ _
    have e4 : (2 * m' + 1) * D' * c = (2 * m' + 1) * (D * c') := by rw [Nat.mul_assoc, ← he]
    rw [e1, e2] at a1
    rw [e3, e4] at a2
    have a3 : 2 * m * (D * c') ≤ (2 * m' + 2) * (D * c') := by
      have : (2 * m' + 2) * (D * c') = (2 * m' + 1) * (D * c') + D * c' := by rw [← Nat.succ_mul]
      omega
    have a4 := Nat.le_of_mul_le_mul_right a3 hDD
    obtain rfl : m = m' + 1 := by omega
    have b0 : 2 * (m' + 1) * (D * c') = (2 * m' + 1) * (D * c') + D * c' := by rw [← Nat.succ_mul]; rfl
    have b1 : 2 * A * c' = (2 * m' + 1) * (D * c') := by rw [Nat.mul_assoc]; omega
    have b2 : 2 * A' * c = (2 * m' + 1) * (D * c') := by rw [Nat.mul_assoc]; omega
    have c0 : 0 < c := by
      rcases Nat.eq_zero_or_pos c with z | z
      · rw [z, Nat.mul_zero] at he; omega
      · exact z
    have d1 : 2 * (m' + 1) * D = 2 * A + D := by
      have : 2 * (m' + 1) * D * c' = (2 * A + D) * c' := by rw [Nat.mul_assoc, b0, Nat.add_mul (2 * A), b1]
      exact Nat.eq_of_mul_eq_mul_right hc this
    have d2 : 2 * A' = (2 * m' + 1) * D' := by
      have : 2 * A' * c = (2 * m' + 1) * D' * c := by rw [b2, ← e4]
      exact Nat.eq_of_mul_eq_mul_right c0 this
    have f1 := h.de d1
    have f2 := h'.ue d2
    omega
  · exact q
/-- a greater fraction is rounded to no smaller number -/
theorem rnd_mono {S T a b x a' b' x' : Nat} (h : Rnd S T a b x) (h' : Rnd S T a' b' x') (hS : 0 < S) (hb : 0 < b) (hb' : 0 < b') (hle : a * b' ≤ a' * b) : x ≤ x' := by
  obtain ⟨k, m, hk, hl, hn, rfl⟩ := h
  obtain ⟨k', m', hk', hl', hn', rfl⟩ := h'
  have hD : 0 < b * 2 ^ k := Nat.mul_pos hb (Nat.pow_pos (by omega))
  have hD' : 0 < b' * 2 ^ k' := Nat.mul_pos hb' (Nat.pow_pos (by omega))
  obtain ⟨s, rfl⟩ : ∃ s, S = s + 1 := ⟨S - 1, by omega⟩
  rw [Nat.add_sub_cancel] at *
  have hA : a * 2 ^ T * b' ≤ a' * 2 ^ T * b := by
    rw [Nat.mul_right_comm, Nat.mul_right_comm a']
    exact Nat.mul_le_mul_right _ hle
  rcases Nat.lt_trichotomy k k' with q | q | q
  · have h1 := near_le hn hl
    have h2 : 2 ^ s ≤ m' := near_ge hn' hD' (hk'.resolve_left (by omega))
    rw [Nat.pow_succ] at h1
    have h3 : (k + 1) * 2 ^ s ≤ k' * 2 ^ s := Nat.mul_le_mul_right _ q
    rw [Nat.add_mul, Nat.one_mul] at h3
    omega
  · subst q
    have := near_mono (c := b) (c' := b') hn hn' hD hb' hA (by rw [Nat.mul_right_comm, Nat.mul_comm b b', Nat.mul_right_comm])
    omega
  · exfalso
    have hz : 2 ^ s * (b * 2 ^ k) ≤ a * 2 ^ T := hk.resolve_left (by omega)
    have h1 : 2 ^ s * (b * 2 ^ k) * b' ≤ a' * 2 ^ T * b := Nat.le_trans (Nat.mul_le_mul_right _ hz) hA
    have h2 : a' * 2 ^ T * b < 2 ^ (s + 1) * (b' * 2 ^ k') * b := Nat.mul_lt_mul_of_pos_right hl' hb
    have h3 : 2 ^ s * (b * 2 ^ k) * b' = (b * b') * (2 ^ s * 2 ^ k) := by
      ac_rfl
    have h4 : 2 ^ (s + 1) * (b' * 2 ^ k') * b = (b * b') * (2 ^ (s + 1) * 2 ^ k') := by
      ac_rfl
    rw [h3] at h1
    rw [h4] at h2
    have h5 : 2 ^ s * 2 ^ k < 2 ^ (s + 1) * 2 ^ k' := Nat.lt_of_mul_lt_mul_left (Nat.lt_of_le_of_lt h1 h2)
    rw [← Nat.pow_add, ← Nat.pow_add] at h5
    have h6 : 2 ^ (s + 1 + k') ≤ 2 ^ (s + k) := Nat.pow_le_pow_right (by omega) (by omega)
    omega
/-- equal fractions are rounded to the same number -/
theorem rnd_eq {S T a b x a' b' x' : Nat} (h : Rnd S T a b x) (h' : Rnd S T a' b' x') (hS : 0 < S) (hb : 0 < b) (hb' : 0 < b') (he : a * b' = a' * b) : x = x' :=
  Nat.le_antisymm (rnd_mono h h' hS hb hb' (Nat.le_of_eq he)) (rnd_mono h' h hS hb' hb (Nat.le_of_eq he.symm))

/-- halving what is left, with a note of what was lost -/
theorem near_of {A D q m : Nat} (hD : 0 < D) (hq : q = 2 * A / D) (hm : m = if q % 2 = 1 ∧ (2 * A % D ≠ 0 ∨ q / 2 % 2 = 1) then q / 2 + 1 else q / 2) : Near A D m := by
  have h1 := Nat.div_add_mod (2 * A) D
  have h2 := Nat.mod_lt (2 * A) hD
  rw [← hq] at h1
  obtain ⟨r, hr⟩ : ∃ r, 2 * A % D = r := ⟨_, rfl⟩
  rw [hr] at h1 h2 hm
  obtain ⟨M, h, hh, rfl⟩ : ∃ M h, h < 2 ∧ q = 2 * M + h := ⟨q / 2, q % 2, by omega, by omega⟩
  have e1 : D * (2 * M + h) = 2 * M * D + h * D := by rw [Nat.mul_comm, Nat.add_mul]
  rw [e1] at h1
  have p1 : (2 * M + h) % 2 = h := by omega
  have p2 : (2 * M + h) / 2 = M := by omega
  rw [p1, p2] at hm
  have q0 : (2 * M + 1) * D = 2 * M * D + D := by rw [Nat.add_mul, Nat.one_mul]
  have q1 : 2 * (M + 1) * D = 2 * M * D + 2 * D := by rw [Nat.mul_add, Nat.add_mul]
  have q2 : (2 * (M + 1) + 1) * D = 2 * M * D + 3 * D := by rw [Nat.add_mul, Nat.one_mul, q1]; omega
  rcases (show h = 0 ∨ h = 1 by omega) with rfl | rfl
  · rw [if_neg (by omega)] at hm
    subst hm
    rw [Nat.zero_mul, Nat.add_zero] at h1
    exact ⟨by omega, by omega, by omega, by omega⟩
  · rw [Nat.one_mul] at h1
    by_cases c : r ≠ 0 ∨ M % 2 = 1
    · rw [if_pos ⟨rfl, c⟩] at hm
      subst hm
      exact ⟨by omega, by omega, by omega, by omega⟩
    · rw [if_neg (by omega)] at hm
      subst hm
      exact ⟨by omega, by omega, by omega, by omega⟩
/-- the same ratio, the same quotient, and as well a rest or none -/
theorem same_quo {a b N D : Nat} (hb : 0 < b) (hD : 0 < D) (h : a * D = N * b) : a / b = N / D ∧ (a % b = 0 ↔ N % D = 0) := by
  have h1 : a / b = (a * D) / (b * D) := (Nat.mul_div_mul_right _ _ hD).symm
  have h2 : N / D = (N * b) / (D * b) := (Nat.mul_div_mul_right _ _ hb).symm
  have m1 : (a * D) % (b * D) = (a % b) * D := Nat.mul_mod_mul_right _ _ _
  have m2 : (N * b) % (D * b) = (N % D) * b := Nat.mul_mod_mul_right _ _ _
  refine ⟨by rw [h1, h2, h, Nat.mul_comm b D], ?_⟩
  rw [h, Nat.mul_comm b D, m2] at m1
  constructor
  · intro z
    rw [z, Nat.zero_mul] at m1
    rcases Nat.mul_eq_zero.1 m1 with y | y
    · exact y
    · omega
  · intro z
    rw [z, Nat.zero_mul] at m1
    rcases Nat.mul_eq_zero.1 m1.symm with y | y
    · exact y
    · omega
theorem half_quo {N D q : Nat} (hD : 0 < D) (hq : q = N / D) : N / (2 * D) = q / 2 ∧ (N % (2 * D) ≠ 0 ↔ (N % D ≠ 0 ∨ q % 2 = 1)) := by
  have e : N / (2 * D) = q / 2 := by rw [hq, Nat.mul_comm, Nat.div_div_eq_div_mul]
  refine ⟨e, ?_⟩
  have h1 := Nat.div_add_mod N D
  have h2 := Nat.div_add_mod N (2 * D)
  rw [e] at h2
  rw [← hq] at h1
  have h3 : q = 2 * (q / 2) + q % 2 := by omega
  have h4 : D * q = 2 * D * (q / 2) + D * (q % 2) := by
    conv => lhs; rw [h3]
    rw [Nat.mul_add, Nat.mul_left_comm, Nat.mul_assoc]
  have h5 : N % (2 * D) = D * (q % 2) + N % D := by omega
  rw [h5]
  rcases Nat.mod_two_eq_zero_or_one q with z | z
  · rw [z]; simp
  · rw [z]; simp; omega
end Go.Proofs.YtbidlkmagbjllaaGreatDoor.Nb

namespace Go.Proofs.YtbidlkmagbjllaaGreatDoor.Nx
open Go
theorem read_cases (f : Nat) : Ieee.double.read f =
    if f % 9223372036854775808 < 4503599627370496 then .number (f / 9223372036854775808 % 2 == 1) (f % 9223372036854775808) (-1074)
    else if f % 9223372036854775808 < 9218868437227405312 then .number (f / 9223372036854775808 % 2 == 1) (4503599627370496 + f % 9223372036854775808 % 4503599627370496) (-1074 + ((f % 9223372036854775808 / 4503599627370496 - 1 : Nat) : Int))
    else if f % 9223372036854775808 = 9218868437227405312 then .infinity (f / 9223372036854775808 % 2 == 1) else .nan (f / 9223372036854775808 % 2 == 1) (f % 9223372036854775808 - 9218868437227405312) := by
  have e1 : Ieee.double.signWeight = 9223372036854775808 := by decide
  have e2 : Ieee.double.binade = 4503599627370496 := by decide
  have e3 : Ieee.double.infRung = 9218868437227405312 := by decide
  have e4 : Ieee.double.leastPlace = -1074 := by decide
  unfold Ieee.Format.read
  simp only [e1, e2, e3, e4]
theorem cmp_le {a b : Int} (h : a ≤ b) : (some (compare a b) == some Ordering.gt) = false := by
  have h2 : compare a b ≠ .gt := by
    intro e
    have h3 := Int.compare_eq_gt.1 e
    omega
  cases q : compare a b
  · rfl
  · rfl
  · exact absurd q h2
theorem signed_le (s : Bool) (m k n : Nat) (h : m ≤ n * 2 ^ k) : Ieee.signed s m 0 ≤ Ieee.signed false n k := by
  unfold Ieee.signed
  rw [Nat.shiftLeft_eq, Nat.shiftLeft_eq, Nat.pow_zero, Nat.mul_one]
  cases s
  · simp only [Bool.false_eq_true, if_false]; exact Int.ofNat_le.2 h
  · simp only [if_true, Bool.false_eq_true, if_false]; omega
theorem num_le (s : Bool) (m : Nat) (i : Int) (hm : m ≤ 9007199254740991) (hi : i ≤ 971) : ((Ieee.Datum.number s m i).order (.number false 9007199254740991 971) == some Ordering.gt) = false := by
  have hb : min i 971 = i := by omega
  simp only [Ieee.Datum.order, hb]
  rw [Int.sub_self]
  apply cmp_le
  apply signed_le
  exact Nat.le_trans hm (Nat.le_mul_of_pos_right _ (Nat.pow_pos (by omega)))
theorem gt_max (f : Nat) (hf : f < 18446744073709551616) : (FloatKind.f64.format.order f 9218868437227405311 == some Ordering.gt) = decide (f = 9218868437227405312) := by
  show (Ieee.double.order f 9218868437227405311 == some Ordering.gt) = _
  have em : Ieee.double.read 9218868437227405311 = .number false 9007199254740991 971 := by rw [read_cases]; rfl
  unfold Ieee.Format.order
  rw [em, read_cases]
  split
  · rename_i h
    rw [num_le _ _ _ (by omega) (by omega)]
    symm; apply decide_eq_false; omega
  · split
    · rename_i h h2
      rw [num_le _ _ _ (by omega) (by omega)]
      symm; apply decide_eq_false; omega
    · split
      · rename_i h h2 h3
        simp only [Ieee.Datum.order]
        by_cases c : f < 9223372036854775808
        · have : f / 9223372036854775808 % 2 = 0 := by omega
          rw [this]
          have e : f = 9218868437227405312 := by omega
          rw [e]; rfl
        · have : f / 9223372036854775808 % 2 = 1 := by omega
          rw [this]
          have e : ¬ f = 9218868437227405312 := by omega
          simp [e]
      · rename_i h h2 h3
        simp only [Ieee.Datum.order]
        symm; simp; omega
theorem cmp_eq {a b : Int} : (some (compare a b) == some Ordering.eq) = decide (a = b) := by
  by_cases h : a = b
  · subst h; simp
  · have h2 : compare a b ≠ .eq := fun e => h (Int.compare_eq_eq.1 e)
    rw [decide_eq_false h]
    cases q : compare a b
    · rfl
    · exact absurd q h2
    · rfl
theorem signed_zero (s : Bool) (m k : Nat) : Ieee.signed s m k = 0 ↔ m = 0 := by
  unfold Ieee.signed
  rw [Nat.shiftLeft_eq]
  have hp : 0 < 2 ^ k := Nat.pow_pos (by omega)
  constructor
  · intro h
    have : m * 2 ^ k = 0 := by
      cases s
      · simp only [Bool.false_eq_true, if_false] at h; omega
      · simp only [if_true] at h; omega
    rcases Nat.mul_eq_zero.1 this with q | q
    · exact q
    · omega
  · intro h
    subst h
    cases s <;> simp
theorem num_zero (s : Bool) (m : Nat) (i : Int) : ((Ieee.Datum.number s m i).order (.number false 0 (-1074)) == some Ordering.eq) = decide (m = 0) := by
  simp only [Ieee.Datum.order]
  rw [cmp_eq]
  have e : Ieee.signed false 0 (-1074 - min i (-1074)).toNat = 0 := (signed_zero _ _ _).2 rfl
  rw [e]
  exact decide_eq_decide.2 (signed_zero _ _ _)
theorem eq_zero (f : Nat) : (FloatKind.f64.format.order f 0 == some Ordering.eq) = decide (f % 9223372036854775808 = 0) := by
  show (Ieee.double.order f 0 == some Ordering.eq) = _
  have em : Ieee.double.read 0 = .number false 0 (-1074) := by rw [read_cases]; rfl
  unfold Ieee.Format.order
  rw [em, read_cases]
  split
  · rw [num_zero]
  · split
    · rw [num_zero]; apply decide_eq_decide.2; omega
    · split
      · simp only [Ieee.Datum.order]
        rename_i h h2 h3
        have : ¬ f % 9223372036854775808 = 0 := by omega
        rw [decide_eq_false this]
        cases (f / 9223372036854775808 % 2 == 1) <;> rfl
      · rename_i h h2 h3
        have : ¬ f % 9223372036854775808 = 0 := by omega
        rw [decide_eq_false this]
        rfl
end Go.Proofs.YtbidlkmagbjllaaGreatDoor.Nx

namespace Go.Proofs.YtbidlkmagbjllaaGreatDoor.Nx
open Go

/-- the mantissa and the place of a finite magnitude -/
def mag64 (X : Nat) : Nat := if X < 4503599627370496 then X else 4503599627370496 + X % 4503599627370496
def plc64 (X : Nat) : Nat := X / 4503599627370496 - 1
/-- a finite magnitude in units of the least one -/
def amt64 (X : Nat) : Nat := mag64 X * 2 ^ plc64 X
theorem amt_lt {X Y : Nat} (h : X < Y) : amt64 X < amt64 Y := by
  unfold amt64 mag64 plc64
  by_cases h1 : X < 4503599627370496
  · rw [if_pos h1]
    have e : X / 4503599627370496 - 1 = 0 := by omega
    rw [e, Nat.pow_zero, Nat.mul_one]
    by_cases h2 : Y < 4503599627370496
    · rw [if_pos h2]
      have e : Y / 4503599627370496 - 1 = 0 := by omega
      rw [e, Nat.pow_zero, Nat.mul_one]
      exact h
    · rw [if_neg h2]
      have h3 : 1 ≤ 2 ^ (Y / 4503599627370496 - 1) := Nat.pow_pos (by omega)
      have h4 := Nat.mul_le_mul_left (4503599627370496 + Y % 4503599627370496) h3
      omega
  · have h2 : ¬ Y < 4503599627370496 := by omega
    rw [if_neg h1, if_neg h2]
    obtain ⟨a, ha⟩ : ∃ a, X / 4503599627370496 = a + 1 := ⟨X / 4503599627370496 - 1, by omega⟩
    obtain ⟨b, hb⟩ : ∃ b, Y / 4503599627370496 = b + 1 := ⟨Y / 4503599627370496 - 1, by omega⟩
    rw [ha, hb, Nat.add_sub_cancel, Nat.add_sub_cancel]
    have hab : a ≤ b := by omega
    obtain ⟨k, rfl⟩ : ∃ k, b = a + k := ⟨b - a, by omega⟩
    rw [Nat.pow_add, Nat.mul_comm (2 ^ a), ← Nat.mul_assoc]
    refine Nat.mul_lt_mul_of_pos_right ?_ (Nat.pow_pos (by omega))
    by_cases hk : k = 0
    · subst hk
      rw [Nat.pow_zero, Nat.mul_one]
      omega
    · have h3 : 2 ^ 1 ≤ 2 ^ k := Nat.pow_le_pow_right (by omega) (by omega)
      have h4 : (4503599627370496 + Y % 4503599627370496) * 2 ^ 1 ≤ (4503599627370496 + Y % 4503599627370496) * 2 ^ k := Nat.mul_le_mul_left _ h3
      omega
theorem amt_lt_iff {X Y : Nat} : amt64 X < amt64 Y ↔ X < Y := by
  constructor
  · intro h
    rcases Nat.lt_or_ge X Y with q | q
    · exact q
    · rcases Nat.lt_or_ge Y X with r | r
      · have := amt_lt r; omega
      · have : X = Y := by omega
        subst this; omega
  · exact amt_lt
/-- a finite double by its sign and its magnitude -/
def fl (a : Bool) (X : Nat) : Nat := X + (if a = true then 9223372036854775808 else 0)
def sv (a : Bool) (X : Nat) : Int := if a = true then -(X : Int) else (X : Int)
theorem read_fl {a : Bool} {X : Nat} (h : X < 9218868437227405312) : Ieee.double.read (fl a X) = .number a (mag64 X) (-1074 + (plc64 X : Int)) := by
  have e1 : fl a X % 9223372036854775808 = X := by unfold fl; cases a <;> simp <;> omega
  have e2 : (fl a X / 9223372036854775808 % 2 == 1) = a := by
    unfold fl
    cases a
    · have : (X + 0) / 9223372036854775808 % 2 = 0 := by omega
      simp; omega
    · have : (X + 9223372036854775808) / 9223372036854775808 % 2 = 1 := by omega
      simp; omega
  rw [read_cases, e1, e2]
  unfold mag64 plc64
  by_cases h1 : X < 4503599627370496
  · have e : X / 4503599627370496 - 1 = 0 := by omega
    rw [if_pos h1, if_pos h1, e]
    rfl
  · rw [if_neg h1, if_pos h, if_neg h1]
theorem cmp_scale {a b : Int} {c : Nat} (h : 0 < c) : compare (a * c) (b * c) = compare a b := by
  have hc : (0 : Int) < c := by omega
  rcases Int.lt_trichotomy a b with q | q | q
  · rw [Int.compare_eq_lt.2 q, Int.compare_eq_lt.2 (Int.mul_lt_mul_of_pos_right q hc)]
  · rw [q]; simp
  · rw [Int.compare_eq_gt.2 q, Int.compare_eq_gt.2 (Int.mul_lt_mul_of_pos_right q hc)]
theorem signed_up (s : Bool) (m k c : Nat) : Ieee.signed s m k * ((2 ^ c : Nat) : Int) = sv s (m * 2 ^ (k + c)) := by
  unfold Ieee.signed sv
  rw [Nat.shiftLeft_eq, Nat.pow_add, ← Nat.mul_assoc]
  cases s
  · simp only [Bool.false_eq_true, if_false]; rw [Int.natCast_mul (m * 2 ^ k)]
  · simp only [if_true]; rw [Int.natCast_mul (m * 2 ^ k), Int.neg_mul]
theorem order_fl {a b : Bool} {X Y : Nat} (hX : X < 9218868437227405312) (hY : Y < 9218868437227405312) : FloatKind.f64.format.order (fl a X) (fl b Y) = some (compare (sv a X) (sv b Y)) := by
  show Ieee.double.order (fl a X) (fl b Y) = _
  unfold Ieee.Format.order
  rw [read_fl hX, read_fl hY]
  simp only [Ieee.Datum.order]
  congr 1
  obtain ⟨c, hc⟩ : ∃ c : Nat, min (-1074 + (plc64 X : Int)) (-1074 + (plc64 Y : Int)) = -1074 + (c : Int) := ⟨min (plc64 X) (plc64 Y), by omega⟩
  have hc1 : c ≤ plc64 X := by omega
  have hc2 : c ≤ plc64 Y := by omega
  rw [hc, ← cmp_scale (c := 2 ^ c) (Nat.pow_pos (by omega)), signed_up, signed_up]
  have e1 : (-1074 + (plc64 X : Int) - (-1074 + (c : Int))).toNat + c = plc64 X := by omega
  have e2 : (-1074 + (plc64 Y : Int) - (-1074 + (c : Int))).toNat + c = plc64 Y := by omega
  rw [e1, e2]
  show compare (sv a (amt64 X)) (sv b (amt64 Y)) = _
  have h1 := @amt_lt_iff X Y
  have h2 := @amt_lt_iff Y X
  have h3 : amt64 X = 0 ↔ X = 0 := by
    have := @amt_lt_iff 0 X
    have e : amt64 0 = 0 := by decide
    rw [e] at this
    omega
  have h4 : amt64 Y = 0 ↔ Y = 0 := by
    have := @amt_lt_iff 0 Y
    have e : amt64 0 = 0 := by decide
    rw [e] at this
    omega
  have key : (sv a (amt64 X) < sv b (amt64 Y) ↔ sv a X < sv b Y) ∧ (sv b (amt64 Y) < sv a (amt64 X) ↔ sv b Y < sv a X) := by
    unfold sv
    generalize amt64 X = x at *
    generalize amt64 Y = y at *
    cases a <;> cases b <;> simp <;> omega
  rcases Int.lt_trichotomy (sv a X) (sv b Y) with q | q | q
  · rw [Int.compare_eq_lt.2 q, Int.compare_eq_lt.2 (key.1.2 q)]
  · have : sv a (amt64 X) = sv b (amt64 Y) := by omega
    rw [q, this]; simp
  · rw [Int.compare_eq_gt.2 q, Int.compare_eq_gt.2 (key.2.2 q)]
/-- <=, >=, == of two finite doubles -/
theorem fl_leq {a b : Bool} {X Y : Nat} (hX : X < 9218868437227405312) (hY : Y < 9218868437227405312) (h : sv a X ≤ sv b Y) : (FloatKind.f64.format.order (fl a X) (fl b Y) == some .lt || FloatKind.f64.format.order (fl a X) (fl b Y) == some .eq) = true := by
  rw [order_fl hX hY]
  rcases Int.lt_or_eq_of_le h with q | q
  · rw [Int.compare_eq_lt.2 q]; rfl
  · rw [q]; simp
theorem fl_geq {a b : Bool} {X Y : Nat} (hX : X < 9218868437227405312) (hY : Y < 9218868437227405312) (h : sv b Y ≤ sv a X) : (FloatKind.f64.format.order (fl a X) (fl b Y) == some .gt || FloatKind.f64.format.order (fl a X) (fl b Y) == some .eq) = true := by
  rw [order_fl hX hY]
  rcases Int.lt_or_eq_of_le h with q | q
  · rw [Int.compare_eq_gt.2 q]; rfl
  · rw [← q]; simp
theorem fl_eq {a b : Bool} {X Y : Nat} (hX : X < 9218868437227405312) (hY : Y < 9218868437227405312) (h : sv a X = sv b Y) : (FloatKind.f64.format.order (fl a X) (fl b Y) == some .eq) = true := by
  rw [order_fl hX hY, h]; simp
end Go.Proofs.YtbidlkmagbjllaaGreatDoor.Nx
