/- Plain laws of clocks, whole numbers alone: the floor of a quotient; a time rises with its count; the count of a time is the least one. No condition. -/
namespace Go.Proofs.Ytebacmmfjadalaa.Ck

theorem fl (p d : Int) (h : 0 < d) : ∃ q r : Int, p / d = q ∧ p = d * q + r ∧ 0 ≤ r ∧ r < d :=
  ⟨p / d, p % d, rfl, by rw [Int.mul_ediv_add_emod], Int.emod_nonneg _ (by omega), Int.emod_lt_of_pos _ h⟩

theorem fl_unique {p d q r : Int} (h : 0 < d) (e : p = d * q + r) (h0 : 0 ≤ r) (h1 : r < d) : p / d = q := by
  rw [e, Int.add_comm, Int.add_mul_ediv_left _ _ (by omega : d ≠ 0), Int.ediv_eq_zero_of_lt h0 h1]; omega

/-- the clock may be -/
def okc (o n d : Int) : Bool := decide (1 ≤ n ∧ n ≤ 1000000000 ∧ 1 ≤ d ∧ d ≤ 1000000000 ∧ -1125899906842624 ≤ o ∧ o ≤ 1125899906842624)
def inT (t : Int) : Bool := decide (-1125899906842624 ≤ t ∧ t ≤ 1125899906842624)
def timeOk (o n d c : Int) : Bool := okc o n d && inT c && inT (o + c * n / d)
def timeV (o n d c : Int) : Int := if timeOk o n d c then o + c * n / d else 0
def timeE (o n d c : Int) : Int := if okc o n d then (if timeOk o n d c then 0 else 1) else 130
def countOk (o n d t : Int) : Bool := okc o n d && inT t && inT (-((o - t) * d / n))
def countV (o n d t : Int) : Int := if countOk o n d t then -((o - t) * d / n) else 0
def countE (o n d t : Int) : Int := if okc o n d then (if countOk o n d t then 0 else 1) else 130
/-- the floor of p / d has no more than 62 bits -/
def fits (p d : Int) : Bool := decide ((p.natAbs : Int) / d ≤ 4611686018427387904)

theorem inT_iff {t : Int} : inT t = true ↔ -1125899906842624 ≤ t ∧ t ≤ 1125899906842624 := by simp [inT]
theorem okc_iff {o n d : Int} : okc o n d = true ↔ 1 ≤ n ∧ n ≤ 1000000000 ∧ 1 ≤ d ∧ d ≤ 1000000000 ∧ -1125899906842624 ≤ o ∧ o ≤ 1125899906842624 := by simp [okc]
theorem timeOk_iff {o n d c : Int} : timeOk o n d c = true ↔ okc o n d = true ∧ inT c = true ∧ inT (o + c * n / d) = true := by simp [timeOk, and_assoc]
theorem countOk_iff {o n d t : Int} : countOk o n d t = true ↔ okc o n d = true ∧ inT t = true ∧ inT (-((o - t) * d / n)) = true := by simp [countOk, and_assoc]

theorem abs_ediv_le {p d : Int} (h : 0 < d) (B : Int) (h1 : -B ≤ p / d) (h2 : p / d ≤ B) : (p.natAbs : Int) / d ≤ B + 1 := by
  obtain ⟨q, r, hq, hp, r0, r1⟩ := fl p d h
  rw [hq] at h1 h2
  have hB : d * q ≤ d * B := Int.mul_le_mul_of_nonneg_left h2 (by omega)
  have hB' : d * (-B) ≤ d * q := Int.mul_le_mul_of_nonneg_left h1 (by omega)
  have e1 : d * (-B) = -(d * B) := by rw [Int.mul_neg]
  have hlt : (p.natAbs : Int) < d * (B + 2) := by
    have e2 : d * (B + 2) = d * B + d * 2 := Int.mul_add _ _ _
    omega
  have := Int.ediv_lt_of_lt_mul h (by rw [Int.mul_comm]; exact hlt)
  omega

theorem fits_of_bound {p d : Int} (h : 0 < d) (h1 : -4503599627370496 ≤ p / d) (h2 : p / d ≤ 4503599627370496) : fits p d = true := by
  have := abs_ediv_le h 4503599627370496 (by omega) (by omega)
  simp [fits]; omega

theorem fits_time {o n d c : Int} (h : timeOk o n d c = true) : fits (c * n) d = true := by
  obtain ⟨h1, h2, h3⟩ := timeOk_iff.1 h
  rw [okc_iff] at h1; rw [inT_iff] at h3
  exact fits_of_bound (by omega) (by omega) (by omega)
theorem fits_count {o n d t : Int} (h : countOk o n d t = true) : fits ((o - t) * d) n = true := by
  obtain ⟨h1, h2, h3⟩ := countOk_iff.1 h
  rw [okc_iff] at h1; rw [inT_iff] at h3
  exact fits_of_bound (by omega) (by omega) (by omega)

/-- where it fits, the floor itself has bounds -/
theorem fits_bd {p d : Int} (h : 0 < d) (hf : fits p d = true) : -4611686018427387905 ≤ p / d ∧ p / d ≤ 4611686018427387904 := by
  simp [fits] at hf
  obtain ⟨q, r, hq, hp, r0, r1⟩ := fl p d h
  obtain ⟨q', r', hq', hp', r0', r1'⟩ := fl (p.natAbs : Int) d h
  rw [hq'] at hf
  rw [hq]
  have e0 : d * 4611686018427387904 ≥ d * q' := Int.mul_le_mul_of_nonneg_left hf (by omega)
  constructor
  · refine Int.not_lt.1 fun hlt => ?_
    have : d * q ≤ d * (-4611686018427387906) := Int.mul_le_mul_of_nonneg_left (by omega) (by omega)
    omega
  · refine Int.not_lt.1 fun hlt => ?_
    have : d * 4611686018427387905 ≤ d * q := Int.mul_le_mul_of_nonneg_left (by omega) (by omega)
    omega

/-! rises -/
theorem time_mono {o n d a b : Int} (h1 : 1 ≤ n) (h2 : 1 ≤ d) (h : a ≤ b) : o + a * n / d ≤ o + b * n / d := by
  have := Int.ediv_le_ediv (by omega : 0 < d) (Int.mul_le_mul_of_nonneg_right h (by omega : 0 ≤ n))
  omega
theorem time_strict {o n d a b : Int} (h2 : 1 ≤ d) (h3 : d ≤ n) (h : a < b) : o + a * n / d < o + b * n / d := by
  have e : a * n + d ≤ b * n := by
    have : (a + 1) * n ≤ b * n := Int.mul_le_mul_of_nonneg_right (by omega) (by omega)
    have : (a + 1) * n = a * n + n := by rw [Int.add_mul]; omega
    omega
  have h5 := Int.ediv_le_ediv (by omega : 0 < d) e
  have h4 : (a * n + d) / d = a * n / d + 1 := by have := Int.add_mul_ediv_right (a * n) 1 (by omega : d ≠ 0); rwa [Int.one_mul] at this
  omega

/-! back -/
/-- the count of a time: -((o - t) * d / n) is the least m with o + m*n/d ≥ t -/
theorem count_le {o n d t m : Int} (h1 : 1 ≤ n) (h2 : 1 ≤ d) : t ≤ o + m * n / d ↔ -((o - t) * d / n) ≤ m := by
  have e1 : t ≤ o + m * n / d ↔ (t - o) * d ≤ m * n := by
    rw [show (t ≤ o + m * n / d) ↔ (t - o ≤ m * n / d) by omega]
    exact Int.le_ediv_iff_mul_le (by omega)
  have e2 : -((o - t) * d / n) ≤ m ↔ -m ≤ (o - t) * d / n := by omega
  rw [e1, e2, Int.le_ediv_iff_mul_le (by omega)]
  have e3 : (t - o) * d = -((o - t) * d) := by rw [← Int.neg_mul]; congr 1; omega
  have e4 : -m * n = -(m * n) := Int.neg_mul _ _
  omega
theorem count_gt {o n d k : Int} (h1 : 1 ≤ n) (h2 : 1 ≤ d) : k - d < -((o - (o + k * n / d)) * d / n) := by
  obtain ⟨q, r, hq, hp, r0, r1⟩ := fl (k * n) d (by omega)
  rw [hq]
  have e : (o - (o + q)) * d = -(d * q) := by rw [show o - (o + q) = -q by omega, Int.neg_mul, Int.mul_comm]
  rw [e]
  refine Int.not_le.1 fun hle => ?_
  -- -( -(dq)/n) ≤ k - d : then dq ≤ (k-d) n
  have h5 : d - k ≤ -(d * q) / n := by omega
  rw [Int.le_ediv_iff_mul_le (by omega)] at h5
  have e5 : (d - k) * n = d * n - k * n := Int.sub_mul _ _ _
  have e6 : d * 1 ≤ d * n := Int.mul_le_mul_of_nonneg_left h1 (by omega)
  omega
end Go.Proofs.Ytebacmmfjadalaa.Ck
