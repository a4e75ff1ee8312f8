/- Plain laws of clocks, whole numbers alone: there and back again, as the law ClockBack asks it. No condition. -/
import Derived.Test.YtiohemofidphjaaDoorM2
namespace Go.Proofs.YtiohemofidphjaaDoor.Ck
/-- the first half of ClockBack: a count's time, that time's count, that count's time -/
theorem back_one (o n d c : Int) : (timeOk o n d c = false) ∨
    (timeOk o n d c = true ∧ countOk o n d (o + c * n / d) = false ∧ c ≤ -1125898906842624) ∨
    (timeOk o n d c = true ∧ countOk o n d (o + c * n / d) = true ∧ timeOk o n d (-((o - (o + c * n / d)) * d / n)) = true ∧
      o + (-((o - (o + c * n / d)) * d / n)) * n / d = o + c * n / d ∧ -((o - (o + c * n / d)) * d / n) ≤ c) := by
  by_cases k : timeOk o n d c = true
  · refine .inr ?_
    obtain ⟨k1, k2, k3⟩ := timeOk_iff.1 k
    obtain ⟨n0, n1, d0, d1, o0, o1⟩ := okc_iff.1 k1
    rw [inT_iff] at k2
    have hle : -((o - (o + c * n / d)) * d / n) ≤ c := (count_le n0 d0).1 (Int.le_refl _)
    have hgt := count_gt (o := o) (k := c) n0 d0
    by_cases kc : countOk o n d (o + c * n / d) = true
    · refine .inr ⟨k, kc, ?_⟩
      obtain ⟨-, -, c3⟩ := countOk_iff.1 kc
      have h1 : o + c * n / d ≤ o + (-((o - (o + c * n / d)) * d / n)) * n / d := (count_le n0 d0).2 (Int.le_refl _)
      have h2 := time_mono (o := o) (n := n) (d := d) n0 d0 hle
      have e : o + (-((o - (o + c * n / d)) * d / n)) * n / d = o + c * n / d := by omega
      exact ⟨timeOk_iff.2 ⟨k1, c3, by rw [e]; exact k3⟩, e, hle⟩
    · refine .inl ⟨k, by simpa using kc, ?_⟩
      refine Int.not_lt.1 fun hlt => kc ?_
      refine countOk_iff.2 ⟨k1, k3, ?_⟩
      rw [inT_iff]
      omega
  · exact .inl (by simpa using k)

/-- the second half: a time's count, that count's time and the time of the count below -/
theorem back_two {o n d t : Int} (k : countOk o n d t = true) :
    t ≤ o + (-((o - t) * d / n)) * n / d ∧ o + (-((o - t) * d / n) - 1) * n / d < t := by
  obtain ⟨k1, -, -⟩ := countOk_iff.1 k
  obtain ⟨n0, n1, d0, d1, o0, o1⟩ := okc_iff.1 k1
  refine ⟨(count_le n0 d0).2 (Int.le_refl _), ?_⟩
  refine Int.not_le.1 fun hle => ?_
  have := (count_le n0 d0).1 hle
  omega
end Go.Proofs.YtiohemofidphjaaDoor.Ck
