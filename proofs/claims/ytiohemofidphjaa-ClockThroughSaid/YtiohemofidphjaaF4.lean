/- Plain laws: the pairs that a clock makes at counts that it divides; their fit. No program. -/
import Derived.Test.YtiohemofidphjaaF1
namespace Go.Proofs.Ytiohemofidphjaa.Ck

def clampK (k : Int) : Int := if k < 1 ∨ 1000 < k then 1 else k
theorem clampK_bd (k : Int) : 1 ≤ clampK k ∧ clampK k ≤ 1000 := by unfold clampK; split <;> omega
def sumK (zs : Nat → Int) : Nat → Int
  | 0 => 0
  | t + 1 => sumK zs t + clampK (zs t)
theorem sumK_bd (zs : Nat → Int) : ∀ t : Nat, (t : Int) ≤ sumK zs t ∧ sumK zs t ≤ 1000 * (t : Int)
  | 0 => by simp [sumK]
  | t + 1 => by have := sumK_bd zs t; have := clampK_bd (zs t); simp only [sumK]; omega
theorem sumK_mono (zs : Nat → Int) (i : Nat) : ∀ j, i < j → sumK zs i < sumK zs j := by
  intro j
  induction j with
  | zero => omega
  | succ j ih =>
    intro h
    have := clampK_bd (zs j)
    simp only [sumK]
    rcases Nat.lt_or_ge i j with h1 | h1
    · have := ih h1; omega
    · rw [show i = j by omega]; omega
def madeP (o n d : Int) (zs : Nat → Int) (j : Nat) : Int × Int := (sumK zs (j + 1) * d, o + sumK zs (j + 1) * n)
def madeL (o n d : Int) (zs : Nat → Int) (t : Nat) : List (Int × Int) := (List.range t).map (madeP o n d zs)
theorem madeL_length (o n d : Int) (zs : Nat → Int) (t : Nat) : (madeL o n d zs t).length = t := by simp [madeL]
theorem madeL_get {o n d : Int} {zs : Nat → Int} {t j : Nat} (h : j < t) : (madeL o n d zs t).getD j (0, 0) = madeP o n d zs j := by
  simp [madeL, List.getD_eq_getElem?_getD, List.getElem?_range h]
theorem madeL_succ (o n d : Int) (zs : Nat → Int) (t : Nat) : madeL o n d zs (t + 1) = madeL o n d zs t ++ [madeP o n d zs t] := by
  simp [madeL, List.range_succ]

theorem sumK_count {zs : Nat → Int} {t : Nat} (ht : t ≤ 1024) {d : Int} (d1 : 1 ≤ d) (d2 : d ≤ 1000000000) : 0 ≤ sumK zs t * d ∧ sumK zs t * d ≤ 1024000000000000 := by
  have := sumK_bd zs t
  refine ⟨Int.mul_nonneg (by omega) (by omega), ?_⟩
  have h1 : sumK zs t * d ≤ 1024000 * d := Int.mul_le_mul_of_nonneg_right (by omega) (by omega)
  omega

section
variable {o n d : Int} {zs : Nat → Int} {t : Nat}
theorem made_at_div (hd : 1 ≤ d) (K : Int) : o + K * d * n / d = o + K * n := by
  rw [show K * d * n = K * n * d by rw [Int.mul_assoc, Int.mul_comm d n, Int.mul_assoc], Int.mul_ediv_cancel _ (by omega)]
theorem made_in (hk : okc o n d = true) (ht : t ≤ 1024) (hT : ∀ j, j < t → inT (o + sumK zs (j + 1) * n) = true) : inL (madeL o n d zs t) = true := by
  rw [inL, decide_eq_true_eq, madeL_length]
  intro j hj
  rw [madeL_get hj]
  obtain ⟨n0, n1, d0, d1, o0, o1⟩ := okc_iff.1 hk
  have := sumK_count (zs := zs) (t := j + 1) (by omega) d0 d1
  exact ⟨inT_iff.2 (by simp only [madeP]; omega), hT j hj⟩
theorem made_up (hk : okc o n d = true) : upL (madeL o n d zs t) = true := by
  rw [upL, decide_eq_true_eq, madeL_length]
  intro j hj
  rw [madeL_get (by omega), madeL_get (by omega)]
  obtain ⟨n0, n1, d0, d1, o0, o1⟩ := okc_iff.1 hk
  have hm := sumK_mono zs (j + 1) (j + 1 + 1) (by omega)
  have h1 : sumK zs (j + 1) * d < sumK zs (j + 1 + 1) * d := Int.mul_lt_mul_of_pos_right hm (by omega)
  have h2 : sumK zs (j + 1) * n < sumK zs (j + 1 + 1) * n := Int.mul_lt_mul_of_pos_right hm (by omega)
  simp only [madeP]
  omega
theorem made_ends (h2 : 2 ≤ t) : fstP (madeL o n d zs t) = madeP o n d zs 0 ∧ lstP (madeL o n d zs t) = madeP o n d zs (t - 1) := by
  unfold fstP lstP
  rw [madeL_length, madeL_get (by omega), madeL_get (by omega)]
  exact ⟨rfl, rfl⟩
theorem made_line (hk : okc o n d = true) (h2 : 2 ≤ t) : fitN (fstP (madeL o n d zs t)) (lstP (madeL o n d zs t)) = rateN n.toNat d.toNat ∧ fitD (fstP (madeL o n d zs t)) (lstP (madeL o n d zs t)) = rateD n.toNat d.toNat := by
  obtain ⟨n0, n1, d0, d1, o0, o1⟩ := okc_iff.1 hk
  rw [(made_ends h2).1, (made_ends h2).2]
  exact fit_made n0 d0 (sumK_mono zs _ _ (by omega))
theorem rate_le (hn : 1 ≤ n) (hd : 1 ≤ d) : 1 ≤ rateN n.toNat d.toNat ∧ rateN n.toNat d.toNat ≤ n ∧ 1 ≤ rateD n.toNat d.toNat ∧ rateD n.toNat d.toNat ≤ d := by
  obtain ⟨g, hg, e1, e2, p1, p2⟩ := rate_parts (x := n.toNat) (y := d.toNat) (by omega) (by omega)
  have q1 : rateN n.toNat d.toNat ≤ (g : Int) * rateN n.toNat d.toNat := by
    have := Int.mul_le_mul_of_nonneg_right (show (1 : Int) ≤ g by omega) (show 0 ≤ rateN n.toNat d.toNat by omega); omega
  have q2 : rateD n.toNat d.toNat ≤ (g : Int) * rateD n.toNat d.toNat := by
    have := Int.mul_le_mul_of_nonneg_right (show (1 : Int) ≤ g by omega) (show 0 ≤ rateD n.toNat d.toNat by omega); omega
  omega
theorem made_ok (hk : okc o n d = true) (h2 : 2 ≤ t) : fitOk (fstP (madeL o n d zs t)) (lstP (madeL o n d zs t)) = true := by
  obtain ⟨n0, n1, d0, d1, o0, o1⟩ := okc_iff.1 hk
  have hl := made_line (zs := zs) hk h2
  have hr := rate_le n0 d0
  unfold fitOk rateOk
  unfold fitN fitD at hl
  rw [hl.1, hl.2, decide_eq_true_eq]
  omega
theorem made_o (hk : okc o n d = true) (h2 : 2 ≤ t) : fitO (fstP (madeL o n d zs t)) (lstP (madeL o n d zs t)) = o := by
  obtain ⟨n0, n1, d0, d1, o0, o1⟩ := okc_iff.1 hk
  have hl := made_line (zs := zs) hk h2
  unfold fitO
  rw [hl.1, hl.2, (made_ends h2).1]
  simp only [madeP]
  rw [made_at n0 d0]
  omega
theorem made_e (hk : okc o n d = true) (h2 : 2 ≤ t) (ht : t ≤ 1024) (hT : ∀ j, j < t → inT (o + sumK zs (j + 1) * n) = true) : fitE (madeL o n d zs t) = 0 := by
  obtain ⟨n0, n1, d0, d1, o0, o1⟩ := okc_iff.1 hk
  exact fitE_ok (by rw [madeL_length]; exact ht) (by rw [madeL_length]; exact h2) (made_in hk ht hT) (made_up hk) (made_ok hk h2) (by rw [made_o hk h2, inT_iff]; omega)
theorem made_miss (hk : okc o n d = true) (h2 : 2 ≤ t) : ∀ j, j ≤ t → missN o (rateN n.toNat d.toNat) (rateD n.toNat d.toNat) (madeL o n d zs t) j = 0
  | 0, _ => rfl
  | j + 1, h => by
    obtain ⟨n0, n1, d0, d1, o0, o1⟩ := okc_iff.1 hk
    have ih := made_miss hk h2 j (by omega)
    simp only [missN]
    rw [ih, madeL_get (by omega)]
    simp only [madeP]
    rw [made_at n0 d0]
    omega
theorem made_w (hk : okc o n d = true) (h2 : 2 ≤ t) : fitW (madeL o n d zs t) = 0 := by
  have hl := made_line (zs := zs) hk h2
  unfold fitW
  rw [made_o hk h2, hl.1, hl.2, made_miss hk h2 _ (by rw [madeL_length]; omega)]
theorem made_found (hk : okc o n d = true) (h2 : 2 ≤ t) : fitN (fstP (madeL o n d zs t)) (lstP (madeL o n d zs t)) * d = n * fitD (fstP (madeL o n d zs t)) (lstP (madeL o n d zs t)) := by
  obtain ⟨n0, n1, d0, d1, o0, o1⟩ := okc_iff.1 hk
  rw [(made_line hk h2).1, (made_line hk h2).2]
  exact made_rate n0 d0
end

/-- the times of the first and the last pair by the fit -/
theorem fit_times {ps : List (Int × Int)} (h : fitE ps = 0) :
    timeOk (fitO (fstP ps) (lstP ps)) (fitN (fstP ps) (lstP ps)) (fitD (fstP ps) (lstP ps)) (fstP ps).1 = true ∧ fitO (fstP ps) (lstP ps) + (fstP ps).1 * fitN (fstP ps) (lstP ps) / fitD (fstP ps) (lstP ps) = (fstP ps).2 ∧
    timeOk (fitO (fstP ps) (lstP ps)) (fitN (fstP ps) (lstP ps)) (fitD (fstP ps) (lstP ps)) (lstP ps).1 = true ∧ fitO (fstP ps) (lstP ps) + (lstP ps).1 * fitN (fstP ps) (lstP ps) / fitD (fstP ps) (lstP ps) = (lstP ps).2 := by
  obtain ⟨_, h2, hi, hu, hk, ho⟩ := fitE_zero h
  obtain ⟨e1, e2⟩ := upL_ends hu h2
  have i1 := inL_at hi (j := 0) (by omega)
  have i2 := inL_at hi (j := ps.length - 1) (by omega)
  have f1 := fit_first (fstP ps) (lstP ps)
  have f2 := fit_last e1 e2
  have hc : okc (fitO (fstP ps) (lstP ps)) (fitN (fstP ps) (lstP ps)) (fitD (fstP ps) (lstP ps)) = true := by rw [fit_okc hu h2 hk, ho]
  exact ⟨timeOk_iff.2 ⟨hc, i1.1, by rw [f1]; exact i1.2⟩, f1, timeOk_iff.2 ⟨hc, i2.1, by rw [f2]; exact i2.2⟩, f2⟩
theorem fitW_nonneg (ps : List (Int × Int)) : 0 ≤ fitW ps := missN_nonneg _ _ _ _ _
end Go.Proofs.Ytiohemofidphjaa.Ck
