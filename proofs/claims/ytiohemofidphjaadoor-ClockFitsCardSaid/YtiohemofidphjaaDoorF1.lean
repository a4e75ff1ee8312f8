/- Plain laws of a fit: the line through two pairs of a count and a time, in lowest terms. No program. -/
import Derived.Test.YtiohemofidphjaaDoorB3
namespace Go.Proofs.YtiohemofidphjaaDoor.Ck
open Go.Proofs.YtiohemofidphjaaDoor

def fitN (a b : Int × Int) : Int := rateN (b.2 - a.2).toNat (b.1 - a.1).toNat
def fitD (a b : Int × Int) : Int := rateD (b.2 - a.2).toNat (b.1 - a.1).toNat
def fitOk (a b : Int × Int) : Bool := rateOk (b.2 - a.2).toNat (b.1 - a.1).toNat
def fitO (a b : Int × Int) : Int := a.2 - a.1 * fitN a b / fitD a b

theorem rate_parts {x y : Nat} (hx : 0 < x) (hy : 0 < y) : ∃ g : Nat, 0 < g ∧ (x : Int) = g * rateN x y ∧ (y : Int) = g * rateD x y ∧ 1 ≤ rateN x y ∧ 1 ≤ rateD x y := by
  have hg : 0 < Nat.gcd x y := Nat.gcd_pos_of_pos_left _ hx
  have e1 := Nat.mul_div_cancel' (Nat.gcd_dvd_left x y)
  have e2 := Nat.mul_div_cancel' (Nat.gcd_dvd_right x y)
  have p1 := Nat.div_pos (Nat.le_of_dvd hx (Nat.gcd_dvd_left x y)) hg
  have p2 := Nat.div_pos (Nat.le_of_dvd hy (Nat.gcd_dvd_right x y)) hg
  refine ⟨Nat.gcd x y, hg, ?_, ?_, ?_, ?_⟩
  · unfold rateN; rw [← Int.natCast_mul, e1]
  · unfold rateD; rw [← Int.natCast_mul, e2]
  · unfold rateN; omega
  · unfold rateD; omega

theorem fit_parts {a b : Int × Int} (h1 : a.1 < b.1) (h2 : a.2 < b.2) : ∃ g : Int, 0 < g ∧ b.2 - a.2 = g * fitN a b ∧ b.1 - a.1 = g * fitD a b ∧ 1 ≤ fitN a b ∧ 1 ≤ fitD a b := by
  obtain ⟨g, hg, e1, e2, p1, p2⟩ := rate_parts (x := (b.2 - a.2).toNat) (y := (b.1 - a.1).toNat) (by omega) (by omega)
  refine ⟨g, by omega, ?_, ?_, p1, p2⟩
  · unfold fitN; rw [← e1]; omega
  · unfold fitD; rw [← e2]; omega

theorem fit_first (a b : Int × Int) : fitO a b + a.1 * fitN a b / fitD a b = a.2 := by
  unfold fitO; omega
theorem fit_last {a b : Int × Int} (h1 : a.1 < b.1) (h2 : a.2 < b.2) : fitO a b + b.1 * fitN a b / fitD a b = b.2 := by
  obtain ⟨g, hg, e1, e2, p1, p2⟩ := fit_parts h1 h2
  unfold fitO
  generalize fitN a b = N at e1 p1 ⊢
  generalize fitD a b = D at e2 p2 ⊢
  have e : b.1 * N = a.1 * N + D * (g * N) := by
    have : b.1 = a.1 + g * D := by omega
    rw [this, Int.add_mul]
    congr 1
    rw [Int.mul_comm g D, Int.mul_assoc]
  rw [e, Int.add_mul_ediv_left _ _ (by omega), ← e1]
  omega

theorem floor_le {x y n d : Int} (h : x ≤ y) (hn : 0 ≤ n) (hd : 0 < d) : x * n / d ≤ y * n / d :=
  Int.ediv_le_ediv hd (Int.mul_le_mul_of_nonneg_right h hn)

/-- between the two pairs the quotient fits -/
theorem fit_mid {a b : Int × Int} {p : Int} (h1 : a.1 < b.1) (h2 : a.2 < b.2) (ho : inT (fitO a b) = true) (ha : inT a.2 = true) (hb : inT b.2 = true) (hp : a.1 ≤ p) (hp' : p ≤ b.1) :
    fits (p * fitN a b) (fitD a b) = true ∧ a.2 ≤ fitO a b + p * fitN a b / fitD a b ∧ fitO a b + p * fitN a b / fitD a b ≤ b.2 := by
  obtain ⟨g, hg, e1, e2, p1, p2⟩ := fit_parts h1 h2
  have f1 := fit_first a b
  have f2 := fit_last h1 h2
  have m1 := floor_le (n := fitN a b) (d := fitD a b) hp (by omega) (by omega)
  have m2 := floor_le (n := fitN a b) (d := fitD a b) hp' (by omega) (by omega)
  rw [inT_iff] at ho ha hb
  exact ⟨fits_of_bound (by omega) (by omega) (by omega), by omega, by omega⟩

theorem rate_scale {k x y : Nat} (hk : 0 < k) : rateN (k * x) (k * y) = rateN x y ∧ rateD (k * x) (k * y) = rateD x y := by
  unfold rateN rateD
  rw [Nat.gcd_mul_left, Nat.mul_div_mul_left _ _ hk, Nat.mul_div_mul_left _ _ hk]
  exact ⟨rfl, rfl⟩

/-- pairs that a clock made: the fit finds its rate -/
theorem fit_made {o A B n d : Int} (hn : 1 ≤ n) (hd : 1 ≤ d) (h : A < B) : fitN (A * d, o + A * n) (B * d, o + B * n) = rateN n.toNat d.toNat ∧ fitD (A * d, o + A * n) (B * d, o + B * n) = rateD n.toNat d.toNat := by
  obtain ⟨k, hk⟩ := Int.eq_ofNat_of_zero_le (show 0 ≤ B - A by omega)
  obtain ⟨n', rfl⟩ := Int.eq_ofNat_of_zero_le (show 0 ≤ n by omega)
  obtain ⟨d', rfl⟩ := Int.eq_ofNat_of_zero_le (show 0 ≤ d by omega)
  have e1 : ((o + B * (n' : Int)) - (o + A * (n' : Int))).toNat = k * n' := by
    have : (o + B * (n' : Int)) - (o + A * (n' : Int)) = ((k * n' : Nat) : Int) := by
      rw [Int.natCast_mul, ← hk, Int.sub_mul]; omega
    rw [this]; rfl
  have e2 : (B * (d' : Int) - A * (d' : Int)).toNat = k * d' := by
    have : B * (d' : Int) - A * (d' : Int) = ((k * d' : Nat) : Int) := by
      rw [Int.natCast_mul, ← hk, Int.sub_mul]
    rw [this]; rfl
  have hs := rate_scale (k := k) (x := n') (y := d') (by omega)
  unfold fitN fitD
  simp only [e1, e2, Int.toNat_natCast]
  exact hs
theorem made_at {C n d : Int} (hn : 1 ≤ n) (hd : 1 ≤ d) : C * d * rateN n.toNat d.toNat / rateD n.toNat d.toNat = C * n := by
  rw [rate_red hn hd, Int.mul_assoc, Int.mul_comm d n, ← Int.mul_assoc, Int.mul_ediv_cancel _ (by omega)]
theorem made_rate {n d : Int} (hn : 1 ≤ n) (hd : 1 ≤ d) : rateN n.toNat d.toNat * d = n * rateD n.toNat d.toNat := by
  obtain ⟨g, hg, e1, e2, p1, p2⟩ := rate_parts (x := n.toNat) (y := d.toNat) (by omega) (by omega)
  generalize rateN n.toNat d.toNat = N at *
  generalize rateD n.toNat d.toNat = D at *
  have e1' : n = g * N := by omega
  have e2' : d = g * D := by omega
  rw [e1', e2', Int.mul_comm (g : Int) N, Int.mul_assoc]
/-! what Fit answers -/
def inL (ps : List (Int × Int)) : Bool := decide (∀ j, j < ps.length → inT (ps.getD j (0, 0)).1 = true ∧ inT (ps.getD j (0, 0)).2 = true)
def upL (ps : List (Int × Int)) : Bool := decide (∀ j, j < ps.length - 1 → (ps.getD j (0, 0)).1 < (ps.getD (j + 1) (0, 0)).1 ∧ (ps.getD j (0, 0)).2 < (ps.getD (j + 1) (0, 0)).2)
def fstP (ps : List (Int × Int)) : Int × Int := ps.getD 0 (0, 0)
def lstP (ps : List (Int × Int)) : Int × Int := ps.getD (ps.length - 1) (0, 0)
def missN (o n d : Int) (ps : List (Int × Int)) : Nat → Int
  | 0 => 0
  | k + 1 => max (max (missN o n d ps k) (o + (ps.getD k (0, 0)).1 * n / d - (ps.getD k (0, 0)).2)) ((ps.getD k (0, 0)).2 - (o + (ps.getD k (0, 0)).1 * n / d))
def fitE (ps : List (Int × Int)) : Int :=
  if 1024 < ps.length then 2 else if inL ps = false then 1 else if ps.length < 2 then 131 else if upL ps = false then 131
  else if fitOk (fstP ps) (lstP ps) = false then 131 else if inT (fitO (fstP ps) (lstP ps)) = false then 130 else 0
def fitW (ps : List (Int × Int)) : Int := missN (fitO (fstP ps) (lstP ps)) (fitN (fstP ps) (lstP ps)) (fitD (fstP ps) (lstP ps)) ps ps.length

theorem fitE_long {ps : List (Int × Int)} (h : 1024 < ps.length) : fitE ps = 2 := by simp [fitE, h]
theorem fitE_range {ps : List (Int × Int)} (h : ps.length ≤ 1024) {j : Nat} (hj : j < ps.length) (hn : inT (ps.getD j (0, 0)).1 = false ∨ inT (ps.getD j (0, 0)).2 = false) : fitE ps = 1 := by
  have hi : inL ps = false := by
    rw [inL, decide_eq_false_iff_not]
    intro hh
    obtain ⟨a, b⟩ := hh j hj
    rcases hn with hn | hn <;> simp_all
  simp [fitE, hi, show ¬ 1024 < ps.length by omega]
theorem fitE_few {ps : List (Int × Int)} (hi : inL ps = true) (h : ps.length < 2) : fitE ps = 131 := by
  simp [fitE, hi, h, show ¬ 1024 < ps.length by omega]
theorem fitE_fall {ps : List (Int × Int)} (h : ps.length ≤ 1024) (hi : inL ps = true) {j : Nat} (hj : j < ps.length - 1) (hn : ¬ ((ps.getD j (0, 0)).1 < (ps.getD (j + 1) (0, 0)).1) ∨ ¬ ((ps.getD j (0, 0)).2 < (ps.getD (j + 1) (0, 0)).2)) : fitE ps = 131 := by
  have hu : upL ps = false := by
    rw [upL, decide_eq_false_iff_not]
    intro hh
    obtain ⟨a, b⟩ := hh j hj
    rcases hn with hn | hn <;> omega
  simp [fitE, hi, hu, show ¬ 1024 < ps.length by omega]
theorem fitE_rest {ps : List (Int × Int)} (h : ps.length ≤ 1024) (h2 : 2 ≤ ps.length) (hi : inL ps = true) (hu : upL ps = true) :
    fitE ps = if fitOk (fstP ps) (lstP ps) = false then 131 else if inT (fitO (fstP ps) (lstP ps)) = false then 130 else 0 := by
  simp [fitE, hi, hu, show ¬ 1024 < ps.length by omega, show ¬ ps.length < 2 by omega]
theorem fitE_rate {ps : List (Int × Int)} (h : ps.length ≤ 1024) (h2 : 2 ≤ ps.length) (hi : inL ps = true) (hu : upL ps = true) (ho : fitOk (fstP ps) (lstP ps) = false) : fitE ps = 131 := by
  rw [fitE_rest h h2 hi hu, if_pos ho]
theorem fitE_clock {ps : List (Int × Int)} (h : ps.length ≤ 1024) (h2 : 2 ≤ ps.length) (hi : inL ps = true) (hu : upL ps = true) (ho : fitOk (fstP ps) (lstP ps) = true) (ht : inT (fitO (fstP ps) (lstP ps)) = false) : fitE ps = 130 := by
  rw [fitE_rest h h2 hi hu, if_neg (by rw [ho]; decide), if_pos ht]
theorem fitE_ok {ps : List (Int × Int)} (h : ps.length ≤ 1024) (h2 : 2 ≤ ps.length) (hi : inL ps = true) (hu : upL ps = true) (ho : fitOk (fstP ps) (lstP ps) = true) (ht : inT (fitO (fstP ps) (lstP ps)) = true) : fitE ps = 0 := by
  rw [fitE_rest h h2 hi hu, if_neg (by rw [ho]; decide), if_neg (by rw [ht]; decide)]
theorem fitE_zero {ps : List (Int × Int)} (h : fitE ps = 0) : ps.length ≤ 1024 ∧ 2 ≤ ps.length ∧ inL ps = true ∧ upL ps = true ∧ fitOk (fstP ps) (lstP ps) = true ∧ inT (fitO (fstP ps) (lstP ps)) = true := by
  unfold fitE at h
  split at h
  · omega
  split at h
  · omega
  split at h
  · omega
  split at h
  · omega
  split at h
  · omega
  split at h
  · omega
  · simp_all
theorem inL_at {ps : List (Int × Int)} (h : inL ps = true) {j : Nat} (hj : j < ps.length) : inT (ps.getD j (0, 0)).1 = true ∧ inT (ps.getD j (0, 0)).2 = true := of_decide_eq_true h j hj
theorem upL_at {ps : List (Int × Int)} (h : upL ps = true) {j : Nat} (hj : j + 1 < ps.length) : (ps.getD j (0, 0)).1 < (ps.getD (j + 1) (0, 0)).1 ∧ (ps.getD j (0, 0)).2 < (ps.getD (j + 1) (0, 0)).2 := of_decide_eq_true h j (by omega)
theorem upL_mono {ps : List (Int × Int)} (h : upL ps = true) (i : Nat) : ∀ j, i ≤ j → j < ps.length → (ps.getD i (0, 0)).1 ≤ (ps.getD j (0, 0)).1 ∧ (ps.getD i (0, 0)).2 ≤ (ps.getD j (0, 0)).2 := by
  intro j
  induction j with
  | zero => intro hij _; rw [show i = 0 by omega]; omega
  | succ j ih =>
    intro hij hj
    rcases Nat.lt_or_ge i (j + 1) with h1 | h1
    · have := ih (by omega) (by omega)
      have := upL_at h (j := j) hj
      omega
    · rw [show i = j + 1 by omega]; omega
theorem upL_ends {ps : List (Int × Int)} (h : upL ps = true) (h2 : 2 ≤ ps.length) : (fstP ps).1 < (lstP ps).1 ∧ (fstP ps).2 < (lstP ps).2 := by
  have h1 := upL_at h (j := 0) (by omega)
  simp only [Nat.zero_add] at h1
  have h3 := upL_mono h 1 (ps.length - 1) (by omega) (by omega)
  unfold fstP lstP
  omega
theorem missN_nonneg (o n d : Int) (ps : List (Int × Int)) : ∀ k, 0 ≤ missN o n d ps k
  | 0 => by simp [missN]
  | k + 1 => by have := missN_nonneg o n d ps k; simp only [missN]; omega
/-- of a fit that is one: each pair's quotient fits, and its time is between the first and the last one -/
theorem fit_at {ps : List (Int × Int)} (h : fitE ps = 0) {j : Nat} (hj : j < ps.length) :
    fits ((ps.getD j (0, 0)).1 * fitN (fstP ps) (lstP ps)) (fitD (fstP ps) (lstP ps)) = true ∧
    inT (fitO (fstP ps) (lstP ps) + (ps.getD j (0, 0)).1 * fitN (fstP ps) (lstP ps) / fitD (fstP ps) (lstP ps)) = true := by
  obtain ⟨_, h2, hi, hu, _, ho⟩ := fitE_zero h
  obtain ⟨e1, e2⟩ := upL_ends hu h2
  have m1 := upL_mono hu 0 j (by omega) hj
  have m2 := upL_mono hu j (ps.length - 1) (by omega) (by omega)
  have i1 := inL_at hi (j := 0) (by omega)
  have i2 := inL_at hi (j := ps.length - 1) (by omega)
  obtain ⟨a, b, c⟩ := fit_mid (p := (ps.getD j (0, 0)).1) e1 e2 ho i1.2 i2.2 m1.1 m2.1
  refine ⟨a, ?_⟩
  simp only [inT_iff] at i1 i2 ⊢
  unfold fstP lstP at *
  omega
theorem fit_first_fits {ps : List (Int × Int)} (hi : inL ps = true) (hu : upL ps = true) (h2 : 2 ≤ ps.length) (ht : inT (fitO (fstP ps) (lstP ps)) = true) :
    fits ((fstP ps).1 * fitN (fstP ps) (lstP ps)) (fitD (fstP ps) (lstP ps)) = true := by
  obtain ⟨e1, e2⟩ := upL_ends hu h2
  have i1 := inL_at hi (j := 0) (by omega)
  have i2 := inL_at hi (j := ps.length - 1) (by omega)
  exact (fit_mid (p := (fstP ps).1) e1 e2 ht i1.2 i2.2 (by omega) (by omega)).1
theorem fit_okc {ps : List (Int × Int)} (hu : upL ps = true) (h2 : 2 ≤ ps.length) (hk : fitOk (fstP ps) (lstP ps) = true) (o : Int) : okc o (fitN (fstP ps) (lstP ps)) (fitD (fstP ps) (lstP ps)) = inT o := by
  obtain ⟨e1, e2⟩ := upL_ends hu h2
  obtain ⟨g, _, _, _, p1, p2⟩ := fit_parts e1 e2
  simp only [fitOk, rateOk, decide_eq_true_eq] at hk
  unfold fitN fitD at *
  rw [Bool.eq_iff_iff, okc_iff, inT_iff]
  omega
end Go.Proofs.YtiohemofidphjaaDoor.Ck
