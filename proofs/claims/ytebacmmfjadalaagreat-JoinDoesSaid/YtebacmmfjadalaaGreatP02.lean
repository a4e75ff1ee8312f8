/- M1 M2 H1 H2 in one text. -/


namespace Go.Proofs.YtebacmmfjadalaaGreat.Ck

theorem fl (p d : Int) (h : 0 < d) : ∃ q r : Int, p / d = q ∧ p = d * q + r ∧ 0 ≤ r ∧ r < d :=
  ⟨p / d, p % d, rfl, by rw [Int.mul_ediv_add_emod], Int.emod_nonneg _ (by omega), Int.emod_lt_of_pos _ h⟩

theorem fl_unique {p d q r : Int} (h : 0 < d) (e : p = d * q + r) (h0 : 0 ≤ r) (h1 : r < d) : p / d = q := by
  rw [e, Int.add_comm, Int.add_mul_ediv_left _ _ (by omega : d ≠ 0), Int.ediv_eq_zero_of_lt h0 h1]; omega

/-- the clock may be -/
def okc (o n d : Int) : Bool := decide (1 ≤ n ∧ n ≤ 1000000000 ∧ 1 ≤ d ∧ d ≤ 1000000000 ∧ -1125899906842624 ≤ o ∧ o ≤ 1125899906842624)
def inT (t : Int) : Bool := decide (-1125899906842624 ≤ t ∧ t ≤ 1125899906842624)
def timeOk (o n d c : Int) : Bool := okc o n d && inT c && inT (o + c * n / d)
def timeV (o n d c : Int) : Int := if timeOk o n d c then o + c * n / d else 0
def timeE (o n d c : Int) : Int := if okc o n d then (if timeOk o n d c then 0 else 1) else 130
def countOk (o n d t : Int) : Bool := okc o n d && inT t && inT (-((o - t) * d / n))
def countV (o n d t : Int) : Int := if countOk o n d t then -((o - t) * d / n) else 0
def countE (o n d t : Int) : Int := if okc o n d then (if countOk o n d t then 0 else 1) else 130
/-- the floor of p / d has no more than 62 bits -/
def fits (p d : Int) : Bool := decide ((p.natAbs : Int) / d ≤ 4611686018427387904)

theorem inT_iff {t : Int} : inT t = true ↔ -1125899906842624 ≤ t ∧ t ≤ 1125899906842624 := by simp [inT]
theorem okc_iff {o n d : Int} : okc o n d = true ↔ 1 ≤ n ∧ n ≤ 1000000000 ∧ 1 ≤ d ∧ d ≤ 1000000000 ∧ -1125899906842624 ≤ o ∧ o ≤ 1125899906842624 := by simp [okc]
theorem timeOk_iff {o n d c : Int} : timeOk o n d c = true ↔ okc o n d = true ∧ inT c = true ∧ inT (o + c * n / d) = true := by simp [timeOk, and_assoc]
theorem countOk_iff {o n d t : Int} : countOk o n d t = true ↔ okc o n d = true ∧ inT t = true ∧ inT (-((o - t) * d / n)) = true := by simp [countOk, and_assoc]

theorem abs_ediv_le {p d : Int} (h : 0 < d) (B : Int) (h1 : -B ≤ p / d) (h2 : p / d ≤ B) : (p.natAbs : Int) / d ≤ B + 1 := by
  obtain ⟨q, r, hq, hp, r0, r1⟩ := fl p d h
  rw [hq] at h1 h2
  have hB : d * q ≤ d * B := Int.mul_le_mul_of_nonneg_left h2 (by omega)
  have hB' : d * (-B) ≤ d * q := Int.mul_le_mul_of_nonneg_left h1 (by omega)
  have e1 : d * (-B) = -(d * B) := by rw [Int.mul_neg]
  have hlt : (p.natAbs : Int) < d * (B + 2) := by
    have e2 : d * (B + 2) = d * B + d * 2 := Int.mul_add _ _ _
    omega
  have := Int.ediv_lt_of_lt_mul h (by rw [Int.mul_comm]; exact hlt)
  omega

theorem fits_of_bound {p d : Int} (h : 0 < d) (h1 : -4503599627370496 ≤ p / d) (h2 : p / d ≤ 4503599627370496) : fits p d = true := by
  have := abs_ediv_le h 4503599627370496 (by omega) (by omega)
  simp [fits]; omega

theorem fits_time {o n d c : Int} (h : timeOk o n d c = true) : fits (c * n) d = true := by
  obtain ⟨h1, h2, h3⟩ := timeOk_iff.1 h
  rw [okc_iff] at h1; rw [inT_iff] at h3
  exact fits_of_bound (by omega) (by omega) (by omega)
theorem fits_count {o n d t : Int} (h : countOk o n d t = true) : fits ((o - t) * d) n = true := by
  obtain ⟨h1, h2, h3⟩ := countOk_iff.1 h
  rw [okc_iff] at h1; rw [inT_iff] at h3
  exact fits_of_bound (by omega) (by omega) (by omega)

/-- where it fits, the floor itself has bounds -/
theorem fits_bd {p d : Int} (h : 0 < d) (hf : fits p d = true) : -4611686018427387905 ≤ p / d ∧ p / d ≤ 4611686018427387904 := by
  simp [fits] at hf
  obtain ⟨q, r, hq, hp, r0, r1⟩ := fl p d h
  obtain ⟨q', r', hq', hp', r0', r1'⟩ := fl (p.natAbs : Int) d h
  rw [hq'] at hf
  rw [hq]
  have e0 : d * 4611686018427387904 ≥ d * q' := Int.mul_le_mul_of_nonneg_left hf (by omega)
  constructor
  · refine Int.not_lt.1 fun hlt => ?_
    have : d * q ≤ d * (-4611686018427387906) := Int.mul_le_mul_of_nonneg_left (by omega) (by omega)
    omega
  · refine Int.not_lt.1 fun hlt => ?_
    have : d * 4611686018427387905 ≤ d * q := Int.mul_le_mul_of_nonneg_left (by omega) (by omega)
    omega

/-! rises -/
theorem time_mono {o n d a b : Int} (h1 : 1 ≤ n) (h2 : 1 ≤ d) (h : a ≤ b) : o + a * n / d ≤ o + b * n / d := by
  have := Int.ediv_le_ediv (by omega : 0 < d) (Int.mul_le_mul_of_nonneg_right h (by omega : 0 ≤ n))
  omega
theorem time_strict {o n d a b : Int} (h2 : 1 ≤ d) (h3 : d ≤ n) (h : a < b) : o + a * n / d < o + b * n / d := by
  have e : a * n + d ≤ b * n := by
    have : (a + 1) * n ≤ b * n := Int.mul_le_mul_of_nonneg_right (by omega) (by omega)
    have : (a + 1) * n = a * n + n := by rw [Int.add_mul]; omega
    omega
  have h5 := Int.ediv_le_ediv (by omega : 0 < d) e
  have h4 : (a * n + d) / d = a * n / d + 1 := by have := Int.add_mul_ediv_right (a * n) 1 (by omega : d ≠ 0); rwa [Int.one_mul] at this
  omega

/-! back -/
/-- the count of a time: -((o - t) * d / n) is the least m with o + m*n/d ≥ t -/
theorem count_le {o n d t m : Int} (h1 : 1 ≤ n) (h2 : 1 ≤ d) : t ≤ o + m * n / d ↔ -((o - t) * d / n) ≤ m := by
  have e1 : t ≤ o + m * n / d ↔ (t - o) * d ≤ m * n := by
    rw [show (t ≤ o + m * n / d) ↔ (t - o ≤ m * n / d) by omega]
    exact Int.le_ediv_iff_mul_le (by omega)
  have e2 : -((o - t) * d / n) ≤ m ↔ -m ≤ (o - t) * d / n := by omega
  rw [e1, e2, Int.le_ediv_iff_mul_le (by omega)]
  have e3 : (t - o) * d = -((o - t) * d) := by rw [← Int.neg_mul]; congr 1; omega
  have e4 : -m * n = -(m * n) := Int.neg_mul _ _
  omega
theorem count_gt {o n d k : Int} (h1 : 1 ≤ n) (h2 : 1 ≤ d) : k - d < -((o - (o + k * n / d)) * d / n) := by
  obtain ⟨q, r, hq, hp, r0, r1⟩ := fl (k * n) d (by omega)
  rw [hq]
  have e : (o - (o + q)) * d = -(d * q) := by rw [show o - (o + q) = -q by omega, Int.neg_mul, Int.mul_comm]
  rw [e]
  refine Int.not_le.1 fun hle => ?_
  -- -( -(dq)/n) ≤ k - d : then dq ≤ (k-d) n
  have h5 : d - k ≤ -(d * q) / n := by omega
  rw [Int.le_ediv_iff_mul_le (by omega)] at h5
  have e5 : (d - k) * n = d * n - k * n := Int.sub_mul _ _ _
  have e6 : d * 1 ≤ d * n := Int.mul_le_mul_of_nonneg_left h1 (by omega)
  omega
end Go.Proofs.YtebacmmfjadalaaGreat.Ck

namespace Go.Proofs.YtebacmmfjadalaaGreat.Ck
/-! Unwrap -/
def unw (last s : Int) : Int := if 2147483648 < (s - last) % 4294967296 then last + (s - last) % 4294967296 - 4294967296 else last + (s - last) % 4294967296
def unwOk (last s : Int) : Bool := inT last && inT (unw last s)
def unwV (last s : Int) : Int := if unwOk last s then unw last s else 0
def unwE (last s : Int) : Int := if unwOk last s then 0 else 1
theorem unwOk_iff {l s : Int} : unwOk l s = true ↔ inT l = true ∧ inT (unw l s) = true := by simp [unwOk]
theorem unw_bd (last s : Int) : last - 2147483648 < unw last s ∧ unw last s ≤ last + 2147483648 := by unfold unw; split <;> omega

/-- what the reference has found behind the candidates below k -/
def bst (last s k : Int) : Int :=
  if k ≤ -2 then 0 else if k ≤ -1 then last - last % 4294967296 + s - 8589934592 else if k ≤ 0 then last - last % 4294967296 + s - 4294967296
  else if k ≤ 1 then (if 2147483648 < s - last % 4294967296 then last - last % 4294967296 + s - 4294967296 else last - last % 4294967296 + s) else unw last s
def nearI (a b : Int) : Int := if a < b then b - a else a - b
def cand (last s k : Int) : Int := (last / 4294967296 + k) * 4294967296 + s
theorem bst_step {last s k : Int} (hs : 0 ≤ s) (hs' : s < 4294967296) (h0 : -2 ≤ k) (h1 : k ≤ 2) :
    bst last s (k + 1) = if k = -2 ∨ nearI (cand last s k) last < nearI (bst last s k) last ∨ nearI (cand last s k) last = nearI (bst last s k) last ∧ bst last s k < cand last s k then cand last s k else bst last s k := by
  rcases (by omega : k = -2 ∨ k = -1 ∨ k = 0 ∨ k = 1 ∨ k = 2) with rfl | rfl | rfl | rfl | rfl
  all_goals simp [bst, unw, cand, nearI]
  all_goals (repeat' split) <;> omega
theorem bst_end (last s : Int) : bst last s 3 = unw last s := by simp [bst]
theorem unw_next {is s : Int} (h0 : -2147483648 < s) (h1 : s < 2147483648) : unw is ((is + s) % 4294967296) = is + s := by unfold unw; split <;> omega

/-! Then -/
theorem red_ediv {n g K E : Int} (hg : 0 < g) : n * (g * K) / (g * E) = n * K / E := by
  rw [show n * (g * K) = g * (n * K) by rw [Int.mul_left_comm]]
  exact Int.mul_ediv_mul_of_pos _ _ hg

theorem then_law {od oc n Nc Dc Nd Dd : Int} (h2 : 1 ≤ Dc) (h3 : 1 ≤ Nd) (h4 : 1 ≤ Dd) :
    (od + (oc + n * Nc / Dc) * Nd / Dd) - (od + oc * Nd / Dd + n * (Nc * Nd) / (Dc * Dd)) ≤ (Nd + Dd - 1) / Dd ∧
    (od + oc * Nd / Dd + n * (Nc * Nd) / (Dc * Dd)) - (od + (oc + n * Nc / Dc) * Nd / Dd) ≤ (Nd + Dd - 1) / Dd := by
  have ev : n * (Nc * Nd) / (Dc * Dd) = (n * Nc * Nd / Dc) / Dd := by
    rw [← Int.mul_assoc, Int.ediv_ediv_of_nonneg (by omega)]
  rw [ev]
  obtain ⟨q1, r1, e1, p1, a1, b1⟩ := fl (n * Nc) Dc (by omega)
  rw [e1, p1]
  have em : (Dc * q1 + r1) * Nd / Dc = q1 * Nd + r1 * Nd / Dc := by
    rw [Int.add_mul, Int.mul_assoc, Int.add_comm, Int.add_mul_ediv_left _ _ (by omega), Int.add_comm]
  rw [em]
  have m0 : 0 ≤ r1 * Nd / Dc := Int.ediv_nonneg (Int.mul_nonneg a1 (by omega)) (by omega)
  have m1 : r1 * Nd / Dc < Nd := by
    apply Int.ediv_lt_of_lt_mul (by omega)
    rw [Int.mul_comm Nd]
    exact Int.mul_lt_mul_of_pos_right b1 (by omega)
  generalize r1 * Nd / Dc = m at m0 m1
  rw [Int.add_mul]
  generalize oc * Nd = A
  generalize q1 * Nd = B
  obtain ⟨a, ra, ea, pa, a2, b2⟩ := fl A Dd (by omega)
  obtain ⟨b, rb, eb, pb, a3, b3⟩ := fl B Dd (by omega)
  obtain ⟨c, rc, ec, pc, a4, b4⟩ := fl (A + B) Dd (by omega)
  obtain ⟨d, rd, ed, pd, a5, b5⟩ := fl (B + m) Dd (by omega)
  obtain ⟨f, rf, ef, pf, a6, b6⟩ := fl (Nd + Dd - 1) Dd (by omega)
  rw [ea, ec, ed, ef]
  have x1 : Dd * c < Dd * (a + b + 2) := by rw [Int.mul_add, Int.mul_add]; omega
  have x2 : Dd * (a + b) < Dd * (c + 1) := by rw [Int.mul_add, Int.mul_add]; omega
  have x3 : Dd * b < Dd * (d + 1) := by rw [Int.mul_add]; omega
  have x4 : Dd * d < Dd * (b + f + 1) := by rw [Int.mul_add, Int.mul_add]; omega
  have x5 : Dd * 0 < Dd * f := by rw [Int.mul_zero]; 
                                  have : Dd * 1 < Dd * (f + 1) := by rw [Int.mul_add]; omega
                                  have := Int.lt_of_mul_lt_mul_left this (by omega)
                                  exact Int.mul_pos (by omega) (by omega)
  have y1 := Int.lt_of_mul_lt_mul_left x1 (by omega)
  have y2 := Int.lt_of_mul_lt_mul_left x2 (by omega)
  have y3 := Int.lt_of_mul_lt_mul_left x3 (by omega)
  have y4 := Int.lt_of_mul_lt_mul_left x4 (by omega)
  have y5 := Int.lt_of_mul_lt_mul_left x5 (by omega)
  omega
end Go.Proofs.YtebacmmfjadalaaGreat.Ck

namespace Go.Proofs.YtebacmmfjadalaaGreat

variable {α : Type}
/-- two change places -/
def sw (xs : List α) (i k : Nat) : List α := match xs[i]?, xs[k]? with
  | some a, some b => (xs.set i b).set k a
  | _, _ => xs
def ltAt (C : α → α → Int) (xs : List α) (i k : Nat) : Bool := match xs[i]?, xs[k]? with
  | some a, some b => decide (C a b < 0)
  | _, _ => false
/-- what up leaves of a row -/
def upL (C : α → α → Int) : Nat → List α → Nat → List α
  | 0, xs, _ => xs
  | f + 1, xs, j => if (j - 1) / 2 = j ∨ ltAt C xs j ((j - 1) / 2) = false then xs else upL C f (sw xs ((j - 1) / 2) j) ((j - 1) / 2)
/-- the child that down looks at -/
def kid (C : α → α → Int) (xs : List α) (i m : Nat) : Nat := if 2 * i + 2 < m ∧ ltAt C xs (2 * i + 2) (2 * i + 1) = true then 2 * i + 2 else 2 * i + 1
/-- what down leaves of a row -/
def downL (C : α → α → Int) : Nat → List α → Nat → Nat → List α
  | 0, xs, _, _ => xs
  | f + 1, xs, i, m => if m ≤ 2 * i + 1 ∨ ltAt C xs (kid C xs i m) i = false then xs else downL C f (sw xs i (kid C xs i m)) (kid C xs i m) m
/-- what Pop leaves of a row of n + 1 -/
def popL (C : α → α → Int) (xs : List α) (n : Nat) : List α := (downL C (n + 1) (sw xs 0 n) 0 n).take n

structure Swo (C : α → α → Int) : Prop where
  asym : ∀ a b, C a b < 0 → ¬ C b a < 0
  ntr : ∀ a b c, C a c < 0 → C a b < 0 ∨ C b c < 0

/-- a stands at or ahead of b -/
def Le (C : α → α → Int) (a b : α) : Prop := ¬ C b a < 0
theorem Swo.refl {C : α → α → Int} (h : Swo C) (a : α) : Le C a a := fun q => h.asym a a q q
theorem Swo.total {C : α → α → Int} (h : Swo C) {a b : α} (q : ¬ Le C a b) : Le C b a := h.asym b a (Classical.not_not.1 q)
theorem Swo.of_lt {C : α → α → Int} (h : Swo C) {a b : α} (q : C a b < 0) : Le C a b := h.asym a b q
theorem Swo.trans {C : α → α → Int} (h : Swo C) {a b c : α} (p : Le C a b) (q : Le C b c) : Le C a c := fun r => (h.ntr c b a r).elim q p

/-- of two places, where there are such -/
def LeO (C : α → α → Int) (x y : Option α) : Prop := ∀ a b, x = some a → y = some b → Le C a b
theorem Swo.transO {C : α → α → Int} (h : Swo C) {x y z : Option α} {b : α} (hy : y = some b) (p : LeO C x y) (q : LeO C y z) : LeO C x z :=
  fun a c ha hc => h.trans (p a b ha hy) (q b c hy hc)

theorem hsw_get {xs : List α} {i k : Nat} (hi : i < xs.length) (hk : k < xs.length) (m : Nat) : (sw xs i k)[m]? = if m = i then xs[k]? else if m = k then xs[i]? else xs[m]? := by
  unfold sw
  rw [List.getElem?_eq_getElem hi, List.getElem?_eq_getElem hk]
  simp only [List.getElem?_set, List.length_set]
  by_cases h1 : m = i
  · subst h1
    by_cases h2 : k = m
    · subst h2
      simp [hi]
    · simp [hi, h2]
  · by_cases h2 : m = k
    · subst h2
      simp [h1, hk]
    · simp [h1, h2, Ne.symm h1, Ne.symm h2]
theorem hsw_len (xs : List α) (i k : Nat) : (sw xs i k).length = xs.length := by
  unfold sw
  split <;> simp
theorem hsw_perm (xs : List α) (i k : Nat) : (sw xs i k).Perm xs := by
  unfold sw
  split
  · rename_i a b ha hb
    obtain ⟨hi, rfl⟩ := List.getElem?_eq_some_iff.1 ha
    obtain ⟨hk, rfl⟩ := List.getElem?_eq_some_iff.1 hb
    exact List.set_set_perm hi hk
  · exact List.Perm.refl _
theorem hlt_iff {C : α → α → Int} {xs : List α} {i k : Nat} : ltAt C xs i k = false → LeO C xs[k]? xs[i]? := by
  intro h a b ha hb
  unfold ltAt at h
  rw [ha, hb] at h
  simpa [Le] using h
theorem hlt_true {C : α → α → Int} {xs : List α} {i k : Nat} (hs : Swo C) : ltAt C xs i k = true → LeO C xs[i]? xs[k]? := by
  intro h a b ha hb
  unfold ltAt at h
  rw [ha, hb] at h
  exact hs.of_lt (by simpa using h)

/-- the first m of a list are a heap -/
def Heap (C : α → α → Int) (xs : List α) (m : Nat) : Prop := ∀ i, 0 < i → i < m → LeO C xs[(i - 1) / 2]? xs[i]?

theorem upL_perm (C : α → α → Int) : ∀ (f : Nat) (xs : List α) (j : Nat), (upL C f xs j).Perm xs
  | 0, _, _ => List.Perm.refl _
  | f + 1, xs, j => by
    rw [upL]
    split
    · exact List.Perm.refl _
    · exact (upL_perm C f _ _).trans (hsw_perm _ _ _)
theorem downL_perm (C : α → α → Int) : ∀ (f : Nat) (xs : List α) (i m : Nat), (downL C f xs i m).Perm xs
  | 0, _, _, _ => List.Perm.refl _
  | f + 1, xs, i, m => by
    rw [downL]
    split
    · exact List.Perm.refl _
    · exact (downL_perm C f _ _ _).trans (hsw_perm _ _ _)

theorem up_heap {C : α → α → Int} (hs : Swo C) : ∀ (f : Nat) (xs : List α) (j : Nat), j < f → j < xs.length → (∀ i, 0 < i → i < xs.length → i ≠ j → LeO C xs[(i - 1) / 2]? xs[i]?) →
    (∀ i, 0 < i → i < xs.length → (i - 1) / 2 = j → 0 < j → LeO C xs[(j - 1) / 2]? xs[i]?) → Heap C (upL C f xs j) xs.length
  | 0, _, j, h, _, _, _ => by omega
  | f + 1, xs, j, h, hj, h1, h2 => by
    rw [upL]
    split
    · rename_i hc
      intro i i0 i1
      by_cases e : i = j
      · subst e
        rcases hc with hc | hc
        · omega
        · exact hlt_iff hc
      · exact h1 i i0 i1 e
    · rename_i hc
      have hne : ¬ (j - 1) / 2 = j := fun e => hc (.inl e)
      have hlt : ltAt C xs j ((j - 1) / 2) = true := by
        cases hl : ltAt C xs j ((j - 1) / 2) with
        | true => rfl
        | false => exact absurd (.inr hl) hc
      have hle := hlt_true hs hlt
      obtain ⟨p, hp⟩ : ∃ p, (j - 1) / 2 = p := ⟨_, rfl⟩
      rw [hp] at hle hne hlt ⊢
      have hpj : p < j := by omega
      have hpl : p < xs.length := by omega
      have ep : xs[p]? = some xs[p] := List.getElem?_eq_getElem hpl
      have ej : xs[j]? = some xs[j] := List.getElem?_eq_getElem hj
      have hr := up_heap hs f (sw xs p j) p (by omega) (by rw [hsw_len]; exact hpl) (fun i i0 i1 e => by
        rw [hsw_len] at i1
        rw [hsw_get hpl hj, hsw_get hpl hj, if_neg e]
        by_cases e1 : i = j
        · subst e1
          rw [if_pos hp, if_pos rfl]
          exact hle
        · rw [if_neg e1]
          by_cases e2 : (i - 1) / 2 = p
          · rw [if_pos e2]
            exact hs.transO ep hle (by rw [← e2]; exact h1 i i0 i1 e1)
          · rw [if_neg e2]
            by_cases e3 : (i - 1) / 2 = j
            · rw [if_pos e3]
              have := h2 i i0 i1 e3 (by omega)
              rw [hp] at this
              exact this
            · rw [if_neg e3]
              exact h1 i i0 i1 e1) (fun i i0 i1 e p0 => by
        rw [hsw_len] at i1
        have hq : (p - 1) / 2 ≠ p := by omega
        have hq2 : (p - 1) / 2 ≠ j := by omega
        rw [hsw_get hpl hj, hsw_get hpl hj, if_neg hq, if_neg hq2]
        have hgp := h1 p p0 hpl (by omega)
        by_cases e1 : i = j
        · subst e1
          rw [if_neg (by omega), if_pos rfl]
          exact hgp
        · rw [if_neg (by omega), if_neg e1]
          exact hs.transO ep hgp (by rw [← e]; exact h1 i i0 i1 e1))
      rw [hsw_len] at hr
      exact hr

theorem hkid_lt {C : α → α → Int} {xs : List α} {i m : Nat} (h : ¬ m ≤ 2 * i + 1) : i < kid C xs i m ∧ kid C xs i m < m ∧ (kid C xs i m - 1) / 2 = i := by
  unfold kid
  split
  · rename_i h1
    omega
  · omega
theorem hkid_le {C : α → α → Int} (hs : Swo C) {xs : List α} {i m k : Nat} (k0 : 0 < k) (hk : k < m) (e : (k - 1) / 2 = i) : LeO C xs[kid C xs i m]? xs[k]? := by
  have hk2 : k = 2 * i + 1 ∨ k = 2 * i + 2 := by omega
  unfold kid
  split
  · rename_i h1
    rcases hk2 with rfl | rfl
    · exact hlt_true hs h1.2
    · intro a b ha hb
      rw [ha] at hb
      injection hb with hb
      subst hb
      exact hs.refl a
  · rename_i h1
    rcases hk2 with rfl | rfl
    · intro a b ha hb
      rw [ha] at hb
      injection hb with hb
      subst hb
      exact hs.refl a
    · have : ltAt C xs (2 * i + 2) (2 * i + 1) = false := by
        cases hl : ltAt C xs (2 * i + 2) (2 * i + 1) with
        | false => rfl
        | true => exact absurd ⟨hk, hl⟩ h1
      exact hlt_iff this

theorem down_heap {C : α → α → Int} (hs : Swo C) : ∀ (f : Nat) (xs : List α) (i m : Nat), m ≤ xs.length → m < f + i → (∀ k, 0 < k → k < m → (k - 1) / 2 ≠ i → LeO C xs[(k - 1) / 2]? xs[k]?) →
    (∀ k, 0 < k → k < m → (k - 1) / 2 = i → 0 < i → LeO C xs[(i - 1) / 2]? xs[k]?) → Heap C (downL C f xs i m) m
  | 0, xs, i, m, h, hf, h1, h2 => fun k k0 k1 => h1 k k0 k1 (by omega)
  | f + 1, xs, i, m, h, hf, h1, h2 => by
    rw [downL]
    split
    · rename_i hc
      intro k k0 k1
      by_cases e : (k - 1) / 2 = i
      · rcases hc with hc | hc
        · omega
        · have hm : ¬ m ≤ 2 * i + 1 := by omega
          have hk := hkid_lt (C := C) (xs := xs) hm
          have ek : xs[kid C xs i m]? = some (xs[kid C xs i m]'(by omega)) := List.getElem?_eq_getElem (by omega)
          rw [e]
          exact hs.transO ek (hlt_iff hc) (hkid_le hs k0 k1 e)
      · exact h1 k k0 k1 e
    · rename_i hc
      have hm : ¬ m ≤ 2 * i + 1 := fun e => hc (.inl e)
      have hlt : ltAt C xs (kid C xs i m) i = true := by
        cases hl : ltAt C xs (kid C xs i m) i with
        | true => rfl
        | false => exact absurd (.inr hl) hc
      have hle := hlt_true hs hlt
      have hk := hkid_lt (C := C) (xs := xs) hm
      have hkl := fun k k0 hk e => hkid_le hs (xs := xs) (i := i) (m := m) (k := k) k0 hk e
      obtain ⟨j, hj⟩ : ∃ j, kid C xs i m = j := ⟨_, rfl⟩
      rw [hj] at hle hlt hk hkl ⊢
      have hjl : j < xs.length := by omega
      have hil : i < xs.length := by omega
      have ei : xs[i]? = some xs[i] := List.getElem?_eq_getElem hil
      have ej : xs[j]? = some xs[j] := List.getElem?_eq_getElem hjl
      refine down_heap hs f (sw xs i j) j m (by rw [hsw_len]; exact h) (by omega) (fun k k0 k1 e => ?_) (fun k k0 k1 e j0 => ?_)
      · rw [hsw_get hil hjl, hsw_get hil hjl]
        by_cases e1 : (k - 1) / 2 = i
        · rw [if_pos e1]
          rw [if_neg (by omega)]
          by_cases e2 : k = j
          · rw [if_pos e2]
            exact hle
          · rw [if_neg e2]
            exact hkl k k0 k1 e1
        · rw [if_neg e1, if_neg e]
          by_cases e2 : k = i
          · rw [if_pos e2]
            have := h2 j (by omega) (by omega) hk.2.2 (by omega)
            rw [e2]
            exact this
          · rw [if_neg e2]
            rw [if_neg (by omega)]
            exact h1 k k0 k1 e1
      · rw [hsw_get hil hjl, hsw_get hil hjl]
        rw [if_pos hk.2.2]
        rw [if_neg (by omega), if_neg (by omega)]
        have := h1 k k0 k1 (by omega)
        rw [e] at this
        exact this

theorem Heap.root {C : α → α → Int} (hs : Swo C) {xs : List α} (h : Heap C xs xs.length) {a : α} (ha : xs[0]? = some a) : ∀ (i : Nat) (b : α), xs[i]? = some b → Le C a b := by
  intro i
  induction i using Nat.strongRecOn with
  | ind i ih =>
    intro b hb
    by_cases e : i = 0
    · subst e
      rw [ha] at hb
      injection hb with hb
      subst hb
      exact hs.refl a
    · have hi : i < xs.length := (List.getElem?_eq_some_iff.1 hb).1
      have hp : (i - 1) / 2 < xs.length := by omega
      have ep : xs[(i - 1) / 2]? = some xs[(i - 1) / 2] := List.getElem?_eq_getElem hp
      exact hs.trans (ih _ (by omega) _ ep) (h i (by omega) hi _ _ ep hb)
theorem Heap.first {C : α → α → Int} (hs : Swo C) {xs : List α} (h : Heap C xs xs.length) {a : α} (ha : xs[0]? = some a) : ∀ b ∈ xs, Le C a b := by
  intro b hb
  obtain ⟨i, hi⟩ := List.mem_iff_getElem?.1 hb
  exact h.root hs ha i b hi

theorem hdownL_at (C : α → α → Int) : ∀ (f : Nat) (xs : List α) (i m k : Nat), m ≤ k → m ≤ xs.length → (downL C f xs i m)[k]? = xs[k]?
  | 0, _, _, _, _, _, _ => rfl
  | f + 1, xs, i, m, k, h, hl => by
    rw [downL]
    split
    · rfl
    · rename_i hn
      have hk := hkid_lt (C := C) (xs := xs) (i := i) (m := m) (fun h => hn (.inl h))
      rw [hdownL_at C f _ _ m k h (by rw [hsw_len]; exact hl), hsw_get (by omega) (by omega), if_neg (by omega), if_neg (by omega)]

theorem pop_perm {C : α → α → Int} {xs : List α} {n : Nat} {a : α} (hn : xs.length = n + 1) (ha : xs[0]? = some a) : (a :: popL C xs n).Perm xs := by
  have h1 : (downL C (n + 1) (sw xs 0 n) 0 n).Perm xs := (downL_perm _ _ _ _ _).trans (hsw_perm _ _ _)
  have hl : (downL C (n + 1) (sw xs 0 n) 0 n).length = n + 1 := h1.length_eq.trans hn
  have hlast : (downL C (n + 1) (sw xs 0 n) 0 n)[n]? = some a := by
    rw [hdownL_at C _ _ _ _ _ (Nat.le_refl _) (by rw [hsw_len]; omega), hsw_get (by omega) (by omega)]
    by_cases e : n = 0
    · subst e
      rw [if_pos rfl]
      exact ha
    · rw [if_neg e, if_pos rfl]
      exact ha
  have h2 : downL C (n + 1) (sw xs 0 n) 0 n = popL C xs n ++ [a] := by
    unfold popL
    rw [← List.take_append_drop n (downL C (n + 1) (sw xs 0 n) 0 n)]
    congr 1
    · rw [List.take_append_drop]
    · obtain ⟨h3, h4⟩ := List.getElem?_eq_some_iff.1 hlast
      rw [List.drop_eq_getElem_cons h3, h4, List.drop_eq_nil_of_le (by omega)]
  rw [h2] at h1
  exact List.Perm.trans (List.perm_append_comm (l₁ := [a])) h1
theorem pop_heap {C : α → α → Int} (hs : Swo C) {xs : List α} {n : Nat} (hn : xs.length = n + 1) (h : Heap C xs xs.length) : Heap C (popL C xs n) n := by
  have hd := down_heap hs (n + 1) (sw xs 0 n) 0 n (by rw [hsw_len]; omega) (by omega) (fun k k0 k1 e => by
    rw [hsw_get (by omega) (by omega), hsw_get (by omega) (by omega), if_neg e, if_neg (by omega), if_neg (by omega), if_neg (by omega)]
    exact h k k0 (by omega)) (fun k k0 k1 e i0 => by omega)
  intro i i0 i1
  have := hd i i0 i1
  unfold popL
  rw [List.getElem?_take_of_lt (by omega), List.getElem?_take_of_lt i1]
  exact this
theorem push_heap {C : α → α → Int} (hs : Swo C) {xs : List α} {n : Nat} {e : α} (hn : xs.length = n) (h : Heap C xs n) : Heap C (upL C (n + 1) (xs ++ [e]) n) (n + 1) := by
  have hl : (xs ++ [e]).length = n + 1 := by simp [hn]
  have := up_heap hs (n + 1) (xs ++ [e]) n (by omega) (by omega) (fun i i0 i1 e1 => by
    rw [List.getElem?_append_left (by omega), List.getElem?_append_left (by omega)]
    exact h i i0 (by omega)) (fun i i0 i1 e1 _ => by omega)
  rwa [hl] at this

/-- what is due, and what is left -/
def dueG (at_ : α → Int) (C : α → α → Int) : Nat → List α → Int → List α → List α × List α
  | 0, xs, _, out => (out, xs)
  | f + 1, xs, bef, out => match xs[0]? with
    | none => (out, xs)
    | some a => if at_ a < bef then dueG at_ C f (popL C xs (xs.length - 1)) bef (out ++ [a]) else (out, xs)
theorem popL_length {C : α → α → Int} {xs : List α} {n : Nat} (h : xs.length = n + 1) : (popL C xs n).length = n := by
  unfold popL
  rw [List.length_take, (downL_perm _ _ _ _ _).length_eq, hsw_len, h]
  omega
theorem due_law {at_ : α → Int} {C : α → α → Int} (hs : Swo C) (hat : ∀ a b, Le C a b → at_ a ≤ at_ b) (bef : Int) : ∀ (f : Nat) (xs out : List α), xs.length < f → Heap C xs xs.length →
    ∃ mid, (dueG at_ C f xs bef out).1 = out ++ mid ∧ (mid ++ (dueG at_ C f xs bef out).2).Perm xs ∧ mid.Pairwise (Le C) ∧ (∀ a ∈ mid, at_ a < bef) ∧ (∀ b ∈ (dueG at_ C f xs bef out).2, bef ≤ at_ b) ∧
      Heap C (dueG at_ C f xs bef out).2 (dueG at_ C f xs bef out).2.length
  | 0, xs, out, h, _ => by omega
  | f + 1, xs, out, h, hh => by
    rw [dueG]
    cases hx : xs[0]? with
    | none =>
      have : xs = [] := by
        cases xs with
        | nil => rfl
        | cons a l => simp at hx
      subst this
      exact ⟨[], by simp, by simp, List.Pairwise.nil, by simp, by simp, hh⟩
    | some a =>
      simp only
      have hn : xs.length = (xs.length - 1) + 1 := by
        have := (List.getElem?_eq_some_iff.1 hx).1
        omega
      split
      · rename_i hlt
        have hp := pop_perm (C := C) hn hx
        have hfst := hh.first hs hx
        obtain ⟨mid, h1, h2, h3, h4, h5, h6⟩ := due_law hs hat bef f (popL C xs (xs.length - 1)) (out ++ [a]) (by rw [popL_length hn]; omega) (by rw [popL_length hn]; exact pop_heap hs hn hh)
        refine ⟨a :: mid, by rw [h1]; simp, ?_, ?_, ?_, h5, h6⟩
        · exact ((List.Perm.cons a h2).trans hp)
        · refine List.Pairwise.cons (fun b hb => hfst b ?_) h3
          exact hp.mem_iff.1 (List.mem_cons_of_mem _ (h2.mem_iff.1 (List.mem_append_left _ hb)))
        · intro b hb
          rcases List.mem_cons.1 hb with rfl | hb
          · exact hlt
          · exact h4 b hb
      · rename_i hlt
        refine ⟨[], by simp, by simp, List.Pairwise.nil, by simp, ?_, hh⟩
        intro b hb
        have := hat a b (hh.first hs hx b hb)
        omega
end Go.Proofs.YtebacmmfjadalaaGreat

namespace Go.Proofs.YtebacmmfjadalaaGreat
variable {α : Type}

/-- in order from a to b -/
def Srt (C : α → α → Int) (xs : List α) (a b : Nat) : Prop := ∀ i k, a ≤ i → i < k → k < b → LeO C xs[i]? xs[k]?
/-- the places from a to b have been shuffled -/
structure Shuf (xs ys : List α) (a b : Nat) : Prop where
  perm : ys.Perm xs
  out : ∀ i, ¬ (a ≤ i ∧ i < b) → ys[i]? = xs[i]?
  mem : ∀ i, a ≤ i → i < b → ∃ k, a ≤ k ∧ k < b ∧ ys[i]? = xs[k]?
theorem Shuf.len {xs ys : List α} {a b : Nat} (h : Shuf xs ys a b) : ys.length = xs.length := h.perm.length_eq
theorem Shuf.refl (xs : List α) (a b : Nat) : Shuf xs xs a b := ⟨List.Perm.refl _, fun _ _ => rfl, fun i h1 h2 => ⟨i, h1, h2, rfl⟩⟩
theorem Shuf.trans {xs ys zs : List α} {a b : Nat} (h : Shuf xs ys a b) (k : Shuf ys zs a b) : Shuf xs zs a b :=
  ⟨k.perm.trans h.perm, fun i hi => (k.out i hi).trans (h.out i hi), fun i h1 h2 => by
    obtain ⟨j, j1, j2, j3⟩ := k.mem i h1 h2
    obtain ⟨l, l1, l2, l3⟩ := h.mem j j1 j2
    exact ⟨l, l1, l2, j3.trans l3⟩⟩
theorem Shuf.mono {xs ys : List α} {a b a' b' : Nat} (h : Shuf xs ys a b) (ha : a' ≤ a) (hb : b ≤ b') : Shuf xs ys a' b' :=
  ⟨h.perm, fun i hi => h.out i (fun q => hi ⟨by omega, by omega⟩), fun i h1 h2 => by
    by_cases q : a ≤ i ∧ i < b
    · obtain ⟨k, k1, k2, k3⟩ := h.mem i q.1 q.2
      exact ⟨k, by omega, by omega, k3⟩
    · exact ⟨i, h1, h2, h.out i q⟩⟩
theorem Shuf.sw {xs : List α} {a b i k : Nat} (hi : a ≤ i) (hi2 : i < b) (hk : a ≤ k) (hk2 : k < b) (hl : b ≤ xs.length) : Shuf xs (sw xs i k) a b :=
  ⟨hsw_perm _ _ _, fun m hm => by rw [hsw_get (by omega) (by omega), if_neg (by rintro rfl; exact hm ⟨hi, hi2⟩), if_neg (by rintro rfl; exact hm ⟨hk, hk2⟩)], fun m h1 h2 => by
    rw [hsw_get (by omega) (by omega)]
    by_cases e1 : m = i
    · rw [if_pos e1]; exact ⟨k, hk, hk2, rfl⟩
    · rw [if_neg e1]
      by_cases e2 : m = k
      · rw [if_pos e2]; exact ⟨i, hi, hi2, rfl⟩
      · rw [if_neg e2]; exact ⟨m, h1, h2, rfl⟩⟩
/-- what lies elsewhere stays in order -/
theorem Srt.shuf {C : α → α → Int} {xs ys : List α} {a b c d : Nat} (h : Srt C xs c d) (k : Shuf xs ys a b) (hd : d ≤ a ∨ b ≤ c) : Srt C ys c d := by
  intro i j h1 h2 h3
  rw [k.out i (by omega), k.out j (by omega)]
  exact h i j h1 h2 h3
theorem Srt.sub {C : α → α → Int} {xs : List α} {a b c d : Nat} (h : Srt C xs a b) (h1 : a ≤ c) (h2 : d ≤ b) : Srt C xs c d := fun i k e1 e2 e3 => h i k (by omega) e2 (by omega)
theorem Srt.one (C : α → α → Int) (xs : List α) {a b : Nat} (h : b ≤ a + 1) : Srt C xs a b := fun i k h1 h2 h3 => by omega

/-- all in order from a to m, but for the one at j, which stands ahead of all behind it -/
def InsSt (C : α → α → Int) (xs : List α) (a m j : Nat) : Prop := ∀ i k, a ≤ i → i < k → k < m → k ≠ j → LeO C xs[i]? xs[k]?
theorem ins_start {C : α → α → Int} {xs : List α} {a j : Nat} (h : Srt C xs a j) : InsSt C xs a (j + 1) j := fun i k h1 h2 h3 h4 => h i k h1 h2 (by omega)
theorem ins_step {C : α → α → Int} (hs : Swo C) {xs : List α} {a m q : Nat} (h : InsSt C xs a m (q + 1)) (ha : a ≤ q) (hm : q + 1 < m) (hl : m ≤ xs.length) (hlt : ltAt C xs (q + 1) q = true) : InsSt C (sw xs (q + 1) q) a m q := by
  intro i k h1 h2 h3 h4
  rw [hsw_get (by omega) (by omega), hsw_get (by omega) (by omega)]
  have hle := hlt_true hs hlt
  by_cases e1 : k = q + 1
  · rw [if_pos e1]
    by_cases e2 : i = q
    · rw [if_neg (by omega), if_pos e2]
      exact hle
    · rw [if_neg (by omega), if_neg e2]
      exact h i q h1 (by omega) (by omega) (by omega)
  · rw [if_neg e1, if_neg h4]
    by_cases e2 : i = q + 1
    · rw [if_pos e2]
      exact h q k ha (by omega) h3 e1
    · rw [if_neg e2]
      by_cases e3 : i = q
      · rw [if_pos e3]
        exact h (q + 1) k (by omega) (by omega) h3 e1
      · rw [if_neg e3]
        exact h i k h1 h2 h3 e1
theorem ins_stop {C : α → α → Int} (hs : Swo C) {xs : List α} {a m j : Nat} (h : InsSt C xs a m j) (hl : m ≤ xs.length) (hj : a ≤ j) (hst : j = a ∨ ltAt C xs j (j - 1) = false) : Srt C xs a m := by
  intro i k h1 h2 h3
  by_cases e : k = j
  · subst e
    rcases hst with hst | hst
    · omega
    · have hle := hlt_iff hst
      by_cases e2 : i = k - 1
      · subst e2; exact hle
      · have e3 : xs[k - 1]? = some (xs[k - 1]'(by omega)) := List.getElem?_eq_getElem (by omega)
        exact hs.transO e3 (h i (k - 1) h1 (by omega) (by omega) (by omega)) hle
  · exact h i k h1 h2 h3 e

/-- k places from a on and from b on have changed places -/
def swf (xs : List α) (a b k t : Nat) : Option α := if a ≤ t ∧ t < a + k then xs[t - a + b]? else if b ≤ t ∧ t < b + k then xs[t - b + a]? else xs[t]?
theorem swf1 {xs : List α} {a b k t u : Nat} (h1 : a ≤ t) (h2 : t < a + k) (h3 : u = t - a + b) : swf xs a b k t = xs[u]? := by unfold swf; rw [if_pos ⟨h1, h2⟩, h3]
theorem swf2 {xs : List α} {a b k t u : Nat} (h1 : b ≤ t) (h2 : t < b + k) (h0 : ¬ (a ≤ t ∧ t < a + k)) (h3 : u = t - b + a) : swf xs a b k t = xs[u]? := by unfold swf; rw [if_neg h0, if_pos ⟨h1, h2⟩, h3]
theorem swf3 {xs : List α} {a b k t u : Nat} (h1 : ¬ (a ≤ t ∧ t < a + k)) (h2 : ¬ (b ≤ t ∧ t < b + k)) (h3 : u = t) : swf xs a b k t = xs[u]? := by unfold swf; rw [if_neg h1, if_neg h2, h3]
def SwR (xs ys : List α) (a b k : Nat) : Prop := ys.Perm xs ∧ ∀ t, ys[t]? = swf xs a b k t
theorem swr_start (xs : List α) (a b : Nat) : SwR xs xs a b 0 := ⟨List.Perm.refl _, fun t => (swf3 (by omega) (by omega) rfl).symm⟩
theorem swr_step {xs ys : List α} {a b k : Nat} (h : SwR xs ys a b k) (hab : a + k < b) (hl : b + k < xs.length) : SwR xs (sw ys (a + k) (b + k)) a b (k + 1) := by
  have hly : ys.length = xs.length := h.1.length_eq
  refine ⟨(hsw_perm _ _ _).trans h.1, fun t => ?_⟩
  rw [hsw_get (by omega) (by omega)]
  by_cases e1 : t = a + k
  · subst e1
    rw [if_pos rfl, h.2, swf3 (u := b + k) (by omega) (by omega) rfl, swf1 (u := b + k) (by omega) (by omega) (by omega)]
  · rw [if_neg e1]
    by_cases e2 : t = b + k
    · subst e2
      rw [if_pos rfl, h.2, swf3 (u := a + k) (by omega) (by omega) rfl, swf2 (u := a + k) (by omega) (by omega) (by omega) (by omega)]
    · rw [if_neg e2, h.2]
      by_cases e3 : a ≤ t ∧ t < a + k
      · rw [swf1 e3.1 e3.2 rfl, swf1 (u := t - a + b) (by omega) (by omega) rfl]
      · by_cases e4 : b ≤ t ∧ t < b + k
        · rw [swf2 e4.1 e4.2 e3 rfl, swf2 (u := t - b + a) (by omega) (by omega) (by omega) rfl]
        · rw [swf3 e3 e4 rfl, swf3 (by omega) (by omega) rfl]

/-- the parts from a to m and from m to b changed about -/
def rotf (xs : List α) (a m b t : Nat) : Option α := if a ≤ t ∧ t < a + (b - m) then xs[t + (m - a)]? else if a + (b - m) ≤ t ∧ t < b then xs[t - (b - m)]? else xs[t]?
theorem rotf1 {xs : List α} {a m b t u : Nat} (h1 : a ≤ t) (h2 : t < a + (b - m)) (h3 : u = t + (m - a)) : rotf xs a m b t = xs[u]? := by unfold rotf; rw [if_pos ⟨h1, h2⟩, h3]
theorem rotf2 {xs : List α} {a m b t u : Nat} (h1 : a + (b - m) ≤ t) (h2 : t < b) (h3 : u = t - (b - m)) : rotf xs a m b t = xs[u]? := by unfold rotf; rw [if_neg (by omega), if_pos ⟨h1, h2⟩, h3]
theorem rotf3 {xs : List α} {a m b t u : Nat} (h1 : ¬ (a ≤ t ∧ t < a + (b - m))) (h2 : ¬ (a + (b - m) ≤ t ∧ t < b)) (h3 : u = t) : rotf xs a m b t = xs[u]? := by unfold rotf; rw [if_neg h1, if_neg h2, h3]
def Rot (xs ys : List α) (a m b : Nat) : Prop := ys.Perm xs ∧ ∀ t, ys[t]? = rotf xs a m b t
theorem rot_left {xs ys zs : List α} {m i j : Nat} (hi : i ≤ m) (hj : 0 < j) (hij : j < i) (h : SwR xs ys (m - i) m j) (k : Rot ys zs (m - (i - j)) m (m + j)) : Rot xs zs (m - i) m (m + j) := by
  refine ⟨k.1.trans h.1, fun t => ?_⟩
  rw [k.2]
  by_cases c1 : m - i ≤ t ∧ t < m - i + j
  · rw [rotf3 (u := t) (by omega) (by omega) rfl, h.2, swf1 (u := t + i) (by omega) (by omega) (by omega), rotf1 (u := t + i) (by omega) (by omega) (by omega)]
  · by_cases c2 : m - (i - j) ≤ t ∧ t < m - (i - j) + j
    · rw [rotf1 (u := t + (i - j)) (by omega) (by omega) (by omega), h.2, swf2 (u := t - j) (by omega) (by omega) (by omega) (by omega), rotf2 (u := t - j) (by omega) (by omega) (by omega)]
    · by_cases c3 : m - (i - j) + j ≤ t ∧ t < m + j
      · rw [rotf2 (u := t - j) (by omega) (by omega) (by omega), h.2, swf3 (u := t - j) (by omega) (by omega) rfl, rotf2 (u := t - j) (by omega) (by omega) (by omega)]
      · rw [rotf3 (u := t) (by omega) (by omega) rfl, h.2, swf3 (u := t) (by omega) (by omega) rfl, rotf3 (u := t) (by omega) (by omega) rfl]
theorem rot_right {xs ys zs : List α} {m i j : Nat} (hi : i ≤ m) (h0 : 0 < i) (hij : i < j) (h : SwR xs ys (m - i) (m + j - i) i) (k : Rot ys zs (m - i) m (m + (j - i))) : Rot xs zs (m - i) m (m + j) := by
  refine ⟨k.1.trans h.1, fun t => ?_⟩
  rw [k.2]
  by_cases c1 : m - i ≤ t ∧ t < m - i + (j - i)
  · rw [rotf1 (u := t + i) (by omega) (by omega) (by omega), h.2, swf3 (u := t + i) (by omega) (by omega) rfl, rotf1 (u := t + i) (by omega) (by omega) (by omega)]
  · by_cases c2 : m - i + (j - i) ≤ t ∧ t < m + (j - i)
    · rw [rotf2 (u := t - (j - i)) (by omega) (by omega) (by omega), h.2, swf1 (u := t + i) (by omega) (by omega) (by omega)]
      by_cases c4 : t < m - i + j
      · rw [rotf1 (u := t + i) (by omega) (by omega) (by omega)]
      · omega
    · by_cases c3 : m + (j - i) ≤ t ∧ t < m + j
      · rw [rotf3 (u := t) (by omega) (by omega) rfl, h.2, swf2 (u := t - j) (by omega) (by omega) (by omega) (by omega), rotf2 (u := t - j) (by omega) (by omega) (by omega)]
      · rw [rotf3 (u := t) (by omega) (by omega) rfl, h.2, swf3 (u := t) (by omega) (by omega) rfl, rotf3 (u := t) (by omega) (by omega) rfl]
theorem rot_same {xs ys : List α} {m i : Nat} (hi : i ≤ m) (h : SwR xs ys (m - i) m i) : Rot xs ys (m - i) m (m + i) := by
  refine ⟨h.1, fun t => ?_⟩
  rw [h.2]
  by_cases c1 : m - i ≤ t ∧ t < m - i + i
  · rw [swf1 (u := t + i) (by omega) (by omega) (by omega), rotf1 (u := t + i) (by omega) (by omega) (by omega)]
  · by_cases c2 : m ≤ t ∧ t < m + i
    · rw [swf2 (u := t - i) (by omega) (by omega) (by omega) (by omega), rotf2 (u := t - i) (by omega) (by omega) (by omega)]
    · rw [swf3 (u := t) (by omega) (by omega) rfl, rotf3 (u := t) (by omega) (by omega) rfl]
theorem Rot.shuf {xs ys : List α} {a m b : Nat} (h : Rot xs ys a m b) (h1 : a ≤ m) (h2 : m ≤ b) : Shuf xs ys a b :=
  ⟨h.1, fun i hi => by rw [h.2, rotf3 (u := i) (by omega) (by omega) rfl], fun i i1 i2 => by
    rw [h.2]
    by_cases c : i < a + (b - m)
    · exact ⟨i + (m - a), by omega, by omega, rotf1 i1 c rfl⟩
    · exact ⟨i - (b - m), by omega, by omega, rotf2 (by omega) (by omega) rfl⟩⟩

/-- two parts in order, the second behind the first -/
theorem srt_join {C : α → α → Int} {xs : List α} {a m b : Nat} (h1 : Srt C xs a m) (h2 : Srt C xs m b) (h3 : ∀ i k, a ≤ i → i < m → m ≤ k → k < b → LeO C xs[i]? xs[k]?) : Srt C xs a b := by
  intro i k i1 i2 i3
  by_cases c1 : k < m
  · exact h1 i k i1 i2 c1
  · by_cases c2 : i < m
    · exact h3 i k i1 c2 (by omega) i3
    · exact h2 i k (by omega) i2 i3
/-- shuffled within two parts of which all of one stand ahead of all of the other -/
theorem ahead_shuf {C : α → α → Int} {xs ys : List α} {a m b : Nat} (h : ∀ i k, a ≤ i → i < m → m ≤ k → k < b → LeO C xs[i]? xs[k]?) (s : Shuf xs ys a m ∨ Shuf xs ys m b) : ∀ i k, a ≤ i → i < m → m ≤ k → k < b → LeO C ys[i]? ys[k]? := by
  intro i k h1 h2 h3 h4
  rcases s with s | s
  · rw [s.out k (by omega)]
    obtain ⟨j, j1, j2, j3⟩ := s.mem i h1 h2
    rw [j3]
    exact h j k j1 j2 h3 h4
  · rw [s.out i (by omega)]
    obtain ⟨j, j1, j2, j3⟩ := s.mem k h3 h4
    rw [j3]
    exact h i j h1 h2 j1 j2

/-- where the merge parts: all that the search finds at st -/
structure Part (C : α → α → Int) (xs : List α) (a m b mid st : Nat) : Prop where
  lo : a ≤ st
  hi : st ≤ m
  el : m ≤ mid + m - st
  eh : mid + m - st ≤ b
  fore : ∀ i k, a ≤ i → i < st → mid + m - st ≤ k → k < b → LeO C xs[i]? xs[k]?
  back : ∀ i k, st ≤ i → i < m → m ≤ k → k < mid + m - st → LeO C xs[k]? xs[i]?
theorem part_rot {C : α → α → Int} {xs ys : List α} {a m b mid st : Nat} (h1 : Srt C xs a m) (h2 : Srt C xs m b) (p : Part C xs a m b mid st) (hm : a ≤ mid) (r : Rot xs ys st m (mid + m - st)) :
    (∀ i k, a ≤ i → i < mid → mid ≤ k → k < b → LeO C ys[i]? ys[k]?) ∧ Srt C ys a st ∧ Srt C ys st mid ∧ Srt C ys mid (mid + m - st) ∧ Srt C ys (mid + m - st) b := by
  obtain ⟨p1, p2, p3, p4, p5, p6⟩ := p
  have q : st ≤ mid := by omega
  have g1 : ∀ t, t < st → ys[t]? = xs[t]? := fun t ht => by rw [r.2, rotf3 (u := t) (by omega) (by omega) rfl]
  have g2 : ∀ t, st ≤ t → t < mid → ys[t]? = xs[t + (m - st)]? := fun t h1 h2 => by rw [r.2, rotf1 (u := t + (m - st)) (by omega) (by omega) rfl]
  have g3 : ∀ t, mid ≤ t → t < mid + m - st → ys[t]? = xs[t - (mid - st)]? := fun t h1 h2 => by rw [r.2, rotf2 (u := t - (mid - st)) (by omega) (by omega) (by omega)]
  have g4 : ∀ t, mid + m - st ≤ t → ys[t]? = xs[t]? := fun t ht => by rw [r.2, rotf3 (u := t) (by omega) (by omega) rfl]
  refine ⟨fun i k i1 i2 i3 i4 => ?_, fun i k i1 i2 i3 => ?_, fun i k i1 i2 i3 => ?_, fun i k i1 i2 i3 => ?_, fun i k i1 i2 i3 => ?_⟩
  · by_cases c1 : i < st
    · rw [g1 i c1]
      by_cases c2 : k < mid + m - st
      · rw [g3 k i3 c2]
        exact h1 _ _ i1 (by omega) (by omega)
      · rw [g4 k (by omega)]
        exact p5 i k i1 c1 (by omega) i4
    · rw [g2 i (by omega) i2]
      by_cases c2 : k < mid + m - st
      · rw [g3 k i3 c2]
        exact p6 _ _ (by omega) (by omega) (by omega) (by omega)
      · rw [g4 k (by omega)]
        exact h2 _ _ (by omega) (by omega) (by omega)
  · rw [g1 i (by omega), g1 k (by omega)]
    exact h1 i k i1 i2 (by omega)
  · rw [g2 i i1 (by omega), g2 k (by omega) i3]
    exact h2 _ _ (by omega) (by omega) (by omega)
  · rw [g3 i i1 (by omega), g3 k (by omega) i3]
    exact h1 _ _ (by omega) (by omega) (by omega)
  · rw [g4 i i1, g4 k (by omega)]
    exact h2 _ _ (by omega) (by omega) (by omega)

/-- the search for the place: all below st stand at or ahead of their partners, those from r on do not -/
structure Bs (C : α → α → Int) (xs : List α) (p s0 r0 s r : Nat) : Prop where
  l : s0 ≤ s
  h : s ≤ r
  u : r ≤ r0
  yes : s0 < s → ltAt C xs (p - (s - 1)) (s - 1) = false
  no : r < r0 → ltAt C xs (p - r) r = true
theorem bs_part {C : α → α → Int} (hs : Swo C) {xs : List α} {a m b mid s0 r0 st : Nat} (h1 : Srt C xs a m) (h2 : Srt C xs m b) (hl : b ≤ xs.length) (ham : a < m) (hmb : m < b) (hmid : mid = (a + b) / 2)
    (h0 : (mid < m ∧ s0 = mid + m - b ∧ r0 = mid) ∨ (m ≤ mid ∧ s0 = a ∧ r0 = m)) (p : Bs C xs (mid + m - 1) s0 r0 st st) : Part C xs a m b mid st := by
  obtain ⟨p1, -, p3, p4, p5⟩ := p
  have hb : a ≤ st ∧ st ≤ m ∧ m ≤ mid + m - st ∧ mid + m - st ≤ b := by omega
  refine ⟨hb.1, hb.2.1, hb.2.2.1, hb.2.2.2, fun i k i1 i2 i3 i4 => ?_, fun i k i1 i2 i3 i4 => ?_⟩
  · by_cases c : s0 < st
    · have hle := hlt_iff (p4 c)
      have e : mid + m - 1 - (st - 1) = mid + m - st := by omega
      rw [e] at hle
      have y1 : xs[st - 1]? = some (xs[st - 1]'(by omega)) := List.getElem?_eq_getElem (by omega)
      have y2 : xs[mid + m - st]? = some (xs[mid + m - st]'(by omega)) := List.getElem?_eq_getElem (by omega)
      have z1 : LeO C xs[i]? xs[st - 1]? := by
        by_cases e1 : i = st - 1
        · subst e1
          intro x y hx hy
          rw [hx] at hy
          injection hy with hy
          subst hy
          exact hs.refl x
        · exact h1 _ _ i1 (by omega) (by omega)
      have z2 : LeO C xs[mid + m - st]? xs[k]? := by
        by_cases e1 : k = mid + m - st
        · subst e1
          intro x y hx hy
          rw [hx] at hy
          injection hy with hy
          subst hy
          exact hs.refl x
        · exact h2 _ _ (by omega) (by omega) (by omega)
      exact hs.transO y1 z1 (hs.transO y2 hle z2)
    · omega
  · by_cases c : st < r0
    · have hle := hlt_true hs (p5 c)
      have y1 : xs[st]? = some (xs[st]'(by omega)) := List.getElem?_eq_getElem (by omega)
      have y2 : xs[mid + m - 1 - st]? = some (xs[mid + m - 1 - st]'(by omega)) := List.getElem?_eq_getElem (by omega)
      have z1 : LeO C xs[k]? xs[mid + m - 1 - st]? := by
        by_cases e1 : k = mid + m - 1 - st
        · subst e1
          intro x y hx hy
          rw [hx] at hy
          injection hy with hy
          subst hy
          exact hs.refl x
        · exact h2 _ _ i3 (by omega) (by omega)
      have z2 : LeO C xs[st]? xs[i]? := by
        by_cases e1 : i = st
        · subst e1
          intro x y hx hy
          rw [hx] at hy
          injection hy with hy
          subst hy
          exact hs.refl x
        · exact h1 _ _ (by omega) (by omega) (by omega)
      exact hs.transO y2 z1 (hs.transO y1 hle z2)
    · omega

theorem leO_self {C : α → α → Int} (hs : Swo C) (x : Option α) : LeO C x x := by
  intro a b ha hb
  rw [ha] at hb
  injection hb with hb
  subst hb
  exact hs.refl a
/-- the search for the place of the one at a among those from m to b -/
structure B1 (C : α → α → Int) (xs : List α) (a m b i j : Nat) : Prop where
  l : m ≤ i
  h : i ≤ j
  u : j ≤ b
  yes : m < i → ltAt C xs (i - 1) a = true
  no : j < b → ltAt C xs j a = false
theorem base1 {C : α → α → Int} (hs : Swo C) {xs ys : List α} {a b i : Nat} (h2 : Srt C xs (a + 1) b) (hl : b ≤ xs.length) (p : B1 C xs a (a + 1) b i i) (r : Rot xs ys a (a + 1) i) : Srt C ys a b := by
  obtain ⟨p1, -, p3, p4, p5⟩ := p
  have g1 : ∀ t, a ≤ t → t < i - 1 → ys[t]? = xs[t + 1]? := fun t e1 e2 => by rw [r.2, rotf1 (u := t + 1) (by omega) (by omega) (by omega)]
  have g2 : ys[i - 1]? = xs[a]? := by rw [r.2, rotf2 (u := a) (by omega) (by omega) (by omega)]
  have g3 : ∀ t, i ≤ t → ys[t]? = xs[t]? := fun t e1 => by rw [r.2, rotf3 (u := t) (by omega) (by omega) rfl]
  have hle : ∀ t, a + 1 ≤ t → t < i → LeO C xs[t]? xs[a]? := fun t e1 e2 => by
    have h := hlt_true hs (p4 (by omega))
    by_cases c : t = i - 1
    · rw [c]; exact h
    · have y : xs[i - 1]? = some (xs[i - 1]'(by omega)) := List.getElem?_eq_getElem (by omega)
      exact hs.transO y (h2 _ _ e1 (by omega) (by omega)) h
  have hge : ∀ t, i ≤ t → t < b → LeO C xs[a]? xs[t]? := fun t e1 e2 => by
    have h := hlt_iff (p5 (by omega))
    by_cases c : t = i
    · rw [c]; exact h
    · have y : xs[i]? = some (xs[i]'(by omega)) := List.getElem?_eq_getElem (by omega)
      exact hs.transO y h (h2 _ _ (by omega) (by omega) e2)
  intro s t e1 e2 e3
  by_cases c1 : s < i - 1
  · rw [g1 s e1 c1]
    by_cases c2 : t < i - 1
    · rw [g1 t (by omega) c2]
      exact h2 _ _ (by omega) (by omega) (by omega)
    · by_cases c3 : t = i - 1
      · rw [c3, g2]
        exact hle _ (by omega) (by omega)
      · rw [g3 t (by omega)]
        exact h2 _ _ (by omega) (by omega) e3
  · by_cases c2 : s = i - 1
    · rw [c2, g2, g3 t (by omega)]
      exact hge _ (by omega) e3
    · rw [g3 s (by omega), g3 t (by omega)]
      exact h2 _ _ (by omega) (by omega) e3
theorem bub1_start (xs : List α) (a : Nat) : Rot xs xs a (a + 1) (a + 1) := ⟨List.Perm.refl _, fun t => by
  by_cases c : t = a
  · rw [rotf2 (u := t) (by omega) (by omega) (by omega)]
  · rw [rotf3 (u := t) (by omega) (by omega) rfl]⟩
theorem bub1_step {xs ys : List α} {a k : Nat} (h : Rot xs ys a (a + 1) (k + 1)) (ha : a ≤ k) (hl : k + 1 < xs.length) : Rot xs (sw ys k (k + 1)) a (a + 1) (k + 2) := by
  have hly := h.1.length_eq
  refine ⟨(hsw_perm _ _ _).trans h.1, fun t => ?_⟩
  rw [hsw_get (by omega) (by omega)]
  by_cases e1 : t = k
  · subst e1
    rw [if_pos rfl, h.2, rotf3 (u := t + 1) (by omega) (by omega) rfl, rotf1 (u := t + 1) (by omega) (by omega) (by omega)]
  · rw [if_neg e1]
    by_cases e2 : t = k + 1
    · subst e2
      rw [if_pos rfl, h.2, rotf2 (u := a) (by omega) (by omega) (by omega), rotf2 (u := a) (by omega) (by omega) (by omega)]
    · rw [if_neg e2, h.2]
      by_cases e3 : a ≤ t ∧ t < k
      · rw [rotf1 (u := t + 1) (by omega) (by omega) (by omega), rotf1 (u := t + 1) (by omega) (by omega) (by omega)]
      · rw [rotf3 (u := t) (by omega) (by omega) rfl, rotf3 (u := t) (by omega) (by omega) rfl]
/-- the search for the place of the one at m among those from a to m -/
structure B2 (C : α → α → Int) (xs : List α) (a m i j : Nat) : Prop where
  l : a ≤ i
  h : i ≤ j
  u : j ≤ m
  yes : a < i → ltAt C xs m (i - 1) = false
  no : j < m → ltAt C xs m j = true
theorem base2 {C : α → α → Int} (hs : Swo C) {xs ys : List α} {a m i : Nat} (h1 : Srt C xs a m) (hl : m < xs.length) (p : B2 C xs a m i i) (r : Rot xs ys i m (m + 1)) : Srt C ys a (m + 1) := by
  obtain ⟨p1, -, p3, p4, p5⟩ := p
  have g1 : ∀ t, t < i → ys[t]? = xs[t]? := fun t e1 => by rw [r.2, rotf3 (u := t) (by omega) (by omega) rfl]
  have g2 : ys[i]? = xs[m]? := by rw [r.2, rotf1 (u := m) (by omega) (by omega) (by omega)]
  have g3 : ∀ t, i < t → t ≤ m → ys[t]? = xs[t - 1]? := fun t e1 e2 => by rw [r.2, rotf2 (u := t - 1) (by omega) (by omega) (by omega)]
  have hle : ∀ t, a ≤ t → t < i → LeO C xs[t]? xs[m]? := fun t e1 e2 => by
    have h := hlt_iff (p4 (by omega))
    by_cases c : t = i - 1
    · rw [c]; exact h
    · have y : xs[i - 1]? = some (xs[i - 1]'(by omega)) := List.getElem?_eq_getElem (by omega)
      exact hs.transO y (h1 _ _ e1 (by omega) (by omega)) h
  have hge : ∀ t, i ≤ t → t < m → LeO C xs[m]? xs[t]? := fun t e1 e2 => by
    have h := hlt_true hs (p5 (by omega))
    by_cases c : t = i
    · rw [c]; exact h
    · have y : xs[i]? = some (xs[i]'(by omega)) := List.getElem?_eq_getElem (by omega)
      exact hs.transO y h (h1 _ _ (by omega) (by omega) e2)
  intro s t e1 e2 e3
  by_cases c1 : s < i
  · rw [g1 s c1]
    by_cases c2 : t < i
    · rw [g1 t c2]
      exact h1 _ _ e1 e2 (by omega)
    · by_cases c3 : t = i
      · rw [c3, g2]
        exact hle _ e1 c1
      · rw [g3 t (by omega) (by omega)]
        exact h1 _ _ e1 (by omega) (by omega)
  · by_cases c2 : s = i
    · rw [c2, g2, g3 t (by omega) (by omega)]
      exact hge _ (by omega) (by omega)
    · rw [g3 s (by omega) (by omega), g3 t (by omega) (by omega)]
      exact h1 _ _ (by omega) (by omega) (by omega)
theorem bub2_start (xs : List α) (m : Nat) : Rot xs xs m m (m + 1) := ⟨List.Perm.refl _, fun t => by
  by_cases c : t = m
  · rw [rotf1 (u := t) (by omega) (by omega) (by omega)]
  · rw [rotf3 (u := t) (by omega) (by omega) rfl]⟩
theorem bub2_step {xs ys : List α} {m k : Nat} (h : Rot xs ys (k + 1) m (m + 1)) (ha : k + 1 ≤ m) (hl : m < xs.length) : Rot xs (sw ys (k + 1) k) k m (m + 1) := by
  have hly := h.1.length_eq
  refine ⟨(hsw_perm _ _ _).trans h.1, fun t => ?_⟩
  rw [hsw_get (by omega) (by omega)]
  by_cases e1 : t = k + 1
  · subst e1
    rw [if_pos rfl, h.2, rotf3 (u := k) (by omega) (by omega) rfl, rotf2 (u := k) (by omega) (by omega) (by omega)]
  · rw [if_neg e1]
    by_cases e2 : t = k
    · subst e2
      rw [if_pos rfl, h.2, rotf1 (u := m) (by omega) (by omega) (by omega), rotf1 (u := m) (by omega) (by omega) (by omega)]
    · rw [if_neg e2, h.2]
      by_cases e3 : k + 1 < t ∧ t ≤ m
      · rw [rotf2 (u := t - 1) (by omega) (by omega) (by omega), rotf2 (u := t - 1) (by omega) (by omega) (by omega)]
      · rw [rotf3 (u := t) (by omega) (by omega) rfl, rotf3 (u := t) (by omega) (by omega) rfl]

/-- all blocks of k places are in order -/
def Blk (C : α → α → Int) (xs : List α) (n k : Nat) : Prop := ∀ c, Srt C xs (c * k) (min (c * k + k) n)
/-- the blocks of k that have been merged by twos so far, up to a -/
def Mrg (C : α → α → Int) (xs : List α) (n k d : Nat) : Prop := (∀ c, c < d → Srt C xs (c * (2 * k)) (min (c * (2 * k) + 2 * k) n)) ∧ ∀ c, 2 * d ≤ c → Srt C xs (c * k) (min (c * k + k) n)
theorem mrg_start {C : α → α → Int} {xs : List α} {n k : Nat} (h : Blk C xs n k) : Mrg C xs n k 0 := ⟨fun c hc => by omega, fun c _ => h c⟩
theorem mrg_step {C : α → α → Int} {xs ys : List α} {n k d : Nat} (h : Mrg C xs n k d) (s : Shuf xs ys (d * (2 * k)) (d * (2 * k) + 2 * k)) (q : Srt C ys (d * (2 * k)) (d * (2 * k) + 2 * k)) : Mrg C ys n k (d + 1) := by
  refine ⟨fun c hc => ?_, fun c hc => ?_⟩
  · by_cases e : c = d
    · subst e
      exact q.sub (Nat.le_refl _) (Nat.min_le_left _ _)
    · have hlt : c * (2 * k) + 2 * k ≤ d * (2 * k) := by
        have : (c + 1) * (2 * k) ≤ d * (2 * k) := Nat.mul_le_mul_right _ (by omega)
        rw [Nat.add_mul, Nat.one_mul] at this
        exact this
      exact (h.1 c (by omega)).shuf s (.inl (by omega))
  · have hge : d * (2 * k) + 2 * k ≤ c * k := by
      have : (2 * d + 2) * k ≤ c * k := Nat.mul_le_mul_right _ (by omega)
      rw [Nat.add_mul] at this
      have e : 2 * d * k = d * (2 * k) := by rw [Nat.mul_comm 2 d, Nat.mul_assoc]
      omega
    exact (h.2 c (by omega)).shuf s (.inr hge)
theorem mrg_end {C : α → α → Int} {xs : List α} {n k d : Nat} (h : Mrg C xs n k d) (hn : n ≤ d * (2 * k)) : Blk C xs n (2 * k) := by
  intro c
  by_cases e : c < d
  · exact h.1 c e
  · have : d * (2 * k) ≤ c * (2 * k) := Nat.mul_le_mul_right _ (by omega)
    exact Srt.one C xs (by omega)
theorem mrg_last {C : α → α → Int} {xs : List α} {n k d : Nat} (h : Mrg C xs n k d) (hn : n ≤ d * (2 * k) + 2 * k) (q : Srt C xs (d * (2 * k)) n) : Blk C xs n (2 * k) := by
  intro c
  by_cases e : c < d
  · exact h.1 c e
  · by_cases e2 : c = d
    · subst e2
      exact q.sub (Nat.le_refl _) (Nat.min_le_right _ _)
    · have : (d + 1) * (2 * k) ≤ c * (2 * k) := Nat.mul_le_mul_right _ (by omega)
      rw [Nat.add_mul, Nat.one_mul] at this
      exact Srt.one C xs (by omega)
end Go.Proofs.YtebacmmfjadalaaGreat
