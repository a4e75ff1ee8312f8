/- Plain laws of clocks, whole numbers alone: Unwrap as one formula, the reference candidates as one formula; the time by one clock of another. No condition beside those that stand at each theorem. -/
import Derived.Test.YtebacmmfjadalaaM1
namespace Go.Proofs.Ytebacmmfjadalaa.Ck
/-! Unwrap -/
def unw (last s : Int) : Int := if 2147483648 < (s - last) % 4294967296 then last + (s - last) % 4294967296 - 4294967296 else last + (s - last) % 4294967296
def unwOk (last s : Int) : Bool := inT last && inT (unw last s)
def unwV (last s : Int) : Int := if unwOk last s then unw last s else 0
def unwE (last s : Int) : Int := if unwOk last s then 0 else 1
theorem unwOk_iff {l s : Int} : unwOk l s = true ↔ inT l = true ∧ inT (unw l s) = true := by simp [unwOk]
theorem unw_bd (last s : Int) : last - 2147483648 < unw last s ∧ unw last s ≤ last + 2147483648 := by unfold unw; split <;> omega

/-- what the reference has found behind the candidates below k -/
def bst (last s k : Int) : Int :=
  if k ≤ -2 then 0 else if k ≤ -1 then last - last % 4294967296 + s - 8589934592 else if k ≤ 0 then last - last % 4294967296 + s - 4294967296
  else if k ≤ 1 then (if 2147483648 < s - last % 4294967296 then last - last % 4294967296 + s - 4294967296 else last - last % 4294967296 + s) else unw last s
def nearI (a b : Int) : Int := if a < b then b - a else a - b
def cand (last s k : Int) : Int := (last / 4294967296 + k) * 4294967296 + s
theorem bst_step {last s k : Int} (hs : 0 ≤ s) (hs' : s < 4294967296) (h0 : -2 ≤ k) (h1 : k ≤ 2) :
    bst last s (k + 1) = if k = -2 ∨ nearI (cand last s k) last < nearI (bst last s k) last ∨ nearI (cand last s k) last = nearI (bst last s k) last ∧ bst last s k < cand last s k then cand last s k else bst last s k := by
  rcases (by omega : k = -2 ∨ k = -1 ∨ k = 0 ∨ k = 1 ∨ k = 2) with rfl | rfl | rfl | rfl | rfl
  all_goals simp [bst, unw, cand, nearI]
  all_goals (repeat' split) <;> omega
theorem bst_end (last s : Int) : bst last s 3 = unw last s := by simp [bst]
theorem unw_next {is s : Int} (h0 : -2147483648 < s) (h1 : s < 2147483648) : unw is ((is + s) % 4294967296) = is + s := by unfold unw; split <;> omega

/-! Then -/
theorem red_ediv {n g K E : Int} (hg : 0 < g) : n * (g * K) / (g * E) = n * K / E := by
  rw [show n * (g * K) = g * (n * K) by rw [Int.mul_left_comm]]
  exact Int.mul_ediv_mul_of_pos _ _ hg

theorem then_law {od oc n Nc Dc Nd Dd : Int} (h2 : 1 ≤ Dc) (h3 : 1 ≤ Nd) (h4 : 1 ≤ Dd) :
    (od + (oc + n * Nc / Dc) * Nd / Dd) - (od + oc * Nd / Dd + n * (Nc * Nd) / (Dc * Dd)) ≤ (Nd + Dd - 1) / Dd ∧
    (od + oc * Nd / Dd + n * (Nc * Nd) / (Dc * Dd)) - (od + (oc + n * Nc / Dc) * Nd / Dd) ≤ (Nd + Dd - 1) / Dd := by
  have ev : n * (Nc * Nd) / (Dc * Dd) = (n * Nc * Nd / Dc) / Dd := by
    rw [← Int.mul_assoc, Int.ediv_ediv_of_nonneg (by omega)]
  rw [ev]
  obtain ⟨q1, r1, e1, p1, a1, b1⟩ := fl (n * Nc) Dc (by omega)
  rw [e1, p1]
  have em : (Dc * q1 + r1) * Nd / Dc = q1 * Nd + r1 * Nd / Dc := by
    rw [Int.add_mul, Int.mul_assoc, Int.add_comm, Int.add_mul_ediv_left _ _ (by omega), Int.add_comm]
  rw [em]
  have m0 : 0 ≤ r1 * Nd / Dc := Int.ediv_nonneg (Int.mul_nonneg a1 (by omega)) (by omega)
  have m1 : r1 * Nd / Dc < Nd := by
    apply Int.ediv_lt_of_lt_mul (by omega)
    rw [Int.mul_comm Nd]
    exact Int.mul_lt_mul_of_pos_right b1 (by omega)
  generalize r1 * Nd / Dc = m at m0 m1
  rw [Int.add_mul]
  generalize oc * Nd = A
  generalize q1 * Nd = B
  obtain ⟨a, ra, ea, pa, a2, b2⟩ := fl A Dd (by omega)
  obtain ⟨b, rb, eb, pb, a3, b3⟩ := fl B Dd (by omega)
  obtain ⟨c, rc, ec, pc, a4, b4⟩ := fl (A + B) Dd (by omega)
  obtain ⟨d, rd, ed, pd, a5, b5⟩ := fl (B + m) Dd (by omega)
  obtain ⟨f, rf, ef, pf, a6, b6⟩ := fl (Nd + Dd - 1) Dd (by omega)
  rw [ea, ec, ed, ef]
  have x1 : Dd * c < Dd * (a + b + 2) := by rw [Int.mul_add, Int.mul_add]; omega
  have x2 : Dd * (a + b) < Dd * (c + 1) := by rw [Int.mul_add, Int.mul_add]; omega
  have x3 : Dd * b < Dd * (d + 1) := by rw [Int.mul_add]; omega
  have x4 : Dd * d < Dd * (b + f + 1) := by rw [Int.mul_add, Int.mul_add]; omega
  have x5 : Dd * 0 < Dd * f := by rw [Int.mul_zero]; 
                                  have : Dd * 1 < Dd * (f + 1) := by rw [Int.mul_add]; omega
                                  have := Int.lt_of_mul_lt_mul_left this (by omega)
                                  exact Int.mul_pos (by omega) (by omega)
  have y1 := Int.lt_of_mul_lt_mul_left x1 (by omega)
  have y2 := Int.lt_of_mul_lt_mul_left x2 (by omega)
  have y3 := Int.lt_of_mul_lt_mul_left x3 (by omega)
  have y4 := Int.lt_of_mul_lt_mul_left x4 (by omega)
  have y5 := Int.lt_of_mul_lt_mul_left x5 (by omega)
  omega
end Go.Proofs.Ytebacmmfjadalaa.Ck
