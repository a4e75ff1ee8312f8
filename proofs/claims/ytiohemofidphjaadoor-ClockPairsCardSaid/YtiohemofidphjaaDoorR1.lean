/- Plain laws: a list of words shifted to the left and to the right. No program. -/
import Derived.Test.YtiohemofidphjaaDoorQ9
namespace Go.Proofs.YtiohemofidphjaaDoor.Bg
open Go Go.RowKit

def DigSt (X : Nat) (os : List Nat) (k : Nat) : Prop := val (os.take k) = X % 4294967296 ^ k
theorem dig_start (X : Nat) (os : List Nat) : DigSt X os 0 := by simp [DigSt, val, Nat.mod_one]
theorem dig_step {X k x : Nat} {os : List Nat} (h : DigSt X os k) (hk : k < os.length) (hx : X / 4294967296 ^ k % 4294967296 = x) : DigSt X (os.set k x) (k + 1) := by
  unfold DigSt at *
  rw [val_take_succ', set_take, set_getD hk, h, ← hx, Nat.pow_succ, Nat.mod_mul]
theorem dig_end {X n : Nat} {os : List Nat} (h : DigSt X os n) (hn : os.length = n) (hX : X < 4294967296 ^ n) : val os = X := by
  unfold DigSt at h
  rw [List.take_of_length_le (by omega), Nat.mod_eq_of_lt hX] at h
  exact h

theorem val_drop_two (ws : List Nat) (j : Nat) : val (ws.drop j) = ws.getD j 0 + 4294967296 * ws.getD (j + 1) 0 + 4294967296 * 4294967296 * val (ws.drop (j + 2)) := by
  have step : ∀ j, val (ws.drop j) = ws.getD j 0 + 4294967296 * val (ws.drop (j + 1)) := by
    intro j
    by_cases h : j < ws.length
    · exact val_drop_step ws h
    · rw [List.drop_of_length_le (by omega), List.drop_of_length_le (by omega), List.getD_eq_getElem?_getD, List.getElem?_eq_none (by omega)]
      simp [val]
  rw [step j, step (j + 1), show j + 1 + 1 = j + 2 by omega]
  omega
theorem val_div (ws : List Nat) (hw : W32 ws) (j : Nat) : val ws / 4294967296 ^ j = val (ws.drop j) := by
  by_cases h : j ≤ ws.length
  · have h1 := val_take_drop ws h
    rw [h1, Nat.add_mul_div_left _ _ (Nat.pow_pos (by omega)), Nat.div_eq_of_lt (val_take_lt hw j), Nat.zero_add]
  · rw [List.drop_of_length_le (by omega)]
    refine Nat.div_eq_of_lt (Nat.lt_of_lt_of_le (val_lt hw) (Nat.pow_le_pow_right (by omega) (by omega)))
theorem two32 (s : Nat) (hs : s ≤ 32) : (4294967296 : Nat) = 2 ^ s * 2 ^ (32 - s) := by
  rw [← Nat.pow_add, show s + (32 - s) = 32 by omega]
theorem right_digit {m : List Nat} (hw : W32 m) {q s k : Nat} (hs : s < 32) :
    val m / (4294967296 ^ q * 2 ^ s) / 4294967296 ^ k % 4294967296 = (m.getD (q + k) 0 + 4294967296 * m.getD (q + k + 1) 0) / 2 ^ s % 4294967296 := by
  have e1 : val m / (4294967296 ^ q * 2 ^ s) / 4294967296 ^ k = val (m.drop (q + k)) / 2 ^ s := by
    rw [Nat.div_div_eq_div_mul, Nat.mul_assoc, Nat.mul_comm (2 ^ s), ← Nat.mul_assoc, ← Nat.pow_add, ← Nat.div_div_eq_div_mul, val_div m hw]
  rw [e1, val_drop_two m (q + k)]
  generalize m.getD (q + k) 0 + 4294967296 * m.getD (q + k + 1) 0 = a
  generalize val (m.drop (q + k + 2)) = Z
  have e2 : 4294967296 * 4294967296 * Z = 2 ^ s * (4294967296 * (2 ^ (32 - s) * Z)) := by
    have h := two32 s (by omega)
    calc 4294967296 * 4294967296 * Z = 4294967296 * (4294967296 * Z) := by rw [Nat.mul_assoc]
      _ = (2 ^ s * 2 ^ (32 - s)) * (4294967296 * Z) := by rw [← h]
      _ = 2 ^ s * (4294967296 * (2 ^ (32 - s) * Z)) := by
        rw [Nat.mul_assoc, Nat.mul_left_comm (2 ^ (32 - s)) 4294967296 Z]
  rw [e2, Nat.add_mul_div_left _ _ (Nat.pow_pos (by omega)), Nat.add_mul_mod_self_left]
theorem right_lt {m : List Nat} (hw : W32 m) {q s : Nat} (_hq : q ≤ m.length) : val m / (4294967296 ^ q * 2 ^ s) < 4294967296 ^ (m.length - q) := by
  rw [← Nat.div_div_eq_div_mul, val_div m hw]
  refine Nat.lt_of_le_of_lt (Nat.div_le_self _ _) ?_
  have := val_lt (hw.drop q)
  rwa [List.length_drop] at this
theorem right_zero {m : List Nat} (hw : W32 m) {q s : Nat} (hq : m.length ≤ q) : val m / (4294967296 ^ q * 2 ^ s) = 0 := by
  rw [← Nat.div_div_eq_div_mul, val_div m hw, List.drop_of_length_le hq]
  simp [val]

/-- ahead of word i of m: what stands in os -/
def LeftSt (m : List Nat) (q s : Nat) (os : List Nat) (i : Nat) : Prop :=
  val os = 4294967296 ^ q * 2 ^ s * val (m.take i) ∧ os.getD (q + i) 0 < 2 ^ s ∧ Clear os (q + i + 1)
theorem left_start (m : List Nat) (q s n : Nat) : LeftSt m q s (List.replicate n 0) 0 := by
  refine ⟨by simp [val, val_rep], ?_, Clear.rep _ _⟩
  have := Clear.rep n 0 (q + 0) (by omega)
  rw [this]
  exact Nat.pow_pos (by omega)
theorem left_word {x s : Nat} (hx : x < 4294967296) (hs : s < 32) : x * 2 ^ s < 18446744073709551616 ∧ x * 2 ^ s / 4294967296 < 2 ^ s ∧ x * 2 ^ s / 4294967296 < 4294967296 ∧ ∃ c, x * 2 ^ s % 4294967296 = 2 ^ s * c ∧ 2 ^ s * c + 2 ^ s ≤ 4294967296 := by
  have h1 : x * 2 ^ s < 4294967296 * 2 ^ s := Nat.mul_lt_mul_of_pos_right hx (Nat.pow_pos (by omega))
  have h2 : 2 ^ s ≤ 2 ^ 31 := Nat.pow_le_pow_right (by omega) (by omega)
  have h3 : x * 2 ^ s / 4294967296 < 2 ^ s := Nat.div_lt_of_lt_mul h1
  have h4 := two32 s (by omega)
  refine ⟨by omega, h3, by omega, x % 2 ^ (32 - s), ?_, ?_⟩
  · rw [Nat.mul_comm x]
    conv => lhs; rw [h4]
    rw [Nat.mul_mod_mul_left]
  · have h5 : x % 2 ^ (32 - s) + 1 ≤ 2 ^ (32 - s) := Nat.mod_lt _ (Nat.pow_pos (by omega))
    have h6 := Nat.mul_le_mul_left (2 ^ s) h5
    rw [← h4, Nat.mul_add, Nat.mul_one] at h6
    exact h6
theorem left_step {m os : List Nat} {q s i t o : Nat} (h : LeftSt m q s os i) (hs : s < 32) (hm : W32 m) (ht : m.getD i 0 * 2 ^ s = t) (ho : os.getD (q + i) 0 = o) (hl : q + i + 1 < os.length) :
    LeftSt m q s ((os.set (q + i) (o + t % 4294967296)).set (q + i + 1) (t / 4294967296)) (i + 1) := by
  obtain ⟨h1, h2, h3⟩ := h
  have hw := left_word (hm.get i) hs
  rw [ht] at hw
  obtain ⟨-, w2, -, -⟩ := hw
  have s1 := set_val (os := os) (x := o + t % 4294967296) (i := q + i) (by omega)
  have s2 := set_val (os := os.set (q + i) (o + t % 4294967296)) (x := t / 4294967296) (i := q + i + 1) (by rw [List.length_set]; omega)
  rw [set_getD_ne (by omega), h3 _ (Nat.le_refl _), Nat.mul_zero, Nat.add_zero] at s2
  rw [ho, Nat.mul_add] at s1
  refine ⟨?_, ?_, ?_⟩
  · have e : 4294967296 ^ (q + i) * (t % 4294967296) + 4294967296 ^ (q + i + 1) * (t / 4294967296) = 4294967296 ^ (q + i) * t := by
      rw [Nat.pow_succ, Nat.mul_assoc, ← Nat.mul_add, Nat.mod_add_div]
    have e2 : 4294967296 ^ (q + i) * t = 4294967296 ^ q * 2 ^ s * (4294967296 ^ i * m.getD i 0) := by
      rw [← ht, Nat.pow_add]
      simp only [Nat.mul_assoc, Nat.mul_left_comm, Nat.mul_comm]
    rw [val_take_succ', Nat.mul_add, ← h1, ← e2]
    omega
  · rw [show q + (i + 1) = q + i + 1 by omega, set_getD (by rw [List.length_set]; omega)]
    exact w2
  · rw [show q + (i + 1) + 1 = q + i + 1 + 1 by omega]
    exact Clear.step ((h3.set (by omega)))
theorem left_end {m os : List Nat} {q s n : Nat} (h : LeftSt m q s os n) (hn : m.length = n) : val os = val m * (4294967296 ^ q * 2 ^ s) := by
  obtain ⟨h1, -, -⟩ := h
  rw [h1, List.take_of_length_le (by omega), Nat.mul_comm]
end Go.Proofs.YtiohemofidphjaaDoor.Bg
