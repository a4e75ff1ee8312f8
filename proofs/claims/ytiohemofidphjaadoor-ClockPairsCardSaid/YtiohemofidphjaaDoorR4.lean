/- Plain laws of a long division by two words. No program. -/
import Derived.Test.YtiohemofidphjaaDoorR3
import Derived.Test.YtiohemofidphjaaDoorD1
namespace Go.Proofs.YtiohemofidphjaaDoor.Bg
open Go Go.RowKit

theorem val_drop_one (ws : List Nat) (j : Nat) : val (ws.drop j) = ws.getD j 0 + 4294967296 * val (ws.drop (j + 1)) := by
  by_cases h : j < ws.length
  · exact val_drop_step ws h
  · rw [List.drop_of_length_le (by omega), List.drop_of_length_le (by omega), List.getD_eq_getElem?_getD, List.getElem?_eq_none (by omega)]
    simp [val]
def OverSt (X D : Nat) (us qs : List Nat) (i : Nat) : Prop := X = val us + D * val qs ∧ val us < D * 4294967296 ^ i ∧ ∀ k, k < i → qs.getD k 0 = 0
theorem drop_zero_of_lt {us : List Nat} (hw : W32 us) {k : Nat} (h : val us < 4294967296 ^ k) : val (us.drop k) = 0 := by
  rw [← val_div us hw k]; exact Nat.div_eq_of_lt h
theorem over_window {us : List Nat} (hw : W32 us) {D j : Nat} (hD : D < 18446744073709551616) (h : val us < D * 4294967296 ^ (j + 1)) :
    val us / 4294967296 ^ j = us.getD j 0 + 4294967296 * (us.getD (j + 1) 0 + 4294967296 * us.getD (j + 2) 0) ∧ val (us.drop (j + 3)) = 0 ∧ us.getD (j + 1) 0 + 4294967296 * us.getD (j + 2) 0 < D := by
  have hlt : val us < 4294967296 ^ (j + 3) := by
    refine Nat.lt_of_lt_of_le h ?_
    rw [show j + 3 = 2 + (j + 1) by omega, Nat.pow_add 4294967296 2 (j + 1)]
    have hD2 : D ≤ 4294967296 ^ 2 := by show D ≤ 18446744073709551616; omega
    exact Nat.mul_le_mul_right _ hD2
  have hz := drop_zero_of_lt hw hlt
  have h1 := val_div us hw j
  have h2 := val_drop_two us j
  have h3 := val_drop_two us (j + 2)
  rw [show j + 2 + 1 = j + 3 by omega] at h3
  have h4 := val_drop_one us (j + 3)
  have e1 : us.getD (j + 3) 0 = 0 := by omega
  have e2 : val (us.drop (j + 2 + 2)) = 0 := by
    rw [show j + 2 + 2 = j + 3 + 1 by omega]
    omega
  rw [e1, e2] at h3
  have h6 : val us / 4294967296 ^ j < D * 4294967296 := by
    refine Nat.div_lt_of_lt_mul ?_
    rw [Nat.mul_left_comm, ← Nat.pow_succ]; exact h
  rw [h1, h2, h3] at h6
  refine ⟨?_, hz, ?_⟩
  · rw [h1, h2, h3]; omega
  · omega
theorem over_digit {us : List Nat} (hw : W32 us) {D j d0 d1 : Nat} (hd : D = d1 * 4294967296 + d0) (h1 : 2147483648 ≤ d1) (h2 : d1 < 4294967296) (h3 : d0 < 4294967296) (h : val us < D * 4294967296 ^ (j + 1)) {u0 u1 u2 : Nat}
    (e0 : us.getD j 0 = u0) (e1 : us.getD (j + 1) 0 = u1) (e2 : us.getD (j + 2) 0 = u2) :
    Ck.QIn (D : Int) (d1 : Int) (d0 : Int) ((u2 : Int) * 4294967296 + u1) (u0 : Int) ∧ (((u2 : Int) * 4294967296 + u1) * 4294967296 + u0) / (D : Int) = ((val us / 4294967296 ^ j / D : Nat) : Int) ∧ val us / 4294967296 ^ j / D < 4294967296 := by
  obtain ⟨w1, -, w3⟩ := over_window hw (j := j) (by omega) h
  have b0 := hw.get j
  rw [e0, e1, e2] at w1
  rw [e1, e2] at w3
  rw [e0] at b0
  have hq : Ck.QIn (D : Int) (d1 : Int) (d0 : Int) ((u2 : Int) * 4294967296 + u1) (u0 : Int) := ⟨by omega, by omega, by omega, by omega, by omega, by omega, by omega, by omega, by omega⟩
  have e : (((u2 : Int) * 4294967296 + u1) * 4294967296 + u0) / (D : Int) = ((val us / 4294967296 ^ j / D : Nat) : Int) := by
    rw [w1, Int.natCast_ediv]
    congr 1
    omega
  refine ⟨hq, e, ?_⟩
  have := hq.dig.2
  omega
theorem less_no {us os : List Nat} {D j g b : Nat} (hwu : W32 us) (hwo : W32 os) (hD : D < 18446744073709551616) (h : val us < D * 4294967296 ^ (j + 1)) (hg : val us / 4294967296 ^ j / D = g) (hlen : j + 3 ≤ os.length)
    (he : val os + 4294967296 ^ j * (g * D) = val us + 4294967296 ^ (j + 3) * b) (hd : os.drop (j + 3) = us.drop (j + 3)) (hb : b ≤ 1) : b = 0 ∧ val os < D * 4294967296 ^ j := by
  obtain ⟨-, hz, -⟩ := over_window hwu hD h
  have h1 := val_take_drop os hlen
  rw [hd, hz, Nat.mul_zero, Nat.add_zero] at h1
  have h2 := val_take_lt hwo (j + 3)
  have hdd : val us / 4294967296 ^ j / D = val us / (4294967296 ^ j * D) := Nat.div_div_eq_div_mul _ _ _
  have hD0 : 0 < D := by
    rcases Nat.eq_zero_or_pos D with h0 | h0
    · rw [h0, Nat.zero_mul] at h; omega
    · exact h0
  have hpos : 0 < 4294967296 ^ j * D := Nat.mul_pos (Nat.pow_pos (by omega)) hD0
  have h3 := Nat.div_add_mod (val us) (4294967296 ^ j * D)
  have h4 := Nat.mod_lt (val us) hpos
  rw [← hdd, hg, Nat.mul_assoc, Nat.mul_comm D g] at h3
  rw [Nat.mul_comm] at h4
  have hb0 : b = 0 := by
    rcases Nat.eq_zero_or_pos b with h0 | h0
    · exact h0
    · have : b = 1 := by omega
      subst this
      omega
  refine ⟨hb0, ?_⟩
  rw [hb0, Nat.mul_zero, Nat.add_zero] at he
  rw [Nat.mul_comm (4294967296 ^ j) D] at h3
  omega
theorem over_step {X D : Nat} {us os qs : List Nat} {j g : Nat} (h : OverSt X D us qs (j + 1)) (hj : j < qs.length) (he : val os + 4294967296 ^ j * (g * D) = val us) (hlt : val os < D * 4294967296 ^ j) : OverSt X D os (qs.set j g) j := by
  obtain ⟨h1, h2, h3⟩ := h
  have hs := set_val (x := g) hj
  rw [h3 j (by omega), Nat.mul_zero, Nat.add_zero] at hs
  refine ⟨?_, hlt, fun k hk => by rw [set_getD_ne (by omega)]; exact h3 k (by omega)⟩
  rw [hs, Nat.mul_add, h1, ← he]
  have : 4294967296 ^ j * (g * D) = D * (4294967296 ^ j * g) := by rw [Nat.mul_comm g D, Nat.mul_left_comm]
  omega
theorem over_end {A D P : Nat} {us qs : List Nat} (h : OverSt (A * P) (D * P) us qs 0) (hP : 0 < P) (hD : 0 < D) : val qs = A / D ∧ val us = A % D * P := by
  obtain ⟨h1, h2, -⟩ := h
  rw [Nat.pow_zero, Nat.mul_one] at h2
  have hpos : 0 < D * P := Nat.mul_pos hD hP
  have e1 : A * P / (D * P) = val qs := by
    rw [h1, Nat.add_mul_div_left _ _ hpos, Nat.div_eq_of_lt h2, Nat.zero_add]
  have e2 : A * P % (D * P) = val us := by
    rw [h1, Nat.add_mul_mod_self_left, Nat.mod_eq_of_lt h2]
  rw [Nat.mul_div_mul_right _ _ hP] at e1
  rw [Nat.mul_mod_mul_right] at e2
  exact ⟨e1.symm, e2.symm⟩
theorem over_start {A D P : Nat} {us : List Nat} {M n : Nat} (hv : val us = A * P) (hA : A < 4294967296 ^ M) (hD : 4294967296 ≤ D) (hM : 2 ≤ M) (hP : 0 < P) : OverSt (A * P) (D * P) us (List.replicate n 0) (M - 1) := by
  refine ⟨by rw [val_rep, hv, Nat.mul_zero, Nat.add_zero], ?_, fun k _ => Clear.rep n 0 k (by omega)⟩
  rw [hv, Nat.mul_assoc, Nat.mul_left_comm, Nat.mul_comm A P]
  refine Nat.mul_lt_mul_of_pos_left ?_ hP
  have : 4294967296 ^ M = 4294967296 * 4294967296 ^ (M - 1) := by
    rw [show M = (M - 1) + 1 by omega, Nat.pow_succ, Nat.mul_comm]; rfl
  rw [this] at hA
  exact Nat.lt_of_lt_of_le hA (Nat.mul_le_mul_right _ hD)
end Go.Proofs.YtiohemofidphjaaDoor.Bg
