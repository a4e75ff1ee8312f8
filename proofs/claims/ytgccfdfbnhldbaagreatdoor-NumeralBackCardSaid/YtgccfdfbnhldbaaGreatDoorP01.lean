/- Y1 M1 in one text. -/


namespace Go.Proofs.YtgccfdfbnhldbaaGreatDoor.Nb

/-- the number that a list of words is -/
def val : List Nat → Nat
  | [] => 0
  | x :: r => x + 18446744073709551616 * val r
/-- each word has 64 bits -/
def W64 (ws : List Nat) : Prop := ∀ x ∈ ws, x < 18446744073709551616
/-- no nought stands at the end -/
def Norm (ws : List Nat) : Prop := ws = [] ∨ ws.getLastD 0 ≠ 0

theorem val_append : ∀ (a b : List Nat), val (a ++ b) = val a + 18446744073709551616 ^ a.length * val b
  | [], b => by simp [val]
  | x :: a, b => by
    simp only [List.cons_append, val, val_append a b, List.length_cons, Nat.pow_succ]
    rw [Nat.mul_add, Nat.add_assoc, Nat.mul_comm (18446744073709551616 ^ a.length) 18446744073709551616, Nat.mul_assoc]
theorem val_snoc (a : List Nat) (x : Nat) : val (a ++ [x]) = val a + 18446744073709551616 ^ a.length * x := by
  rw [val_append]; simp [val]
theorem W64.tail {x : Nat} {ws : List Nat} (h : W64 (x :: ws)) : W64 ws := fun y hy => h y (List.mem_cons_of_mem _ hy)
theorem W64.head {x : Nat} {ws : List Nat} (h : W64 (x :: ws)) : x < 18446744073709551616 := h x (List.mem_cons_self ..)
theorem W64.take {ws : List Nat} (h : W64 ws) (k : Nat) : W64 (ws.take k) := fun y hy => h y (List.mem_of_mem_take hy)
theorem W64.drop {ws : List Nat} (h : W64 ws) (k : Nat) : W64 (ws.drop k) := fun y hy => h y (List.mem_of_mem_drop hy)
theorem W64.append {a b : List Nat} (h : W64 a) (h' : W64 b) : W64 (a ++ b) := fun y hy => by
  rcases List.mem_append.1 hy with hy | hy
  · exact h y hy
  · exact h' y hy
theorem W64.get {ws : List Nat} (h : W64 ws) (k : Nat) : ws.getD k 0 < 18446744073709551616 := by
  rw [List.getD_eq_getElem?_getD]
  by_cases hk : k < ws.length
  · rw [List.getElem?_eq_getElem hk]; exact h _ (List.getElem_mem hk)
  · rw [List.getElem?_eq_none (by omega)]; simp
theorem W64.nil : W64 [] := fun _ h => by cases h
theorem W64.one {x : Nat} (h : x < 18446744073709551616) : W64 [x] := fun y hy => by simp at hy; omega

theorem val_lt : ∀ {ws : List Nat}, W64 ws → val ws < 18446744073709551616 ^ ws.length
  | [], _ => by simp [val]
  | x :: r, h => by
    have := val_lt h.tail
    have := h.head
    simp only [val, List.length_cons, Nat.pow_succ]
    omega
theorem take_succ_snoc {ws : List Nat} {k : Nat} (h : k < ws.length) : ws.take (k + 1) = ws.take k ++ [ws.getD k 0] := by
  rw [List.take_succ_eq_append_getElem h, List.getD_eq_getElem?_getD, List.getElem?_eq_getElem h]; rfl
theorem val_take_succ {ws : List Nat} {k : Nat} (h : k < ws.length) : val (ws.take (k + 1)) = val (ws.take k) + 18446744073709551616 ^ k * ws.getD k 0 := by
  rw [take_succ_snoc h, val_snoc, List.length_take, Nat.min_eq_left (by omega)]
theorem val_take_drop (ws : List Nat) {k : Nat} (h : k ≤ ws.length) : val ws = val (ws.take k) + 18446744073709551616 ^ k * val (ws.drop k) := by
  have := val_append (ws.take k) (ws.drop k)
  rw [List.take_append_drop, List.length_take, Nat.min_eq_left h] at this
  exact this
theorem val_take_lt {ws : List Nat} (h : W64 ws) (k : Nat) : val (ws.take k) < 18446744073709551616 ^ k := by
  have h1 := val_lt (h.take k)
  have h2 : (ws.take k).length ≤ k := List.length_take_le _ _
  exact Nat.lt_of_lt_of_le h1 (Nat.pow_le_pow_right (by omega) h2)

/-- cutting a nought off at the end -/
theorem cut_step {ws : List Nat} {k : Nat} (h : k < ws.length) (h0 : ws.getD k 0 = 0) : val (ws.take (k + 1)) = val (ws.take k) := by
  rw [val_take_succ h, h0]; simp
theorem getLastD_take {ws : List Nat} {k : Nat} (h : k < ws.length) : (ws.take (k + 1)).getLastD 0 = ws.getD k 0 := by
  rw [take_succ_snoc h]; simp
theorem norm_take {ws : List Nat} {k : Nat} (h : k < ws.length) (h0 : ws.getD k 0 ≠ 0) : Norm (ws.take (k + 1)) := .inr (by rw [getLastD_take h]; exact h0)

/-- a list without a nought at its end is at least its last place's power -/
theorem norm_ge {ws : List Nat} (h : Norm ws) (hl : 0 < ws.length) : 18446744073709551616 ^ (ws.length - 1) ≤ val ws := by
  rcases h with rfl | h
  · simp at hl
  · obtain ⟨k, hk⟩ : ∃ k, ws.length = k + 1 := ⟨ws.length - 1, by omega⟩
    have e : ws.take (k + 1) = ws := List.take_of_length_le (by omega)
    have h1 := val_take_succ (ws := ws) (k := k) (by omega)
    have h2 := getLastD_take (ws := ws) (k := k) (by omega)
    rw [e] at h1 h2
    rw [h2] at h
    rw [h1, hk, Nat.add_sub_cancel]
    have : 18446744073709551616 ^ k * 1 ≤ 18446744073709551616 ^ k * ws.getD k 0 := Nat.mul_le_mul_left _ (by omega)
    omega
theorem norm_len_lt {a b : List Nat} (ha : W64 a) (hb : Norm b) (h : a.length < b.length) : val a < val b := by
  have h1 := val_lt ha
  have h2 := norm_ge hb (by omega)
  have h3 : 18446744073709551616 ^ a.length ≤ 18446744073709551616 ^ (b.length - 1) := Nat.pow_le_pow_right (by omega) (by omega)
  omega
theorem norm_pos {ws : List Nat} (h : Norm ws) (h0 : 0 < ws.length) : 0 < val ws := by
  have := norm_ge h h0
  have := Nat.pow_pos (n := ws.length - 1) (show 0 < 18446744073709551616 by omega)
  omega
theorem norm_len_le {ws : List Nat} (h : Norm ws) {L : Nat} (hv : val ws < 18446744073709551616 ^ L) : ws.length ≤ L := by
  refine Nat.not_lt.1 fun hlt => ?_
  have h2 := norm_ge h (by omega)
  have h3 : 18446744073709551616 ^ L ≤ 18446744073709551616 ^ (ws.length - 1) := Nat.pow_le_pow_right (by omega) (by omega)
  omega
/-- comparing from the end: above place k the two are alike -/
theorem cmp_lt {a b : List Nat} (ha : W64 a) {k : Nat} (hl : a.length = b.length) (hk : k < a.length) (he : a.drop (k + 1) = b.drop (k + 1)) (hlt : a.getD k 0 < b.getD k 0) : val a < val b := by
  rw [val_take_drop a (k := k + 1) (by omega), val_take_drop b (k := k + 1) (by omega), he, val_take_succ hk, val_take_succ (by omega)]
  have h1 := val_take_lt ha k
  have h2 : 18446744073709551616 ^ k * (a.getD k 0 + 1) ≤ 18446744073709551616 ^ k * b.getD k 0 := Nat.mul_le_mul_left _ hlt
  rw [Nat.mul_add, Nat.mul_one] at h2
  omega
theorem drop_step {a b : List Nat} {k : Nat} (hl : a.length = b.length) (hk : k < a.length) (he : a.drop (k + 1) = b.drop (k + 1)) (h : a.getD k 0 = b.getD k 0) : a.drop k = b.drop k := by
  rw [List.drop_eq_getElem_cons hk, List.drop_eq_getElem_cons (by omega : k < b.length), he]
  congr 1
  simpa [List.getD_eq_getElem?_getD, List.getElem?_eq_getElem hk, List.getElem?_eq_getElem (by omega : k < b.length)] using h
end Go.Proofs.YtgccfdfbnhldbaaGreatDoor.Nb

namespace Go.Proofs.YtgccfdfbnhldbaaGreatDoor.Ck

theorem fl (p d : Int) (h : 0 < d) : ∃ q r : Int, p / d = q ∧ p = d * q + r ∧ 0 ≤ r ∧ r < d :=
  ⟨p / d, p % d, rfl, by rw [Int.mul_ediv_add_emod], Int.emod_nonneg _ (by omega), Int.emod_lt_of_pos _ h⟩

theorem fl_unique {p d q r : Int} (h : 0 < d) (e : p = d * q + r) (h0 : 0 ≤ r) (h1 : r < d) : p / d = q := by
  rw [e, Int.add_comm, Int.add_mul_ediv_left _ _ (by omega : d ≠ 0), Int.ediv_eq_zero_of_lt h0 h1]; omega

/-! rises -/
/-! back -/
end Go.Proofs.YtgccfdfbnhldbaaGreatDoor.Ck
