/- Y1 M1 Q1 in one text. -/


namespace Go.Proofs.YtbidlkmagbjllaaGreatDoor.Nb

/-- the number that a list of words is -/
def val : List Nat → Nat
  | [] => 0
  | x :: r => x + 18446744073709551616 * val r
/-- each word has 64 bits -/
def W64 (ws : List Nat) : Prop := ∀ x ∈ ws, x < 18446744073709551616
/-- no nought stands at the end -/
def Norm (ws : List Nat) : Prop := ws = [] ∨ ws.getLastD 0 ≠ 0

theorem val_append : ∀ (a b : List Nat), val (a ++ b) = val a + 18446744073709551616 ^ a.length * val b
  | [], b => by simp [val]
  | x :: a, b => by
    simp only [List.cons_append, val, val_append a b, List.length_cons, Nat.pow_succ]
    rw [Nat.mul_add, Nat.add_assoc, Nat.mul_comm (18446744073709551616 ^ a.length) 18446744073709551616, Nat.mul_assoc]
theorem val_snoc (a : List Nat) (x : Nat) : val (a ++ [x]) = val a + 18446744073709551616 ^ a.length * x := by
  rw [val_append]; simp [val]
theorem W64.tail {x : Nat} {ws : List Nat} (h : W64 (x :: ws)) : W64 ws := fun y hy => h y (List.mem_cons_of_mem _ hy)
theorem W64.head {x : Nat} {ws : List Nat} (h : W64 (x :: ws)) : x < 18446744073709551616 := h x (List.mem_cons_self ..)
theorem W64.take {ws : List Nat} (h : W64 ws) (k : Nat) : W64 (ws.take k) := fun y hy => h y (List.mem_of_mem_take hy)
theorem W64.drop {ws : List Nat} (h : W64 ws) (k : Nat) : W64 (ws.drop k) := fun y hy => h y (List.mem_of_mem_drop hy)
theorem W64.append {a b : List Nat} (h : W64 a) (h' : W64 b) : W64 (a ++ b) := fun y hy => by
  rcases List.mem_append.1 hy with hy | hy
  · exact h y hy
  · exact h' y hy
theorem W64.get {ws : List Nat} (h : W64 ws) (k : Nat) : ws.getD k 0 < 18446744073709551616 := by
  rw [List.getD_eq_getElem?_getD]
  by_cases hk : k < ws.length
  · rw [List.getElem?_eq_getElem hk]; exact h _ (List.getElem_mem hk)
  · rw [List.getElem?_eq_none (by omega)]; simp
theorem W64.nil : W64 [] := fun _ h => by cases h
theorem W64.one {x : Nat} (h : x < 18446744073709551616) : W64 [x] := fun y hy => by simp at hy; omega

theorem val_lt : ∀ {ws : List Nat}, W64 ws → val ws < 18446744073709551616 ^ ws.length
  | [], _ => by simp [val]
  | x :: r, h => by
    have := val_lt h.tail
    have := h.head
    simp only [val, List.length_cons, Nat.pow_succ]
    omega
theorem take_succ_snoc {ws : List Nat} {k : Nat} (h : k < ws.length) : ws.take (k + 1) = ws.take k ++ [ws.getD k 0] := by
  rw [List.take_succ_eq_append_getElem h, List.getD_eq_getElem?_getD, List.getElem?_eq_getElem h]; rfl
theorem val_take_succ {ws : List Nat} {k : Nat} (h : k < ws.length) : val (ws.take (k + 1)) = val (ws.take k) + 18446744073709551616 ^ k * ws.getD k 0 := by
  rw [take_succ_snoc h, val_snoc, List.length_take, Nat.min_eq_left (by omega)]
theorem val_take_drop (ws : List Nat) {k : Nat} (h : k ≤ ws.length) : val ws = val (ws.take k) + 18446744073709551616 ^ k * val (ws.drop k) := by
  have := val_append (ws.take k) (ws.drop k)
  rw [List.take_append_drop, List.length_take, Nat.min_eq_left h] at this
  exact this
theorem val_take_lt {ws : List Nat} (h : W64 ws) (k : Nat) : val (ws.take k) < 18446744073709551616 ^ k := by
  have h1 := val_lt (h.take k)
  have h2 : (ws.take k).length ≤ k := List.length_take_le _ _
  exact Nat.lt_of_lt_of_le h1 (Nat.pow_le_pow_right (by omega) h2)

/-- cutting a nought off at the end -/
theorem cut_step {ws : List Nat} {k : Nat} (h : k < ws.length) (h0 : ws.getD k 0 = 0) : val (ws.take (k + 1)) = val (ws.take k) := by
  rw [val_take_succ h, h0]; simp
theorem getLastD_take {ws : List Nat} {k : Nat} (h : k < ws.length) : (ws.take (k + 1)).getLastD 0 = ws.getD k 0 := by
  rw [take_succ_snoc h]; simp
theorem norm_take {ws : List Nat} {k : Nat} (h : k < ws.length) (h0 : ws.getD k 0 ≠ 0) : Norm (ws.take (k + 1)) := .inr (by rw [getLastD_take h]; exact h0)

/-- a list without a nought at its end is at least its last place's power -/
theorem norm_ge {ws : List Nat} (h : Norm ws) (hl : 0 < ws.length) : 18446744073709551616 ^ (ws.length - 1) ≤ val ws := by
  rcases h with rfl | h
  · simp at hl
  · obtain ⟨k, hk⟩ : ∃ k, ws.length = k + 1 := ⟨ws.length - 1, by omega⟩
    have e : ws.take (k + 1) = ws := List.take_of_length_le (by omega)
    have h1 := val_take_succ (ws := ws) (k := k) (by omega)
    have h2 := getLastD_take (ws := ws) (k := k) (by omega)
    rw [e] at h1 h2
    rw [h2] at h
    rw [h1, hk, Nat.add_sub_cancel]
    have : 18446744073709551616 ^ k * 1 ≤ 18446744073709551616 ^ k * ws.getD k 0 := Nat.mul_le_mul_left _ (by omega)
    omega
theorem norm_len_lt {a b : List Nat} (ha : W64 a) (hb : Norm b) (h : a.length < b.length) : val a < val b := by
  have h1 := val_lt ha
  have h2 := norm_ge hb (by omega)
  have h3 : 18446744073709551616 ^ a.length ≤ 18446744073709551616 ^ (b.length - 1) := Nat.pow_le_pow_right (by omega) (by omega)
  omega
theorem norm_zero {ws : List Nat} (h : Norm ws) (h0 : val ws = 0) : ws = [] := by
  rcases Nat.eq_zero_or_pos ws.length with hl | hl
  · exact List.eq_nil_of_length_eq_zero hl
  · have := norm_ge h hl
    have := Nat.pow_pos (n := ws.length - 1) (show 0 < 18446744073709551616 by omega)
    omega
theorem norm_pos {ws : List Nat} (h : Norm ws) (h0 : 0 < ws.length) : 0 < val ws := by
  have := norm_ge h h0
  have := Nat.pow_pos (n := ws.length - 1) (show 0 < 18446744073709551616 by omega)
  omega
theorem norm_len_le {ws : List Nat} (h : Norm ws) {L : Nat} (hv : val ws < 18446744073709551616 ^ L) : ws.length ≤ L := by
  refine Nat.not_lt.1 fun hlt => ?_
  have h2 := norm_ge h (by omega)
  have h3 : 18446744073709551616 ^ L ≤ 18446744073709551616 ^ (ws.length - 1) := Nat.pow_le_pow_right (by omega) (by omega)
  omega
/-- comparing from the end: above place k the two are alike -/
theorem cmp_lt {a b : List Nat} (ha : W64 a) {k : Nat} (hl : a.length = b.length) (hk : k < a.length) (he : a.drop (k + 1) = b.drop (k + 1)) (hlt : a.getD k 0 < b.getD k 0) : val a < val b := by
  rw [val_take_drop a (k := k + 1) (by omega), val_take_drop b (k := k + 1) (by omega), he, val_take_succ hk, val_take_succ (by omega)]
  have h1 := val_take_lt ha k
  have h2 : 18446744073709551616 ^ k * (a.getD k 0 + 1) ≤ 18446744073709551616 ^ k * b.getD k 0 := Nat.mul_le_mul_left _ hlt
  rw [Nat.mul_add, Nat.mul_one] at h2
  omega
theorem drop_step {a b : List Nat} {k : Nat} (hl : a.length = b.length) (hk : k < a.length) (he : a.drop (k + 1) = b.drop (k + 1)) (h : a.getD k 0 = b.getD k 0) : a.drop k = b.drop k := by
  rw [List.drop_eq_getElem_cons hk, List.drop_eq_getElem_cons (by omega : k < b.length), he]
  congr 1
  simpa [List.getD_eq_getElem?_getD, List.getElem?_eq_getElem hk, List.getElem?_eq_getElem (by omega : k < b.length)] using h
end Go.Proofs.YtbidlkmagbjllaaGreatDoor.Nb

namespace Go.Proofs.YtbidlkmagbjllaaGreatDoor.Ck

theorem fl (p d : Int) (h : 0 < d) : ∃ q r : Int, p / d = q ∧ p = d * q + r ∧ 0 ≤ r ∧ r < d :=
  ⟨p / d, p % d, rfl, by rw [Int.mul_ediv_add_emod], Int.emod_nonneg _ (by omega), Int.emod_lt_of_pos _ h⟩

theorem fl_unique {p d q r : Int} (h : 0 < d) (e : p = d * q + r) (h0 : 0 ≤ r) (h1 : r < d) : p / d = q := by
  rw [e, Int.add_comm, Int.add_mul_ediv_left _ _ (by omega : d ≠ 0), Int.ediv_eq_zero_of_lt h0 h1]; omega

/-- the clock may be -/
def okc (o n d : Int) : Bool := decide (1 ≤ n ∧ n ≤ 1000000000 ∧ 1 ≤ d ∧ d ≤ 1000000000 ∧ -1125899906842624 ≤ o ∧ o ≤ 1125899906842624)
def inT (t : Int) : Bool := decide (-1125899906842624 ≤ t ∧ t ≤ 1125899906842624)
def timeOk (o n d c : Int) : Bool := okc o n d && inT c && inT (o + c * n / d)
def timeV (o n d c : Int) : Int := if timeOk o n d c then o + c * n / d else 0
def timeE (o n d c : Int) : Int := if okc o n d then (if timeOk o n d c then 0 else 1) else 130
def countOk (o n d t : Int) : Bool := okc o n d && inT t && inT (-((o - t) * d / n))
def countV (o n d t : Int) : Int := if countOk o n d t then -((o - t) * d / n) else 0
def countE (o n d t : Int) : Int := if okc o n d then (if countOk o n d t then 0 else 1) else 130
/-- the floor of p / d has no more than 62 bits -/
def fits (p d : Int) : Bool := decide ((p.natAbs : Int) / d ≤ 4611686018427387904)

theorem inT_iff {t : Int} : inT t = true ↔ -1125899906842624 ≤ t ∧ t ≤ 1125899906842624 := by simp [inT]
theorem okc_iff {o n d : Int} : okc o n d = true ↔ 1 ≤ n ∧ n ≤ 1000000000 ∧ 1 ≤ d ∧ d ≤ 1000000000 ∧ -1125899906842624 ≤ o ∧ o ≤ 1125899906842624 := by simp [okc]
theorem timeOk_iff {o n d c : Int} : timeOk o n d c = true ↔ okc o n d = true ∧ inT c = true ∧ inT (o + c * n / d) = true := by simp [timeOk, and_assoc]
theorem countOk_iff {o n d t : Int} : countOk o n d t = true ↔ okc o n d = true ∧ inT t = true ∧ inT (-((o - t) * d / n)) = true := by simp [countOk, and_assoc]

theorem abs_ediv_le {p d : Int} (h : 0 < d) (B : Int) (h1 : -B ≤ p / d) (h2 : p / d ≤ B) : (p.natAbs : Int) / d ≤ B + 1 := by
  obtain ⟨q, r, hq, hp, r0, r1⟩ := fl p d h
  rw [hq] at h1 h2
  have hB : d * q ≤ d * B := Int.mul_le_mul_of_nonneg_left h2 (by omega)
  have hB' : d * (-B) ≤ d * q := Int.mul_le_mul_of_nonneg_left h1 (by omega)
  have e1 : d * (-B) = -(d * B) := by rw [Int.mul_neg]
  have hlt : (p.natAbs : Int) < d * (B + 2) := by
    have e2 : d * (B + 2) = d * B + d * 2 := Int.mul_add _ _ _
    omega
  have := Int.ediv_lt_of_lt_mul h (by rw [Int.mul_comm]; exact hlt)
  omega

theorem fits_of_bound {p d : Int} (h : 0 < d) (h1 : -4503599627370496 ≤ p / d) (h2 : p / d ≤ 4503599627370496) : fits p d = true := by
  have := abs_ediv_le h 4503599627370496 (by omega) (by omega)
  simp [fits]; omega

theorem fits_time {o n d c : Int} (h : timeOk o n d c = true) : fits (c * n) d = true := by
  obtain ⟨h1, h2, h3⟩ := timeOk_iff.1 h
  rw [okc_iff] at h1; rw [inT_iff] at h3
  exact fits_of_bound (by omega) (by omega) (by omega)
theorem fits_count {o n d t : Int} (h : countOk o n d t = true) : fits ((o - t) * d) n = true := by
  obtain ⟨h1, h2, h3⟩ := countOk_iff.1 h
  rw [okc_iff] at h1; rw [inT_iff] at h3
  exact fits_of_bound (by omega) (by omega) (by omega)

/-- where it fits, the floor itself has bounds -/
theorem fits_bd {p d : Int} (h : 0 < d) (hf : fits p d = true) : -4611686018427387905 ≤ p / d ∧ p / d ≤ 4611686018427387904 := by
  simp [fits] at hf
  obtain ⟨q, r, hq, hp, r0, r1⟩ := fl p d h
  obtain ⟨q', r', hq', hp', r0', r1'⟩ := fl (p.natAbs : Int) d h
  rw [hq'] at hf
  rw [hq]
  have e0 : d * 4611686018427387904 ≥ d * q' := Int.mul_le_mul_of_nonneg_left hf (by omega)
  constructor
  · refine Int.not_lt.1 fun hlt => ?_
    have : d * q ≤ d * (-4611686018427387906) := Int.mul_le_mul_of_nonneg_left (by omega) (by omega)
    omega
  · refine Int.not_lt.1 fun hlt => ?_
    have : d * 4611686018427387905 ≤ d * q := Int.mul_le_mul_of_nonneg_left (by omega) (by omega)
    omega

/-! rises -/
theorem time_mono {o n d a b : Int} (h1 : 1 ≤ n) (h2 : 1 ≤ d) (h : a ≤ b) : o + a * n / d ≤ o + b * n / d := by
  have := Int.ediv_le_ediv (by omega : 0 < d) (Int.mul_le_mul_of_nonneg_right h (by omega : 0 ≤ n))
  omega
theorem time_strict {o n d a b : Int} (h2 : 1 ≤ d) (h3 : d ≤ n) (h : a < b) : o + a * n / d < o + b * n / d := by
  have e : a * n + d ≤ b * n := by
    have : (a + 1) * n ≤ b * n := Int.mul_le_mul_of_nonneg_right (by omega) (by omega)
    have : (a + 1) * n = a * n + n := by rw [Int.add_mul]; omega
    omega
  have h5 := Int.ediv_le_ediv (by omega : 0 < d) e
  have h4 : (a * n + d) / d = a * n / d + 1 := by have := Int.add_mul_ediv_right (a * n) 1 (by omega : d ≠ 0); rwa [Int.one_mul] at this
  omega

/-! back -/
/-- the count of a time: -((o - t) * d / n) is the least m with o + m*n/d ≥ t -/
theorem count_le {o n d t m : Int} (h1 : 1 ≤ n) (h2 : 1 ≤ d) : t ≤ o + m * n / d ↔ -((o - t) * d / n) ≤ m := by
  have e1 : t ≤ o + m * n / d ↔ (t - o) * d ≤ m * n := by
    rw [show (t ≤ o + m * n / d) ↔ (t - o ≤ m * n / d) by omega]
    exact Int.le_ediv_iff_mul_le (by omega)
  have e2 : -((o - t) * d / n) ≤ m ↔ -m ≤ (o - t) * d / n := by omega
  rw [e1, e2, Int.le_ediv_iff_mul_le (by omega)]
  have e3 : (t - o) * d = -((o - t) * d) := by rw [← Int.neg_mul]; congr 1; omega
  have e4 : -m * n = -(m * n) := Int.neg_mul _ _
  omega
theorem count_gt {o n d k : Int} (h1 : 1 ≤ n) (h2 : 1 ≤ d) : k - d < -((o - (o + k * n / d)) * d / n) := by
  obtain ⟨q, r, hq, hp, r0, r1⟩ := fl (k * n) d (by omega)
  rw [hq]
  have e : (o - (o + q)) * d = -(d * q) := by rw [show o - (o + q) = -q by omega, Int.neg_mul, Int.mul_comm]
  rw [e]
  refine Int.not_le.1 fun hle => ?_
  -- -( -(dq)/n) ≤ k - d : then dq ≤ (k-d) n
  have h5 : d - k ≤ -(d * q) / n := by omega
  rw [Int.le_ediv_iff_mul_le (by omega)] at h5
  have e5 : (d - k) * n = d * n - k * n := Int.sub_mul _ _ _
  have e6 : d * 1 ≤ d * n := Int.mul_le_mul_of_nonneg_left h1 (by omega)
  omega
end Go.Proofs.YtbidlkmagbjllaaGreatDoor.Ck

namespace Go.Proofs.YtbidlkmagbjllaaGreatDoor.Bg

/-- the number that a list of words is -/
def val : List Nat → Nat
  | [] => 0
  | x :: r => x + 4294967296 * val r
/-- each word has 32 bits -/
def W32 (ws : List Nat) : Prop := ∀ x ∈ ws, x < 4294967296
/-- no nought stands at the end -/
def Norm (ws : List Nat) : Prop := ws = [] ∨ ws.getLastD 0 ≠ 0

theorem val_append : ∀ (a b : List Nat), val (a ++ b) = val a + 4294967296 ^ a.length * val b
  | [], b => by simp [val]
  | x :: a, b => by
    simp only [List.cons_append, val, val_append a b, List.length_cons, Nat.pow_succ]
    rw [Nat.mul_add, Nat.add_assoc, Nat.mul_comm (4294967296 ^ a.length) 4294967296, Nat.mul_assoc]
theorem val_snoc (a : List Nat) (x : Nat) : val (a ++ [x]) = val a + 4294967296 ^ a.length * x := by
  rw [val_append]; simp [val]
theorem W32.tail {x : Nat} {ws : List Nat} (h : W32 (x :: ws)) : W32 ws := fun y hy => h y (List.mem_cons_of_mem _ hy)
theorem W32.head {x : Nat} {ws : List Nat} (h : W32 (x :: ws)) : x < 4294967296 := h x (List.mem_cons_self ..)
theorem W32.take {ws : List Nat} (h : W32 ws) (k : Nat) : W32 (ws.take k) := fun y hy => h y (List.mem_of_mem_take hy)
theorem W32.drop {ws : List Nat} (h : W32 ws) (k : Nat) : W32 (ws.drop k) := fun y hy => h y (List.mem_of_mem_drop hy)
theorem W32.append {a b : List Nat} (h : W32 a) (h' : W32 b) : W32 (a ++ b) := fun y hy => by
  rcases List.mem_append.1 hy with hy | hy
  · exact h y hy
  · exact h' y hy
theorem W32.get {ws : List Nat} (h : W32 ws) (k : Nat) : ws.getD k 0 < 4294967296 := by
  rw [List.getD_eq_getElem?_getD]
  by_cases hk : k < ws.length
  · rw [List.getElem?_eq_getElem hk]; exact h _ (List.getElem_mem hk)
  · rw [List.getElem?_eq_none (by omega)]; simp
theorem W32.nil : W32 [] := fun _ h => by cases h
theorem W32.one {x : Nat} (h : x < 4294967296) : W32 [x] := fun y hy => by simp at hy; omega

theorem val_lt : ∀ {ws : List Nat}, W32 ws → val ws < 4294967296 ^ ws.length
  | [], _ => by simp [val]
  | x :: r, h => by
    have := val_lt h.tail
    have := h.head
    simp only [val, List.length_cons, Nat.pow_succ]
    omega
theorem take_succ_snoc {ws : List Nat} {k : Nat} (h : k < ws.length) : ws.take (k + 1) = ws.take k ++ [ws.getD k 0] := by
  rw [List.take_succ_eq_append_getElem h, List.getD_eq_getElem?_getD, List.getElem?_eq_getElem h]; rfl
theorem val_take_succ {ws : List Nat} {k : Nat} (h : k < ws.length) : val (ws.take (k + 1)) = val (ws.take k) + 4294967296 ^ k * ws.getD k 0 := by
  rw [take_succ_snoc h, val_snoc, List.length_take, Nat.min_eq_left (by omega)]
theorem val_take_drop (ws : List Nat) {k : Nat} (h : k ≤ ws.length) : val ws = val (ws.take k) + 4294967296 ^ k * val (ws.drop k) := by
  have := val_append (ws.take k) (ws.drop k)
  rw [List.take_append_drop, List.length_take, Nat.min_eq_left h] at this
  exact this
theorem val_take_lt {ws : List Nat} (h : W32 ws) (k : Nat) : val (ws.take k) < 4294967296 ^ k := by
  have h1 := val_lt (h.take k)
  have h2 : (ws.take k).length ≤ k := List.length_take_le _ _
  exact Nat.lt_of_lt_of_le h1 (Nat.pow_le_pow_right (by omega) h2)

/-- cutting a nought off at the end -/
theorem cut_step {ws : List Nat} {k : Nat} (h : k < ws.length) (h0 : ws.getD k 0 = 0) : val (ws.take (k + 1)) = val (ws.take k) := by
  rw [val_take_succ h, h0]; simp
theorem getLastD_take {ws : List Nat} {k : Nat} (h : k < ws.length) : (ws.take (k + 1)).getLastD 0 = ws.getD k 0 := by
  rw [take_succ_snoc h]; simp
theorem norm_take {ws : List Nat} {k : Nat} (h : k < ws.length) (h0 : ws.getD k 0 ≠ 0) : Norm (ws.take (k + 1)) := .inr (by rw [getLastD_take h]; exact h0)

/-- a list without a nought at its end is at least its last place's power -/
theorem norm_ge {ws : List Nat} (h : Norm ws) (hl : 0 < ws.length) : 4294967296 ^ (ws.length - 1) ≤ val ws := by
  rcases h with rfl | h
  · simp at hl
  · obtain ⟨k, hk⟩ : ∃ k, ws.length = k + 1 := ⟨ws.length - 1, by omega⟩
    have e : ws.take (k + 1) = ws := List.take_of_length_le (by omega)
    have h1 := val_take_succ (ws := ws) (k := k) (by omega)
    have h2 := getLastD_take (ws := ws) (k := k) (by omega)
    rw [e] at h1 h2
    rw [h2] at h
    rw [h1, hk, Nat.add_sub_cancel]
    have : 4294967296 ^ k * 1 ≤ 4294967296 ^ k * ws.getD k 0 := Nat.mul_le_mul_left _ (by omega)
    omega
theorem norm_len_lt {a b : List Nat} (ha : W32 a) (hb : Norm b) (h : a.length < b.length) : val a < val b := by
  have h1 := val_lt ha
  have h2 := norm_ge hb (by omega)
  have h3 : 4294967296 ^ a.length ≤ 4294967296 ^ (b.length - 1) := Nat.pow_le_pow_right (by omega) (by omega)
  omega
theorem norm_zero {ws : List Nat} (h : Norm ws) (h0 : val ws = 0) : ws = [] := by
  rcases Nat.eq_zero_or_pos ws.length with hl | hl
  · exact List.eq_nil_of_length_eq_zero hl
  · have := norm_ge h hl
    have := Nat.pow_pos (n := ws.length - 1) (show 0 < 4294967296 by omega)
    omega
theorem norm_pos {ws : List Nat} (h : Norm ws) (h0 : 0 < ws.length) : 0 < val ws := by
  have := norm_ge h h0
  have := Nat.pow_pos (n := ws.length - 1) (show 0 < 4294967296 by omega)
  omega
theorem norm_len_le {ws : List Nat} (h : Norm ws) {L : Nat} (hv : val ws < 4294967296 ^ L) : ws.length ≤ L := by
  refine Nat.not_lt.1 fun hlt => ?_
  have h2 := norm_ge h (by omega)
  have h3 : 4294967296 ^ L ≤ 4294967296 ^ (ws.length - 1) := Nat.pow_le_pow_right (by omega) (by omega)
  omega
/-- comparing from the end: above place k the two are alike -/
theorem cmp_lt {a b : List Nat} (ha : W32 a) {k : Nat} (hl : a.length = b.length) (hk : k < a.length) (he : a.drop (k + 1) = b.drop (k + 1)) (hlt : a.getD k 0 < b.getD k 0) : val a < val b := by
  rw [val_take_drop a (k := k + 1) (by omega), val_take_drop b (k := k + 1) (by omega), he, val_take_succ hk, val_take_succ (by omega)]
  have h1 := val_take_lt ha k
  have h2 : 4294967296 ^ k * (a.getD k 0 + 1) ≤ 4294967296 ^ k * b.getD k 0 := Nat.mul_le_mul_left _ hlt
  rw [Nat.mul_add, Nat.mul_one] at h2
  omega
theorem drop_step {a b : List Nat} {k : Nat} (hl : a.length = b.length) (hk : k < a.length) (he : a.drop (k + 1) = b.drop (k + 1)) (h : a.getD k 0 = b.getD k 0) : a.drop k = b.drop k := by
  rw [List.drop_eq_getElem_cons hk, List.drop_eq_getElem_cons (by omega : k < b.length), he]
  congr 1
  simpa [List.getD_eq_getElem?_getD, List.getElem?_eq_getElem hk, List.getElem?_eq_getElem (by omega : k < b.length)] using h
end Go.Proofs.YtbidlkmagbjllaaGreatDoor.Bg
