/- Y7 in one text. -/
import Derived.Test.YthnmfcjodobkbaaGreatDoorP04
import Derived.Deep.OwnRows

namespace Go.Proofs.YthnmfcjodobkbaaGreatDoor.Nb
open Go Go.RowKit

theorem val_take_succ' (ws : List Nat) (k : Nat) : val (ws.take (k + 1)) = val (ws.take k) + 18446744073709551616 ^ k * ws.getD k 0 := by
  by_cases h : k < ws.length
  · exact val_take_succ h
  · rw [List.take_of_length_le (by omega), List.take_of_length_le (by omega), List.getD_eq_getElem?_getD, List.getElem?_eq_none (by omega)]
    simp
theorem set_take {os : List Nat} {i x : Nat} : (os.set i x).take i = os.take i := by
  rw [List.take_set_of_le (Nat.le_refl _)]
theorem set_getD {os : List Nat} {i x : Nat} (h : i < os.length) : (os.set i x).getD i 0 = x := by
  rw [List.getD_eq_getElem?_getD, List.getElem?_set_self h]; rfl
theorem set_getD_ne {os : List Nat} {i j x : Nat} (h : i ≠ j) : (os.set i x).getD j 0 = os.getD j 0 := by
  rw [List.getD_eq_getElem?_getD, List.getElem?_set_ne h, List.getD_eq_getElem?_getD]
theorem set_val {os : List Nat} {i x : Nat} (h : i < os.length) : val (os.set i x) + 18446744073709551616 ^ i * os.getD i 0 = val os + 18446744073709551616 ^ i * x := by
  have h1 := val_take_drop (os.set i x) (k := i + 1) (by rw [List.length_set]; omega)
  have h2 := val_take_drop os (k := i + 1) (by omega)
  rw [val_take_succ', set_take, set_getD h, List.drop_set_of_lt (by omega)] at h1
  rw [val_take_succ'] at h2
  omega
theorem W64.set {os : List Nat} (h : W64 os) {i x : Nat} (hx : x < 18446744073709551616) : W64 (os.set i x) := fun y hy => by
  rcases List.mem_or_eq_of_mem_set hy with hy | rfl
  · exact h y hy
  · exact hx
theorem W64.rep (n : Nat) : W64 (List.replicate n 0) := fun y hy => by rw [List.eq_of_mem_replicate hy]; omega
theorem val_rep : ∀ n : Nat, val (List.replicate n 0) = 0
  | 0 => rfl
  | n + 1 => by rw [List.replicate_succ]; simp [val, val_rep n]

/-! sum -/
def SumSt (a b os : List Nat) (i c : Nat) : Prop := val (os.take i) + 18446744073709551616 ^ i * c = val (a.take i) + val (b.take i)
theorem sum_step {a b os : List Nat} {i c s : Nat} (h : SumSt a b os i c) (hi : i < os.length) (hs : s = a.getD i 0 + c + b.getD i 0) : SumSt a b (os.set i (s % 18446744073709551616)) (i + 1) (s / 18446744073709551616) := by
  unfold SumSt at *
  rw [val_take_succ', val_take_succ', val_take_succ', set_take, set_getD hi, Nat.pow_succ]
  have e : 18446744073709551616 ^ i * (s % 18446744073709551616) + 18446744073709551616 ^ i * 18446744073709551616 * (s / 18446744073709551616) = 18446744073709551616 ^ i * s := by
    rw [Nat.mul_assoc, ← Nat.mul_add, Nat.mod_add_div]
  have e2 : 18446744073709551616 ^ i * s = 18446744073709551616 ^ i * a.getD i 0 + 18446744073709551616 ^ i * c + 18446744073709551616 ^ i * b.getD i 0 := by rw [hs, Nat.mul_add, Nat.mul_add]
  omega
theorem sum_end {a b os : List Nat} {n c : Nat} (h : SumSt a b os n c) (ha : a.length = n) (hb : b.length ≤ n) (hn : os.length = n + 1) : val (os.set n c) = val a + val b := by
  unfold SumSt at h
  rw [List.take_of_length_le (l := a) (by omega), List.take_of_length_le (l := b) (by omega)] at h
  have h1 := val_take_succ' (os.set n c) n
  rw [List.take_of_length_le (by rw [List.length_set]; omega), set_take, set_getD (by omega)] at h1
  omega

/-! difference -/
def DifSt (a b os : List Nat) (i c : Nat) : Prop := val (os.take i) + val (b.take i) = val (a.take i) + 18446744073709551616 ^ i * c
theorem dif_no {a b os : List Nat} {i c : Nat} (h : DifSt a b os i c) (hi : i < os.length) (hx : c + b.getD i 0 ≤ a.getD i 0) : DifSt a b (os.set i (a.getD i 0 - (c + b.getD i 0))) (i + 1) 0 := by
  unfold DifSt at *
  rw [val_take_succ', val_take_succ', val_take_succ', set_take, set_getD hi]
  have e : 18446744073709551616 ^ i * (a.getD i 0 - (c + b.getD i 0)) + 18446744073709551616 ^ i * (c + b.getD i 0) = 18446744073709551616 ^ i * a.getD i 0 := by rw [← Nat.mul_add]; congr 1; omega
  rw [Nat.mul_add] at e
  omega
theorem dif_yes {a b os : List Nat} {i c : Nat} (h : DifSt a b os i c) (hi : i < os.length) (hx : a.getD i 0 < c + b.getD i 0) (hy : c + b.getD i 0 ≤ a.getD i 0 + 18446744073709551616) :
    DifSt a b (os.set i (a.getD i 0 + 18446744073709551616 - (c + b.getD i 0))) (i + 1) 1 := by
  unfold DifSt at *
  rw [val_take_succ', val_take_succ', val_take_succ', set_take, set_getD hi, Nat.pow_succ]
  have e : 18446744073709551616 ^ i * (a.getD i 0 + 18446744073709551616 - (c + b.getD i 0)) + 18446744073709551616 ^ i * (c + b.getD i 0) = 18446744073709551616 ^ i * (a.getD i 0 + 18446744073709551616) := by rw [← Nat.mul_add]; congr 1; omega
  rw [Nat.mul_add, Nat.mul_add] at e
  omega
theorem dif_end {a b os : List Nat} {n c : Nat} (h : DifSt a b os n c) (ha : a.length = n) (hb : b.length ≤ n) (hn : os.length = n) (hw : W64 os) (hle : val b ≤ val a) : val os = val a - val b := by
  unfold DifSt at h
  rw [List.take_of_length_le (l := a) (by omega), List.take_of_length_le (l := b) (by omega), List.take_of_length_le (l := os) (by omega)] at h
  have hl := val_lt hw
  rw [hn] at hl
  rcases Nat.eq_zero_or_pos c with rfl | hc
  · simp at h; omega
  · have : 18446744073709551616 ^ n * 1 ≤ 18446744073709551616 ^ n * c := Nat.mul_le_mul_left _ hc
    omega

/-! product -/
/-- ahead of word i of a and word k of b: what stands in os, with the carry -/
def ProSt (a b os : List Nat) (i k c : Nat) : Prop :=
  val os + 18446744073709551616 ^ (i + k) * c = val (a.take i) * val b + 18446744073709551616 ^ i * a.getD i 0 * val (b.take k)
def Clear (os : List Nat) (j : Nat) : Prop := ∀ i, j ≤ i → os.getD i 0 = 0
theorem pro_step {a b os : List Nat} {i k c t : Nat} (h : ProSt a b os i k c) (hi : i + k < os.length) (ht : t = a.getD i 0 * b.getD k 0 + os.getD (i + k) 0 + c) :
    ProSt a b (os.set (i + k) (t % 18446744073709551616)) i (k + 1) (t / 18446744073709551616) := by
  unfold ProSt at *
  rw [val_take_succ']
  have hs := set_val (x := t % 18446744073709551616) hi
  have e : 18446744073709551616 ^ (i + k) * (t % 18446744073709551616) + 18446744073709551616 ^ (i + k + 1) * (t / 18446744073709551616) = 18446744073709551616 ^ (i + k) * t := by
    rw [Nat.pow_succ, Nat.mul_assoc, ← Nat.mul_add, Nat.mod_add_div]
  have e2 : 18446744073709551616 ^ (i + k) * t = 18446744073709551616 ^ i * a.getD i 0 * (18446744073709551616 ^ k * b.getD k 0) + 18446744073709551616 ^ (i + k) * os.getD (i + k) 0 + 18446744073709551616 ^ (i + k) * c := by
    rw [ht, Nat.mul_add, Nat.mul_add, Nat.pow_add]
    congr 2
    rw [Nat.mul_assoc, Nat.mul_assoc]
    congr 1
    rw [Nat.mul_left_comm]
  rw [show i + (k + 1) = i + k + 1 by omega, Nat.mul_add]
  omega
theorem pro_next {a b os : List Nat} {i c : Nat} (h : ProSt a b os i b.length c) (hc : Clear os (i + b.length)) (hi : i + b.length < os.length) :
    ProSt a b (os.set (i + b.length) c) (i + 1) 0 0 := by
  have hs := set_val (x := c) hi
  have hz := hc (i + b.length) (Nat.le_refl _)
  have h' : val os + 18446744073709551616 ^ (i + b.length) * c = val (a.take i) * val b + 18446744073709551616 ^ i * a.getD i 0 * val b := by
    have := h
    unfold ProSt at this
    rwa [List.take_of_length_le (l := b) (Nat.le_refl _)] at this
  show val (os.set (i + b.length) c) + 18446744073709551616 ^ (i + 1 + 0) * 0 = val (a.take (i + 1)) * val b + 18446744073709551616 ^ (i + 1) * a.getD (i + 1) 0 * 0
  rw [Nat.mul_zero, Nat.mul_zero, Nat.add_zero, Nat.add_zero, val_take_succ', Nat.add_mul, ← h']
  rw [hz, Nat.mul_zero, Nat.add_zero] at hs
  exact hs
theorem pro_start (a b : List Nat) (n : Nat) : ProSt a b (List.replicate n 0) 0 0 0 := by unfold ProSt; simp [val, val_rep]
theorem pro_end {a b os : List Nat} {n : Nat} (h : ProSt a b os n 0 0) (ha : a.length = n) : val os = val a * val b := by
  unfold ProSt at h
  rw [List.take_of_length_le (l := a) (by omega)] at h
  simpa [val] using h
theorem pro_zero {a b os : List Nat} {i : Nat} (h : ProSt a b os i 0 0) : ProSt a b os i 0 0 := h
theorem Clear.set {os : List Nat} {j i x : Nat} (h : Clear os j) (hi : i < j) : Clear (os.set i x) j := fun k hk => by
  rw [set_getD_ne (by omega)]; exact h k hk
theorem Clear.step {os : List Nat} {j x : Nat} (h : Clear os j) : Clear (os.set j x) (j + 1) := fun k hk => by
  rw [set_getD_ne (by omega)]; exact h k (by omega)
theorem Clear.rep (n j : Nat) : Clear (List.replicate n 0) j := fun i _ => by
  rw [List.getD_eq_getElem?_getD, List.getElem?_replicate]; split <;> rfl
theorem pro_word {x y o c : Nat} (hx : x < 18446744073709551616) (hy : y < 18446744073709551616) (ho : o < 18446744073709551616) (hc : c < 18446744073709551616) : x * y + o + c < 340282366920938463463374607431768211456 := by
  have : x * y ≤ 18446744073709551615 * 18446744073709551615 := Nat.mul_le_mul (by omega) (by omega)
  omega

/-! quotient by one word -/
def QuoSt (m os : List Nat) (d i r : Nat) : Prop := val (m.drop i) = d * val (os.drop i) + r ∧ r < d
theorem val_drop_step (ws : List Nat) {k : Nat} (h : k < ws.length) : val (ws.drop k) = ws.getD k 0 + 18446744073709551616 * val (ws.drop (k + 1)) := by
  rw [List.drop_eq_getElem_cons h, val, List.getD_eq_getElem?_getD, List.getElem?_eq_getElem h]; rfl
theorem quo_step {m os : List Nat} {d i r t : Nat} (h : QuoSt m os d (i + 1) r) (hm : i < m.length) (ho : i < os.length) (hd : 0 < d) (ht : t = r * 18446744073709551616 + m.getD i 0) :
    QuoSt m (os.set i (t / d)) d i (t % d) := by
  obtain ⟨h1, h2⟩ := h
  refine ⟨?_, Nat.mod_lt _ hd⟩
  rw [val_drop_step m hm, val_drop_step (os.set i (t / d)) (by rw [List.length_set]; exact ho), set_getD ho, List.drop_set_of_lt (by omega), h1]
  have e := Nat.div_add_mod t d
  rw [Nat.mul_add, Nat.mul_add, Nat.mul_left_comm]
  omega
theorem quo_start (m : List Nat) (d n : Nat) (hm : m.length = n) (hd : 0 < d) : QuoSt m (List.replicate n 0) d n 0 := by
  refine ⟨?_, hd⟩
  rw [List.drop_of_length_le (by omega), List.drop_of_length_le (by simp)]; simp [val]
theorem quo_end {m os : List Nat} {d r : Nat} (h : QuoSt m os d 0 r) (hd : 0 < d) : val os = val m / d ∧ r = val m % d := by
  obtain ⟨h1, h2⟩ := h
  simp only [List.drop_zero] at h1
  rw [h1, Nat.mul_add_div hd, Nat.div_eq_of_lt h2, Nat.mul_add_mod, Nat.mod_eq_of_lt h2]
  exact ⟨by omega, rfl⟩
theorem quo_word {r d x : Nat} (hr : r < d) (hd : d < 18446744073709551616) (hx : x < 18446744073709551616) : (r * 18446744073709551616 + x) / d < 18446744073709551616 := by
  rw [Nat.div_lt_iff_lt_mul (by omega)]
  have : (r + 1) * 18446744073709551616 ≤ d * 18446744073709551616 := Nat.mul_le_mul_right _ hr
  rw [Nat.mul_comm 18446744073709551616 d]
  omega
/-! a block of words that the call has made -/
def cellsW (ws : List Nat) : Array Value := (ws.map fun x => Value.int .u64 (x : Nat)).toArray
def Blk (w : World) (g : Nat) (ws : List Nat) : Prop := w.heap[g]? = some (.cells (cellsW ws) 63 (0, 0))
theorem cellsW_get {ws : List Nat} {j : Nat} (hj : j < ws.length) : (cellsW ws)[j]? = some (.int .u64 (ws.getD j 0 : Nat)) := by
  unfold cellsW
  rw [List.getElem?_toArray]
  exact vals_get hj
theorem cellsW_set (ws : List Nat) (i x : Nat) : (cellsW ws).setIfInBounds i (.int .u64 (x : Nat)) = cellsW (ws.set i x) := by
  unfold cellsW
  rw [List.setIfInBounds_toArray, List.map_set]
theorem cellsW_rep (n : Nat) : madeCells #[Value.int .u64 0] n = cellsW (List.replicate n 0) := by
  unfold cellsW
  apply Array.ext'
  have e : ∀ x : Nat, [Value.int .u64 0][x % 1]?.getD default = Value.int .u64 0 := fun x => by rw [Nat.mod_one]; rfl
  simp [madeCells, e, List.map_const']
theorem Blk.lt {w : World} {g : Nat} {ws : List Nat} (h : Blk w g ws) : g < w.heap.size := by
  rcases Nat.lt_or_ge g w.heap.size with hlt | hge
  · exact hlt
  · unfold Blk at h; rw [Array.getElem?_eq_none hge] at h; cases h
theorem Blk.cell {w : World} {g : Nat} {ws : List Nat} (h : Blk w g ws) {j : Nat} (hj : j < ws.length) : w.cell? ⟨g, j, none⟩ = some (.int .u64 (ws.getD j 0 : Nat)) := by
  rw [cell_of_row w g j _ _ (0, 0) h]; exact cellsW_get hj
theorem Blk.frozen {w : World} {g : Nat} {ws : List Nat} (h : Blk w g ws) (j : Nat) : w.frozen? ⟨g, j, none⟩ = false := by
  unfold Blk at h
  simp [World.frozen?, h]
theorem Blk.set {w : World} {g : Nat} {ws : List Nat} (h : Blk w g ws) (i x : Nat) : Blk (w.setCell ⟨g, i, none⟩ (.int .u64 (x : Nat))) g (ws.set i x) := by
  unfold Blk at *
  simp [World.setCell, Array.getElem?_modify, h, cellsW_set]
theorem Blk.drewN {w : World} {g : Nat} {ws : List Nat} (h : Blk w g ws) (n : Nat) : Blk (w.drewN n) g ws := h
theorem Blk.made (w : World) (n : Nat) : Blk (w.alloc (.cells (madeCells #[.int .u64 0] n) 63)) w.heap.size (List.replicate n 0) := by
  unfold Blk
  rw [← cellsW_rep]
  exact heap_alloc_new w _
theorem Blk.mag {w : World} {g : Nat} {ws : List Nat} (h : Blk w g ws) (hw : W64 ws) (hl : ws.length ≤ 9223372036854775807) : Mag w (.slice (some ⟨g, 0, none⟩) ws.length ws.length) ws :=
  ⟨_, _, rfl, Nat.le_refl _, hl, hw, fun _ => ⟨g, 0, rfl, h.lt, fun j hj => by rw [Nat.zero_add]; exact h.cell hj⟩⟩
end Go.Proofs.YthnmfcjodobkbaaGreatDoor.Nb
