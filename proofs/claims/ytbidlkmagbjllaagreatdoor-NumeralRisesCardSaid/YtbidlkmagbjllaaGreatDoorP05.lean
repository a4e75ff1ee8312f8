/- Y7 E2 Q7 Q8 in one text. -/
import Derived.Test.YtbidlkmagbjllaaGreatDoorP04
import Derived.Deep.OwnRows
import Derived.Laws.RangeString

namespace Go.Proofs.YtbidlkmagbjllaaGreatDoor.Nb
open Go Go.RowKit

theorem val_take_succ' (ws : List Nat) (k : Nat) : val (ws.take (k + 1)) = val (ws.take k) + 18446744073709551616 ^ k * ws.getD k 0 := by
  by_cases h : k < ws.length
  · exact val_take_succ h
  · rw [List.take_of_length_le (by omega), List.take_of_length_le (by omega), List.getD_eq_getElem?_getD, List.getElem?_eq_none (by omega)]
    simp
theorem set_take {os : List Nat} {i x : Nat} : (os.set i x).take i = os.take i := by
  rw [List.take_set_of_le (Nat.le_refl _)]
theorem set_getD {os : List Nat} {i x : Nat} (h : i < os.length) : (os.set i x).getD i 0 = x := by
  rw [List.getD_eq_getElem?_getD, List.getElem?_set_self h]; rfl
theorem set_getD_ne {os : List Nat} {i j x : Nat} (h : i ≠ j) : (os.set i x).getD j 0 = os.getD j 0 := by
  rw [List.getD_eq_getElem?_getD, List.getElem?_set_ne h, List.getD_eq_getElem?_getD]
theorem set_val {os : List Nat} {i x : Nat} (h : i < os.length) : val (os.set i x) + 18446744073709551616 ^ i * os.getD i 0 = val os + 18446744073709551616 ^ i * x := by
  have h1 := val_take_drop (os.set i x) (k := i + 1) (by rw [List.length_set]; omega)
  have h2 := val_take_drop os (k := i + 1) (by omega)
  rw [val_take_succ', set_take, set_getD h, List.drop_set_of_lt (by omega)] at h1
  rw [val_take_succ'] at h2
  omega
theorem W64.set {os : List Nat} (h : W64 os) {i x : Nat} (hx : x < 18446744073709551616) : W64 (os.set i x) := fun y hy => by
  rcases List.mem_or_eq_of_mem_set hy with hy | rfl
  · exact h y hy
  · exact hx
theorem W64.rep (n : Nat) : W64 (List.replicate n 0) := fun y hy => by rw [List.eq_of_mem_replicate hy]; omega
theorem val_rep : ∀ n : Nat, val (List.replicate n 0) = 0
  | 0 => rfl
  | n + 1 => by rw [List.replicate_succ]; simp [val, val_rep n]

/-! sum -/
def SumSt (a b os : List Nat) (i c : Nat) : Prop := val (os.take i) + 18446744073709551616 ^ i * c = val (a.take i) + val (b.take i)
theorem sum_step {a b os : List Nat} {i c s : Nat} (h : SumSt a b os i c) (hi : i < os.length) (hs : s = a.getD i 0 + c + b.getD i 0) : SumSt a b (os.set i (s % 18446744073709551616)) (i + 1) (s / 18446744073709551616) := by
  unfold SumSt at *
  rw [val_take_succ', val_take_succ', val_take_succ', set_take, set_getD hi, Nat.pow_succ]
  have e : 18446744073709551616 ^ i * (s % 18446744073709551616) + 18446744073709551616 ^ i * 18446744073709551616 * (s / 18446744073709551616) = 18446744073709551616 ^ i * s := by
    rw [Nat.mul_assoc, ← Nat.mul_add, Nat.mod_add_div]
  have e2 : 18446744073709551616 ^ i * s = 18446744073709551616 ^ i * a.getD i 0 + 18446744073709551616 ^ i * c + 18446744073709551616 ^ i * b.getD i 0 := by rw [hs, Nat.mul_add, Nat.mul_add]
  omega
theorem sum_end {a b os : List Nat} {n c : Nat} (h : SumSt a b os n c) (ha : a.length = n) (hb : b.length ≤ n) (hn : os.length = n + 1) : val (os.set n c) = val a + val b := by
  unfold SumSt at h
  rw [List.take_of_length_le (l := a) (by omega), List.take_of_length_le (l := b) (by omega)] at h
  have h1 := val_take_succ' (os.set n c) n
  rw [List.take_of_length_le (by rw [List.length_set]; omega), set_take, set_getD (by omega)] at h1
  omega

/-! difference -/
def DifSt (a b os : List Nat) (i c : Nat) : Prop := val (os.take i) + val (b.take i) = val (a.take i) + 18446744073709551616 ^ i * c
theorem dif_no {a b os : List Nat} {i c : Nat} (h : DifSt a b os i c) (hi : i < os.length) (hx : c + b.getD i 0 ≤ a.getD i 0) : DifSt a b (os.set i (a.getD i 0 - (c + b.getD i 0))) (i + 1) 0 := by
  unfold DifSt at *
  rw [val_take_succ', val_take_succ', val_take_succ', set_take, set_getD hi]
  have e : 18446744073709551616 ^ i * (a.getD i 0 - (c + b.getD i 0)) + 18446744073709551616 ^ i * (c + b.getD i 0) = 18446744073709551616 ^ i * a.getD i 0 := by rw [← Nat.mul_add]; congr 1; omega
  rw [Nat.mul_add] at e
  omega
theorem dif_yes {a b os : List Nat} {i c : Nat} (h : DifSt a b os i c) (hi : i < os.length) (hx : a.getD i 0 < c + b.getD i 0) (hy : c + b.getD i 0 ≤ a.getD i 0 + 18446744073709551616) :
    DifSt a b (os.set i (a.getD i 0 + 18446744073709551616 - (c + b.getD i 0))) (i + 1) 1 := by
  unfold DifSt at *
  rw [val_take_succ', val_take_succ', val_take_succ', set_take, set_getD hi, Nat.pow_succ]
  have e : 18446744073709551616 ^ i * (a.getD i 0 + 18446744073709551616 - (c + b.getD i 0)) + 18446744073709551616 ^ i * (c + b.getD i 0) = 18446744073709551616 ^ i * (a.getD i 0 + 18446744073709551616) := by rw [← Nat.mul_add]; congr 1; omega
  rw [Nat.mul_add, Nat.mul_add] at e
  omega
theorem dif_end {a b os : List Nat} {n c : Nat} (h : DifSt a b os n c) (ha : a.length = n) (hb : b.length ≤ n) (hn : os.length = n) (hw : W64 os) (hle : val b ≤ val a) : val os = val a - val b := by
  unfold DifSt at h
  rw [List.take_of_length_le (l := a) (by omega), List.take_of_length_le (l := b) (by omega), List.take_of_length_le (l := os) (by omega)] at h
  have hl := val_lt hw
  rw [hn] at hl
  rcases Nat.eq_zero_or_pos c with rfl | hc
  · simp at h; omega
  · have : 18446744073709551616 ^ n * 1 ≤ 18446744073709551616 ^ n * c := Nat.mul_le_mul_left _ hc
    omega

/-! product -/
/-- ahead of word i of a and word k of b: what stands in os, with the carry -/
def ProSt (a b os : List Nat) (i k c : Nat) : Prop :=
  val os + 18446744073709551616 ^ (i + k) * c = val (a.take i) * val b + 18446744073709551616 ^ i * a.getD i 0 * val (b.take k)
def Clear (os : List Nat) (j : Nat) : Prop := ∀ i, j ≤ i → os.getD i 0 = 0
theorem pro_step {a b os : List Nat} {i k c t : Nat} (h : ProSt a b os i k c) (hi : i + k < os.length) (ht : t = a.getD i 0 * b.getD k 0 + os.getD (i + k) 0 + c) :
    ProSt a b (os.set (i + k) (t % 18446744073709551616)) i (k + 1) (t / 18446744073709551616) := by
  unfold ProSt at *
  rw [val_take_succ']
  have hs := set_val (x := t % 18446744073709551616) hi
  have e : 18446744073709551616 ^ (i + k) * (t % 18446744073709551616) + 18446744073709551616 ^ (i + k + 1) * (t / 18446744073709551616) = 18446744073709551616 ^ (i + k) * t := by
    rw [Nat.pow_succ, Nat.mul_assoc, ← Nat.mul_add, Nat.mod_add_div]
  have e2 : 18446744073709551616 ^ (i + k) * t = 18446744073709551616 ^ i * a.getD i 0 * (18446744073709551616 ^ k * b.getD k 0) + 18446744073709551616 ^ (i + k) * os.getD (i + k) 0 + 18446744073709551616 ^ (i + k) * c := by
    rw [ht, Nat.mul_add, Nat.mul_add, Nat.pow_add]
    congr 2
    rw [Nat.mul_assoc, Nat.mul_assoc]
    congr 1
    rw [Nat.mul_left_comm]
  rw [show i + (k + 1) = i + k + 1 by omega, Nat.mul_add]
  omega
theorem pro_next {a b os : List Nat} {i c : Nat} (h : ProSt a b os i b.length c) (hc : Clear os (i + b.length)) (hi : i + b.length < os.length) :
    ProSt a b (os.set (i + b.length) c) (i + 1) 0 0 := by
  have hs := set_val (x := c) hi
  have hz := hc (i + b.length) (Nat.le_refl _)
  have h' : val os + 18446744073709551616 ^ (i + b.length) * c = val (a.take i) * val b + 18446744073709551616 ^ i * a.getD i 0 * val b := by
    have := h
    unfold ProSt at this
    rwa [List.take_of_length_le (l := b) (Nat.le_refl _)] at this
  show val (os.set (i + b.length) c) + 18446744073709551616 ^ (i + 1 + 0) * 0 = val (a.take (i + 1)) * val b + 18446744073709551616 ^ (i + 1) * a.getD (i + 1) 0 * 0
  rw [Nat.mul_zero, Nat.mul_zero, Nat.add_zero, Nat.add_zero, val_take_succ', Nat.add_mul, ← h']
  rw [hz, Nat.mul_zero, Nat.add_zero] at hs
  exact hs
theorem pro_start (a b : List Nat) (n : Nat) : ProSt a b (List.replicate n 0) 0 0 0 := by unfold ProSt; simp [val, val_rep]
theorem pro_end {a b os : List Nat} {n : Nat} (h : ProSt a b os n 0 0) (ha : a.length = n) : val os = val a * val b := by
  unfold ProSt at h
  rw [List.take_of_length_le (l := a) (by omega)] at h
  simpa [val] using h
theorem pro_zero {a b os : List Nat} {i : Nat} (h : ProSt a b os i 0 0) : ProSt a b os i 0 0 := h
theorem Clear.set {os : List Nat} {j i x : Nat} (h : Clear os j) (hi : i < j) : Clear (os.set i x) j := fun k hk => by
  rw [set_getD_ne (by omega)]; exact h k hk
theorem Clear.step {os : List Nat} {j x : Nat} (h : Clear os j) : Clear (os.set j x) (j + 1) := fun k hk => by
  rw [set_getD_ne (by omega)]; exact h k (by omega)
theorem Clear.rep (n j : Nat) : Clear (List.replicate n 0) j := fun i _ => by
  rw [List.getD_eq_getElem?_getD, List.getElem?_replicate]; split <;> rfl
theorem pro_word {x y o c : Nat} (hx : x < 18446744073709551616) (hy : y < 18446744073709551616) (ho : o < 18446744073709551616) (hc : c < 18446744073709551616) : x * y + o + c < 340282366920938463463374607431768211456 := by
  have : x * y ≤ 18446744073709551615 * 18446744073709551615 := Nat.mul_le_mul (by omega) (by omega)
  omega

/-! quotient by one word -/
def QuoSt (m os : List Nat) (d i r : Nat) : Prop := val (m.drop i) = d * val (os.drop i) + r ∧ r < d
theorem val_drop_step (ws : List Nat) {k : Nat} (h : k < ws.length) : val (ws.drop k) = ws.getD k 0 + 18446744073709551616 * val (ws.drop (k + 1)) := by
  rw [List.drop_eq_getElem_cons h, val, List.getD_eq_getElem?_getD, List.getElem?_eq_getElem h]; rfl
theorem quo_step {m os : List Nat} {d i r t : Nat} (h : QuoSt m os d (i + 1) r) (hm : i < m.length) (ho : i < os.length) (hd : 0 < d) (ht : t = r * 18446744073709551616 + m.getD i 0) :
    QuoSt m (os.set i (t / d)) d i (t % d) := by
  obtain ⟨h1, h2⟩ := h
  refine ⟨?_, Nat.mod_lt _ hd⟩
  rw [val_drop_step m hm, val_drop_step (os.set i (t / d)) (by rw [List.length_set]; exact ho), set_getD ho, List.drop_set_of_lt (by omega), h1]
  have e := Nat.div_add_mod t d
  rw [Nat.mul_add, Nat.mul_add, Nat.mul_left_comm]
  omega
theorem quo_start (m : List Nat) (d n : Nat) (hm : m.length = n) (hd : 0 < d) : QuoSt m (List.replicate n 0) d n 0 := by
  refine ⟨?_, hd⟩
  rw [List.drop_of_length_le (by omega), List.drop_of_length_le (by simp)]; simp [val]
theorem quo_end {m os : List Nat} {d r : Nat} (h : QuoSt m os d 0 r) (hd : 0 < d) : val os = val m / d ∧ r = val m % d := by
  obtain ⟨h1, h2⟩ := h
  simp only [List.drop_zero] at h1
  rw [h1, Nat.mul_add_div hd, Nat.div_eq_of_lt h2, Nat.mul_add_mod, Nat.mod_eq_of_lt h2]
  exact ⟨by omega, rfl⟩
theorem quo_word {r d x : Nat} (hr : r < d) (hd : d < 18446744073709551616) (hx : x < 18446744073709551616) : (r * 18446744073709551616 + x) / d < 18446744073709551616 := by
  rw [Nat.div_lt_iff_lt_mul (by omega)]
  have : (r + 1) * 18446744073709551616 ≤ d * 18446744073709551616 := Nat.mul_le_mul_right _ hr
  rw [Nat.mul_comm 18446744073709551616 d]
  omega
/-! a block of words that the call has made -/
def cellsW (ws : List Nat) : Array Value := (ws.map fun x => Value.int .u64 (x : Nat)).toArray
def Blk (w : World) (g : Nat) (ws : List Nat) : Prop := w.heap[g]? = some (.cells (cellsW ws) 74 (0, 0))
theorem cellsW_get {ws : List Nat} {j : Nat} (hj : j < ws.length) : (cellsW ws)[j]? = some (.int .u64 (ws.getD j 0 : Nat)) := by
  unfold cellsW
  rw [List.getElem?_toArray]
  exact vals_get hj
theorem cellsW_set (ws : List Nat) (i x : Nat) : (cellsW ws).setIfInBounds i (.int .u64 (x : Nat)) = cellsW (ws.set i x) := by
  unfold cellsW
  rw [List.setIfInBounds_toArray, List.map_set]
theorem cellsW_rep (n : Nat) : madeCells #[Value.int .u64 0] n = cellsW (List.replicate n 0) := by
  unfold cellsW
  apply Array.ext'
  have e : ∀ x : Nat, [Value.int .u64 0][x % 1]?.getD default = Value.int .u64 0 := fun x => by rw [Nat.mod_one]; rfl
  simp [madeCells, e, List.map_const']
theorem Blk.lt {w : World} {g : Nat} {ws : List Nat} (h : Blk w g ws) : g < w.heap.size := by
  rcases Nat.lt_or_ge g w.heap.size with hlt | hge
  · exact hlt
  · unfold Blk at h; rw [Array.getElem?_eq_none hge] at h; cases h
theorem Blk.cell {w : World} {g : Nat} {ws : List Nat} (h : Blk w g ws) {j : Nat} (hj : j < ws.length) : w.cell? ⟨g, j, none⟩ = some (.int .u64 (ws.getD j 0 : Nat)) := by
  rw [cell_of_row w g j _ _ (0, 0) h]; exact cellsW_get hj
theorem Blk.frozen {w : World} {g : Nat} {ws : List Nat} (h : Blk w g ws) (j : Nat) : w.frozen? ⟨g, j, none⟩ = false := by
  unfold Blk at h
  simp [World.frozen?, h]
theorem Blk.set {w : World} {g : Nat} {ws : List Nat} (h : Blk w g ws) (i x : Nat) : Blk (w.setCell ⟨g, i, none⟩ (.int .u64 (x : Nat))) g (ws.set i x) := by
  unfold Blk at *
  simp [World.setCell, Array.getElem?_modify, h, cellsW_set]
theorem Blk.drewN {w : World} {g : Nat} {ws : List Nat} (h : Blk w g ws) (n : Nat) : Blk (w.drewN n) g ws := h
theorem Blk.made (w : World) (n : Nat) : Blk (w.alloc (.cells (madeCells #[.int .u64 0] n) 74)) w.heap.size (List.replicate n 0) := by
  unfold Blk
  rw [← cellsW_rep]
  exact heap_alloc_new w _
theorem Blk.mag {w : World} {g : Nat} {ws : List Nat} (h : Blk w g ws) (hw : W64 ws) (hl : ws.length ≤ 9223372036854775807) : Mag w (.slice (some ⟨g, 0, none⟩) ws.length ws.length) ws :=
  ⟨_, _, rfl, Nat.le_refl _, hl, hw, fun _ => ⟨g, 0, rfl, h.lt, fun j hj => by rw [Nat.zero_add]; exact h.cell hj⟩⟩
end Go.Proofs.YtbidlkmagbjllaaGreatDoor.Nb

namespace Go.Proofs.YtbidlkmagbjllaaGreatDoor.Nb
open Go Go.RowKit

/-- a place k in the text s lies in block b -/
def CurAt (w : World) (b : Nat) (s : ByteArray) (k : Nat) : Prop :=
  b < w.heap.size ∧ w.cell? ⟨b, 0, none⟩ = some (.string s) ∧ w.cell? ⟨b, 1, none⟩ = some (.int .i64 (k : Nat)) ∧ w.frozen? ⟨b, 1, none⟩ = false
theorem CurAt.below {w w' : World} {b k B : Nat} {s : ByteArray} (h : CurAt w b s k) (hb : Below B w w') (hB : w.heap.size ≤ B) : CurAt w' b s k := by
  obtain ⟨h1, h2, h3, h4⟩ := h
  have q : b < B := by omega
  exact ⟨Nat.lt_of_lt_of_le h1 hb.size, (hb.cell (p := ⟨b, 0, none⟩) q).trans h2, (hb.cell (p := ⟨b, 1, none⟩) q).trans h3, (hb.frozen (p := ⟨b, 1, none⟩) q).trans h4⟩
theorem CurAt.set {w : World} {b k : Nat} {s : ByteArray} (h : CurAt w b s k) (k' : Nat) : CurAt (w.setCell ⟨b, 1, none⟩ (.int .i64 (k' : Nat))) b s k' := by
  obtain ⟨h1, h2, h3, h4⟩ := h
  refine ⟨by simpa [World.setCell] using h1, ?_, ?_, ?_⟩
  · simp [go_sem, h2]
  · simp [go_sem, h3]
  · simp [go_sem, h4]

/-- every block but one stands as it stood -/
structure Kept (w w' : World) (b : Nat) : Prop where
  size : w.heap.size ≤ w'.heap.size
  block : ∀ k, k < w.heap.size → k ≠ b → w'.heap[k]? = w.heap[k]?
theorem Kept.refl (w : World) (b : Nat) : Kept w w b := ⟨Nat.le_refl _, fun _ _ _ => rfl⟩
theorem Kept.trans {u v w : World} {b : Nat} (h : Kept u v b) (k : Kept v w b) : Kept u w b :=
  ⟨Nat.le_trans h.size k.size, fun i hi hn => (k.block i (Nat.lt_of_lt_of_le hi h.size) hn).trans (h.block i hi hn)⟩
theorem Kept.of_below {w w' : World} {b : Nat} (h : Below w.heap.size w w') : Kept w w' b := ⟨h.size, fun k hk _ => h.block k hk⟩
theorem Kept.setCell {w w' : World} {b o : Nat} (h : Kept w w' b) (v : Value) : Kept w (w'.setCell ⟨b, o, none⟩ v) b :=
  ⟨by simpa [World.setCell] using h.size, fun k hk hn => (Below.heap_setCell w' ⟨b, o, none⟩ v k hn).trans (h.block k hk hn)⟩
theorem Kept.drewN {w w' : World} {b : Nat} (h : Kept w w' b) (n : Nat) : Kept w (w'.drewN n) b := ⟨h.size, h.block⟩
theorem Kept.cell {w w' : World} {b : Nat} (h : Kept w w' b) {p : Addr} (hp : p.block < w.heap.size) (hn : p.block ≠ b) : w'.cell? p = w.cell? p := World.cell?_of_block (w := w) (h.block p.block hp hn)
theorem Kept.frozen {w w' : World} {b : Nat} (h : Kept w w' b) {p : Addr} (hp : p.block < w.heap.size) (hn : p.block ≠ b) : w'.frozen? p = w.frozen? p := World.frozen?_of_block (w := w) (h.block p.block hp hn)

set_option maxRecDepth 8000 in
theorem end_any (b k : Nat) (s : ByteArray) (w : World) (h : CurAt w b s k) (d : Bool) (hd : d = decide (k = s.size)) :
    Calls Tryz.prog 47 #[.pointer (some ⟨b, 0, none⟩)] w fun e w' => e = .returned (.bool d) ∧ ∃ n, w' = w.drewN n := by
  obtain ⟨h1, h2, h3, h4⟩ := h
  have hk' : ((k : Int) == (s.size : Int)) = d := by
    rw [hd]
    by_cases c : k = s.size
    · simp [c]
    · simp [c]; omega
  clear hd
  go_enter Tryz.func47, Tryz.ntmps47
  go_wp2_with fail
  go_quiet (fail)
  go_wp2_with fail
  go_ret
  exact ⟨rfl, _, rfl⟩

set_option maxRecDepth 8000 in
theorem prefix_any (s p : ByteArray) (w : World) (d : Bool) (hd : d = (decide (p.size ≤ s.size) && (s.extract 0 p.size).toList == p.toList)) :
    Calls Tryz.prog 93 #[.string s, .string p] w fun e w' => e = .returned (.bool d) ∧ w' = w := by
  have H : Hid (Calls Tryz.prog 145 #[.string s, .string p] w fun e w' => e = .returned (.bool d) ∧ w' = w) := Lib.hid (by
    by_cases c : p.size ≤ s.size
    · have hc : (p.size : Int) ≤ (s.size : Int) := by omega
      have hd' : ((s.extract 0 p.size).toList == p.toList) = d := by rw [hd]; simp [c]
      clear hd
      go_enter Tryz.func145, Tryz.ntmps145
      go_wp2_with fail
      go_ret
      exact ⟨rfl, rfl⟩
    · have hc : ¬ (p.size : Int) ≤ (s.size : Int) := by omega
      have hd' : d = false := by rw [hd]; simp [c]
      subst hd'
      clear hd
      go_enter Tryz.func145, Tryz.ntmps145
      go_wp2_with fail
      go_ret
      exact ⟨rfl, rfl⟩)
  clear hd
  go_enter Tryz.func93, Tryz.ntmps93
  go_wp2_with fail
  refine H.out.mono ?_
  rintro e w1 ⟨rfl, rfl⟩
  go_wp2_with fail
  go_ret
  exact ⟨rfl, rfl⟩

theorem ext_ext (s : ByteArray) (k n : Nat) (h : k + n ≤ s.size) : (s.extract k s.size).extract 0 n = s.extract k (k + n) := by
  apply ByteArray.ext
  simp only [ByteArray.data_extract, Array.extract_extract]
  congr 1
  have : s.data.size = s.size := rfl
  omega
theorem ext_size (s : ByteArray) (k : Nat) (h : k ≤ s.size) : (s.extract k s.size).size = s.size - k := by
  rw [ByteArray.size_extract]; omega

theorem quiet_one {P : Program} {f : FuncId} {args : Array Value} {w : World} {a : Nat} {v : Value}
    (h : Calls P f args (w.drewN a) fun e w' => e = .returned v ∧ ∃ m, w' = (w.drewN a).drewN m) :
    Calls P f args (w.drewN a) fun e w'' => e = .returned v ∧ ∃ m, w'' = w.drewN m :=
  h.mono fun _ _ ⟨h1, m, h2⟩ => ⟨h1, a + m, by rw [h2, World.drewN_drewN]⟩
theorem below_de {B : Nat} {a w : World} (h : Below B a w) (n : Nat) : Below B a (w.drewN n) := ⟨h.os, h.tape, h.output, h.size, h.block⟩
theorem prefix_quiet (s p : ByteArray) (w : World) (d : Bool) (hd : d = (decide (p.size ≤ s.size) && (s.extract 0 p.size).toList == p.toList)) :
    Calls Tryz.prog 93 #[.string s, .string p] w fun e w' => e = .returned (.bool d) ∧ ∃ m, w' = w.drewN m :=
  (prefix_any s p w d hd).mono fun _ _ h => ⟨h.1, 0, h.2⟩

set_option maxRecDepth 8000 in
theorem take_yes (b k : Nat) (s p : ByteArray) (w : World) (h : CurAt w b s k) (hk : k + p.size ≤ s.size) (hs : s.size ≤ 4611686018427387904) (hp : s.extract k (k + p.size) = p) :
    Calls Tryz.prog 43 #[.pointer (some ⟨b, 0, none⟩), .string p] w fun e w' => e = .returned (.bool true) ∧ CurAt w' b s (k + p.size) ∧ Below b w w' ∧ Kept w w' b := by
  have HP := Lib.hid (fun j => prefix_quiet (s.extract k s.size) p (w.drewN j) true (by
    rw [ext_ext s k p.size hk, hp, ext_size s k (by omega)]
    simp; omega))
  have HC := Lib.hid h
  obtain ⟨h1, h2, h3, h4⟩ := h
  have hks : (k : Int) ≤ (s.size : Int) := by omega
  have hwr : IntKind.i64.wrap ((k : Int) + (p.size : Int)) = ((k + p.size : Nat) : Int) := by rw [IntKind.wrap_i64]; omega
  clear hp
  go_enter Tryz.func43, Tryz.ntmps43
  go_wp2_with fail
  go_quiet ((go_at_call 93; exact quiet_one (HP.out _)))
  go_wp2_with fail
  go_ret
  exact ⟨rfl, CurAt.set (show CurAt (w.drewN _) b s k from HC.out) (k + p.size), (below_de (Below.refl _ _) _).setCell (p := ⟨b, 1, none⟩) (Nat.le_refl _) _, ((Kept.refl w b).drewN _).setCell _⟩

set_option maxRecDepth 8000 in
theorem take_no (b k : Nat) (s p : ByteArray) (w : World) (h : CurAt w b s k) (hk : k ≤ s.size) (hp : ¬ (k + p.size ≤ s.size ∧ (s.extract k (k + p.size)).toList = p.toList)) :
    Calls Tryz.prog 43 #[.pointer (some ⟨b, 0, none⟩), .string p] w fun e w' => e = .returned (.bool false) ∧ ∃ n, w' = w.drewN n := by
  have HP := Lib.hid (fun j => prefix_quiet (s.extract k s.size) p (w.drewN j) false (by
    by_cases c : k + p.size ≤ s.size
    · rw [ext_ext s k p.size c]
      have c2 : ¬ (s.extract k (k + p.size)).toList = p.toList := fun e => hp ⟨c, e⟩
      simp [c2]
    · rw [ext_size s k hk]
      simp; omega))
  have HC := Lib.hid h
  obtain ⟨h1, h2, h3, h4⟩ := h
  have hks : (k : Int) ≤ (s.size : Int) := by omega
  clear hp
  go_enter Tryz.func43, Tryz.ntmps43
  go_wp2_with fail
  go_quiet ((go_at_call 93; exact quiet_one (HP.out _)))
  go_wp2_with fail
  go_ret
  exact ⟨rfl, _, rfl⟩

theorem sub_get (s : ByteArray) (k i : Nat) (h : i < (s.extract k s.size).size) : ((s.extract k s.size)[i]'h) = s.data.toList.getD (k + i) 0 := by
  have hs : k + i < s.size := by rw [ByteArray.size_extract] at h; omega
  have hs' : k + i < s.data.size := hs
  rw [ByteArray.getElem_eq_getElem_data]
  simp only [ByteArray.data_extract, Array.getElem_extract, List.getD_eq_getElem?_getD, Array.getElem?_toList]
  rw [Array.getElem?_eq_getElem hs']
  rfl

def DigSt (w : World) (b : Nat) (s : ByteArray) (k n i : Nat) (w' : World) : Prop :=
  i ≤ n ∧ CurAt w' b s (k + i) ∧ (Below b w w' ∧ Kept w w' b) ∧ w'.heap.size = w.heap.size

set_option maxRecDepth 8000 in
set_option maxHeartbeats 1000000 in
theorem digits_any (b k n : Nat) (s : ByteArray) (w : World) (h : CurAt w b s k) (hk : k + n ≤ s.size) (hs : s.size ≤ 4611686018427387904)
    (hd : ∀ i, i < n → 48 ≤ (s.data.toList.getD (k + i) 0).toNat ∧ (s.data.toList.getD (k + i) 0).toNat ≤ 57)
    (he : k + n = s.size ∨ (s.data.toList.getD (k + n) 0).toNat < 48 ∨ (57 < (s.data.toList.getD (k + n) 0).toNat ∧ (s.data.toList.getD (k + n) 0).toNat < 128)) :
    Calls Tryz.prog 44 #[.pointer (some ⟨b, 0, none⟩)] w fun e w' => e = .returned (.string (s.extract k (k + n))) ∧ CurAt w' b s (k + n) ∧ Below b w w' ∧ Kept w w' b := by
  have H0 := Lib.hid (show DigSt w b s k n 0 w from ⟨Nat.zero_le _, h, ⟨Below.refl _ _, Kept.refl _ _⟩, rfl⟩)
  have HD := Lib.hid (And.intro hd he)
  have HK := Lib.hid (And.intro hk hs)
  obtain ⟨h1, h2, h3, h4⟩ := h
  have hks : (k : Int) ≤ (s.size : Int) := by omega
  obtain ⟨t, ht⟩ : ∃ t, s.extract k s.size = t := ⟨_, rfl⟩
  have HT := Lib.hid ht
  have hts := ext_size s k (by omega)
  rw [ht] at hts
  clear hd he hk hs
  go_enter Tryz.func44, Tryz.ntmps44
  go_wp2_with fail
  go_loopw [5] (fun r wr => ∃ (i : Nat) (w1 : World), w1.iter t i = wr ∧ Hid (DigSt w b s k n i w1)) (fun _ wr => t.size - wr.iterPos w.heap.size)
  case atStart => exact ⟨0, w, rfl, H0⟩
  case round =>
    obtain ⟨i, w1, rfl, hp⟩ := hrel
    obtain ⟨m, hm⟩ : ∃ m, k + i = m := ⟨_, rfl⟩
    have hsz := hp.out.2.2.2
    have d1 := hp.out.2.1.2.1
    have d2 : w1.cell? ⟨b, 1, none⟩ = some (.int .i64 (m : Nat)) := by rw [← hm]; exact hp.out.2.1.2.2.1
    have d3 := hp.out.2.1.2.2.2
    have d0 : b < w1.heap.size := hp.out.2.1.1
    by_cases hi : i < t.size
    · have hg : (t[i]'hi) = s.data.toList.getD (k + i) 0 := by
        have := HT.out; subst this; exact sub_get s k i hi
      obtain ⟨c, hc⟩ : ∃ c, (t[i]'hi) = c := ⟨_, rfl⟩
      have hlt : c.toNat < 128 := by
        rw [← hc, hg]
        rcases Nat.lt_or_ge i n with q | q
        · have := HD.out.1 i q; omega
        · have := hp.out.1
          have e : i = n := by omega
          rcases HD.out.2 with q2 | q2 | q2
          · omega
          · rw [e]; omega
          · rw [e]; omega
      have hnx : ∀ ty, (Instr.next (.pointer (some ⟨w.heap.size, 0, none⟩)) true ty).run Tryz.prog (w1.iter t i) = .ok (.tuple #[.bool true, .int .i64 i, .int .i32 c.toNat]) (w1.iter t (i + 1)) := by
        intro ty
        have := run_next_ascii (P := Tryz.prog) w1 t i ty hi (by rw [hc]; exact hlt)
        rw [hsz, hc] at this
        exact this
      rcases Nat.lt_or_ge i n with q | q
      · have hdg := HD.out.1 i q
        rw [← hg, hc] at hdg
        have g1 : ¬ (c.toNat : Int) < 48 := by omega
        have g2 : ¬ (57 : Int) < (c.toNat : Int) := by omega
        obtain ⟨m1, hm1⟩ : ∃ m1, k + (i + 1) = m1 := ⟨_, rfl⟩
        have hwr : wrap64 ((m : Int) + 1) = (m1 : Int) := by have h0 := HK.out; unfold wrap64; omega
        have HM := Lib.hid (And.intro hm hm1)
        have e1 : (w1.iter t (i + 1)).cell? ⟨b, 1, none⟩ = some (.int .i64 (m : Int)) := by rw [World.iter, World.cell?_alloc_past _ _ _ (by exact d0)]; exact d2
        have e2 : (w1.iter t (i + 1)).frozen? ⟨b, 1, none⟩ = false := by rw [World.iter, World.frozen?_alloc_past _ _ _ (by exact d0)]; exact d3
        have HC := Lib.hid (And.intro hc (And.intro hg hdg))
        have HE := Lib.hid (show ((w1.iter t (i + 1)).setCell ⟨b, 1, none⟩ (.int .i64 (m1 : Int))).iterPos w.heap.size = i + 1 ∧ (w1.iter t i).iterPos w.heap.size = i from by
          constructor
          · rw [World.iter, World.setCell_alloc_past _ _ _ _ d0, ← hsz]
            have := World.iterPos_iter (w1.setCell ⟨b, 1, none⟩ (.int .i64 (m1 : Int))) t (i + 1)
            have e5 : (w1.setCell ⟨b, 1, none⟩ (.int .i64 (m1 : Int))).heap.size = w1.heap.size := by simp [World.setCell]
            rw [e5] at this
            exact this
          · rw [← hsz]; simp)
        clear hc hg hdg hlt d1 d2 d3 hm hm1
        go_wp2_with fail
        go_roundw
        case rel => exact ⟨i + 1, w1.setCell ⟨b, 1, none⟩ (.int .i64 (m1 : Int)), (World.setCell_alloc_past _ _ _ _ d0).symm, Lib.hid ⟨q, by rw [← HM.out.2]; exact hp.out.2.1.set _, ⟨hp.out.2.2.1.1.setCell (p := ⟨b, 1, none⟩) (Nat.le_refl _) _, hp.out.2.2.1.2.setCell _⟩, by simpa [World.setCell] using hsz⟩⟩
        case measure => rw [HE.out.1, HE.out.2]; omega
      · have hin : i = n := by have := hp.out.1; omega
        subst hin
        have hstop : c.toNat < 48 ∨ 57 < c.toNat := by
          rw [← hc, hg]
          rcases HD.out.2 with q2 | q2 | q2
          · omega
          · exact .inl q2
          · exact .inr q2.1
        have hki : (k : Int) ≤ (m : Int) := by omega
        have hki2 : (m : Int) ≤ (s.size : Int) := by have := HK.out; omega
        have HM := Lib.hid hm
        have e0 : (w1.iter t (i + 1)).cell? ⟨b, 0, none⟩ = some (.string s) := by rw [World.iter, World.cell?_alloc_past _ _ _ (by exact d0)]; exact d1
        have e1 : (w1.iter t (i + 1)).cell? ⟨b, 1, none⟩ = some (.int .i64 (m : Int)) := by rw [World.iter, World.cell?_alloc_past _ _ _ (by exact d0)]; exact d2
        have HF := Lib.hid (show CurAt (w1.iter t (i + 1)) b s (k + i) ∧ Below b w (w1.iter t (i + 1)) ∧ Kept w (w1.iter t (i + 1)) b from ⟨hp.out.2.1.below ((Below.refl _ _).alloc (Nat.le_refl _) _) (Nat.le_refl _), hp.out.2.2.1.1.alloc (by omega) _, hp.out.2.2.1.2.trans (Kept.of_below ((Below.refl _ _).alloc (Nat.le_refl _) _))⟩)
        clear hc hg hlt d1 d2 d3 hp hm
        rcases hstop with g1 | g1
        · have g1' : (c.toNat : Int) < 48 := by omega
          go_wp2_with fail
          go_quiet (fail)
          go_wp2_with fail
          go_ret
          exact ⟨(show Ending.returned (.string (s.extract k m)) = Ending.returned (.string (s.extract k (k + i))) by rw [HM.out]), HF.out.1, below_de HF.out.2.1 _, HF.out.2.2.drewN _⟩
        · have g1' : ¬ (c.toNat : Int) < 48 := by omega
          have g2' : (57 : Int) < (c.toNat : Int) := by omega
          go_wp2_with fail
          go_quiet (fail)
          go_wp2_with fail
          go_ret
          exact ⟨(show Ending.returned (.string (s.extract k m)) = Ending.returned (.string (s.extract k (k + i))) by rw [HM.out]), HF.out.1, below_de HF.out.2.1 _, HF.out.2.2.drewN _⟩
    · have hin : i = n := by have := hp.out.1; have := HK.out; omega
      subst hin
      have hnx : ∀ ty, (Instr.next (.pointer (some ⟨w.heap.size, 0, none⟩)) true ty).run Tryz.prog (w1.iter t i) = .ok (.tuple #[.bool false]) (w1.iter t i) := by
        intro ty
        have := run_next_end (P := Tryz.prog) w1 t i ty hi
        rw [hsz] at this
        exact this
      have hki : (k : Int) ≤ (m : Int) := by omega
      have hki2 : (m : Int) ≤ (s.size : Int) := by have := HK.out; omega
      have HM := Lib.hid hm
      have e0 : (w1.iter t i).cell? ⟨b, 0, none⟩ = some (.string s) := by rw [World.iter, World.cell?_alloc_past _ _ _ (by exact d0)]; exact d1
      have e1 : (w1.iter t i).cell? ⟨b, 1, none⟩ = some (.int .i64 (m : Int)) := by rw [World.iter, World.cell?_alloc_past _ _ _ (by exact d0)]; exact d2
      have HF := Lib.hid (show CurAt (w1.iter t i) b s (k + i) ∧ Below b w (w1.iter t i) ∧ Kept w (w1.iter t i) b from ⟨hp.out.2.1.below ((Below.refl _ _).alloc (Nat.le_refl _) _) (Nat.le_refl _), hp.out.2.2.1.1.alloc (by omega) _, hp.out.2.2.1.2.trans (Kept.of_below ((Below.refl _ _).alloc (Nat.le_refl _) _))⟩)
      clear d1 d2 d3 hp hm
      go_wp2_with fail
      go_quiet (fail)
      go_wp2_with fail
      go_ret
      exact ⟨(show Ending.returned (.string (s.extract k m)) = Ending.returned (.string (s.extract k (k + i))) by rw [HM.out]), HF.out.1, below_de HF.out.2.1 _, HF.out.2.2.drewN _⟩
end Go.Proofs.YtbidlkmagbjllaaGreatDoor.Nb

namespace Go.Proofs.YtbidlkmagbjllaaGreatDoor.Bg
open Go Go.RowKit

theorem val_take_succ' (ws : List Nat) (k : Nat) : val (ws.take (k + 1)) = val (ws.take k) + 4294967296 ^ k * ws.getD k 0 := by
  by_cases h : k < ws.length
  · exact val_take_succ h
  · rw [List.take_of_length_le (by omega), List.take_of_length_le (by omega), List.getD_eq_getElem?_getD, List.getElem?_eq_none (by omega)]
    simp
theorem set_take {os : List Nat} {i x : Nat} : (os.set i x).take i = os.take i := by
  rw [List.take_set_of_le (Nat.le_refl _)]
theorem set_getD {os : List Nat} {i x : Nat} (h : i < os.length) : (os.set i x).getD i 0 = x := by
  rw [List.getD_eq_getElem?_getD, List.getElem?_set_self h]; rfl
theorem set_getD_ne {os : List Nat} {i j x : Nat} (h : i ≠ j) : (os.set i x).getD j 0 = os.getD j 0 := by
  rw [List.getD_eq_getElem?_getD, List.getElem?_set_ne h, List.getD_eq_getElem?_getD]
theorem set_val {os : List Nat} {i x : Nat} (h : i < os.length) : val (os.set i x) + 4294967296 ^ i * os.getD i 0 = val os + 4294967296 ^ i * x := by
  have h1 := val_take_drop (os.set i x) (k := i + 1) (by rw [List.length_set]; omega)
  have h2 := val_take_drop os (k := i + 1) (by omega)
  rw [val_take_succ', set_take, set_getD h, List.drop_set_of_lt (by omega)] at h1
  rw [val_take_succ'] at h2
  omega
theorem W32.set {os : List Nat} (h : W32 os) {i x : Nat} (hx : x < 4294967296) : W32 (os.set i x) := fun y hy => by
  rcases List.mem_or_eq_of_mem_set hy with hy | rfl
  · exact h y hy
  · exact hx
theorem W32.rep (n : Nat) : W32 (List.replicate n 0) := fun y hy => by rw [List.eq_of_mem_replicate hy]; omega
theorem val_rep : ∀ n : Nat, val (List.replicate n 0) = 0
  | 0 => rfl
  | n + 1 => by rw [List.replicate_succ]; simp [val, val_rep n]

/-! sum -/
def SumSt (a b os : List Nat) (i c : Nat) : Prop := val (os.take i) + 4294967296 ^ i * c = val (a.take i) + val (b.take i)
theorem sum_step {a b os : List Nat} {i c s : Nat} (h : SumSt a b os i c) (hi : i < os.length) (hs : s = a.getD i 0 + c + b.getD i 0) : SumSt a b (os.set i (s % 4294967296)) (i + 1) (s / 4294967296) := by
  unfold SumSt at *
  rw [val_take_succ', val_take_succ', val_take_succ', set_take, set_getD hi, Nat.pow_succ]
  have e : 4294967296 ^ i * (s % 4294967296) + 4294967296 ^ i * 4294967296 * (s / 4294967296) = 4294967296 ^ i * s := by
    rw [Nat.mul_assoc, ← Nat.mul_add, Nat.mod_add_div]
  have e2 : 4294967296 ^ i * s = 4294967296 ^ i * a.getD i 0 + 4294967296 ^ i * c + 4294967296 ^ i * b.getD i 0 := by rw [hs, Nat.mul_add, Nat.mul_add]
  omega
theorem sum_end {a b os : List Nat} {n c : Nat} (h : SumSt a b os n c) (ha : a.length = n) (hb : b.length ≤ n) (hn : os.length = n + 1) : val (os.set n c) = val a + val b := by
  unfold SumSt at h
  rw [List.take_of_length_le (l := a) (by omega), List.take_of_length_le (l := b) (by omega)] at h
  have h1 := val_take_succ' (os.set n c) n
  rw [List.take_of_length_le (by rw [List.length_set]; omega), set_take, set_getD (by omega)] at h1
  omega

/-! difference -/
def DifSt (a b os : List Nat) (i c : Nat) : Prop := val (os.take i) + val (b.take i) = val (a.take i) + 4294967296 ^ i * c
theorem dif_no {a b os : List Nat} {i c : Nat} (h : DifSt a b os i c) (hi : i < os.length) (hx : c + b.getD i 0 ≤ a.getD i 0) : DifSt a b (os.set i (a.getD i 0 - (c + b.getD i 0))) (i + 1) 0 := by
  unfold DifSt at *
  rw [val_take_succ', val_take_succ', val_take_succ', set_take, set_getD hi]
  have e : 4294967296 ^ i * (a.getD i 0 - (c + b.getD i 0)) + 4294967296 ^ i * (c + b.getD i 0) = 4294967296 ^ i * a.getD i 0 := by rw [← Nat.mul_add]; congr 1; omega
  rw [Nat.mul_add] at e
  omega
theorem dif_yes {a b os : List Nat} {i c : Nat} (h : DifSt a b os i c) (hi : i < os.length) (hx : a.getD i 0 < c + b.getD i 0) (hy : c + b.getD i 0 ≤ a.getD i 0 + 4294967296) :
    DifSt a b (os.set i (a.getD i 0 + 4294967296 - (c + b.getD i 0))) (i + 1) 1 := by
  unfold DifSt at *
  rw [val_take_succ', val_take_succ', val_take_succ', set_take, set_getD hi, Nat.pow_succ]
  have e : 4294967296 ^ i * (a.getD i 0 + 4294967296 - (c + b.getD i 0)) + 4294967296 ^ i * (c + b.getD i 0) = 4294967296 ^ i * (a.getD i 0 + 4294967296) := by rw [← Nat.mul_add]; congr 1; omega
  rw [Nat.mul_add, Nat.mul_add] at e
  omega
theorem dif_end {a b os : List Nat} {n c : Nat} (h : DifSt a b os n c) (ha : a.length = n) (hb : b.length ≤ n) (hn : os.length = n) (hw : W32 os) (hle : val b ≤ val a) : val os = val a - val b := by
  unfold DifSt at h
  rw [List.take_of_length_le (l := a) (by omega), List.take_of_length_le (l := b) (by omega), List.take_of_length_le (l := os) (by omega)] at h
  have hl := val_lt hw
  rw [hn] at hl
  rcases Nat.eq_zero_or_pos c with rfl | hc
  · simp at h; omega
  · have : 4294967296 ^ n * 1 ≤ 4294967296 ^ n * c := Nat.mul_le_mul_left _ hc
    omega

/-! product -/
/-- ahead of word i of a and word k of b: what stands in os, with the carry -/
def ProSt (a b os : List Nat) (i k c : Nat) : Prop :=
  val os + 4294967296 ^ (i + k) * c = val (a.take i) * val b + 4294967296 ^ i * a.getD i 0 * val (b.take k)
def Clear (os : List Nat) (j : Nat) : Prop := ∀ i, j ≤ i → os.getD i 0 = 0
theorem pro_step {a b os : List Nat} {i k c t : Nat} (h : ProSt a b os i k c) (hi : i + k < os.length) (ht : t = a.getD i 0 * b.getD k 0 + os.getD (i + k) 0 + c) :
    ProSt a b (os.set (i + k) (t % 4294967296)) i (k + 1) (t / 4294967296) := by
  unfold ProSt at *
  rw [val_take_succ']
  have hs := set_val (x := t % 4294967296) hi
  have e : 4294967296 ^ (i + k) * (t % 4294967296) + 4294967296 ^ (i + k + 1) * (t / 4294967296) = 4294967296 ^ (i + k) * t := by
    rw [Nat.pow_succ, Nat.mul_assoc, ← Nat.mul_add, Nat.mod_add_div]
  have e2 : 4294967296 ^ (i + k) * t = 4294967296 ^ i * a.getD i 0 * (4294967296 ^ k * b.getD k 0) + 4294967296 ^ (i + k) * os.getD (i + k) 0 + 4294967296 ^ (i + k) * c := by
    rw [ht, Nat.mul_add, Nat.mul_add, Nat.pow_add]
    congr 2
    rw [Nat.mul_assoc, Nat.mul_assoc]
    congr 1
    rw [Nat.mul_left_comm]
  rw [show i + (k + 1) = i + k + 1 by omega, Nat.mul_add]
  omega
theorem pro_next {a b os : List Nat} {i c : Nat} (h : ProSt a b os i b.length c) (hc : Clear os (i + b.length)) (hi : i + b.length < os.length) :
    ProSt a b (os.set (i + b.length) c) (i + 1) 0 0 := by
  have hs := set_val (x := c) hi
  have hz := hc (i + b.length) (Nat.le_refl _)
  have h' : val os + 4294967296 ^ (i + b.length) * c = val (a.take i) * val b + 4294967296 ^ i * a.getD i 0 * val b := by
    have := h
    unfold ProSt at this
    rwa [List.take_of_length_le (l := b) (Nat.le_refl _)] at this
  show val (os.set (i + b.length) c) + 4294967296 ^ (i + 1 + 0) * 0 = val (a.take (i + 1)) * val b + 4294967296 ^ (i + 1) * a.getD (i + 1) 0 * 0
  rw [Nat.mul_zero, Nat.mul_zero, Nat.add_zero, Nat.add_zero, val_take_succ', Nat.add_mul, ← h']
  rw [hz, Nat.mul_zero, Nat.add_zero] at hs
  exact hs
theorem pro_start (a b : List Nat) (n : Nat) : ProSt a b (List.replicate n 0) 0 0 0 := by unfold ProSt; simp [val, val_rep]
theorem pro_end {a b os : List Nat} {n : Nat} (h : ProSt a b os n 0 0) (ha : a.length = n) : val os = val a * val b := by
  unfold ProSt at h
  rw [List.take_of_length_le (l := a) (by omega)] at h
  simpa [val] using h
theorem pro_zero {a b os : List Nat} {i : Nat} (h : ProSt a b os i 0 0) : ProSt a b os i 0 0 := h
theorem Clear.set {os : List Nat} {j i x : Nat} (h : Clear os j) (hi : i < j) : Clear (os.set i x) j := fun k hk => by
  rw [set_getD_ne (by omega)]; exact h k hk
theorem Clear.step {os : List Nat} {j x : Nat} (h : Clear os j) : Clear (os.set j x) (j + 1) := fun k hk => by
  rw [set_getD_ne (by omega)]; exact h k (by omega)
theorem Clear.rep (n j : Nat) : Clear (List.replicate n 0) j := fun i _ => by
  rw [List.getD_eq_getElem?_getD, List.getElem?_replicate]; split <;> rfl
theorem pro_word {x y o c : Nat} (hx : x < 4294967296) (hy : y < 4294967296) (ho : o < 4294967296) (hc : c < 4294967296) : x * y + o + c < 18446744073709551616 := by
  have : x * y ≤ 4294967295 * 4294967295 := Nat.mul_le_mul (by omega) (by omega)
  omega

/-! quotient by one word -/
def QuoSt (m os : List Nat) (d i r : Nat) : Prop := val (m.drop i) = d * val (os.drop i) + r ∧ r < d
theorem val_drop_step (ws : List Nat) {k : Nat} (h : k < ws.length) : val (ws.drop k) = ws.getD k 0 + 4294967296 * val (ws.drop (k + 1)) := by
  rw [List.drop_eq_getElem_cons h, val, List.getD_eq_getElem?_getD, List.getElem?_eq_getElem h]; rfl
theorem quo_step {m os : List Nat} {d i r t : Nat} (h : QuoSt m os d (i + 1) r) (hm : i < m.length) (ho : i < os.length) (hd : 0 < d) (ht : t = r * 4294967296 + m.getD i 0) :
    QuoSt m (os.set i (t / d)) d i (t % d) := by
  obtain ⟨h1, h2⟩ := h
  refine ⟨?_, Nat.mod_lt _ hd⟩
  rw [val_drop_step m hm, val_drop_step (os.set i (t / d)) (by rw [List.length_set]; exact ho), set_getD ho, List.drop_set_of_lt (by omega), h1]
  have e := Nat.div_add_mod t d
  rw [Nat.mul_add, Nat.mul_add, Nat.mul_left_comm]
  omega
theorem quo_start (m : List Nat) (d n : Nat) (hm : m.length = n) (hd : 0 < d) : QuoSt m (List.replicate n 0) d n 0 := by
  refine ⟨?_, hd⟩
  rw [List.drop_of_length_le (by omega), List.drop_of_length_le (by simp)]; simp [val]
theorem quo_end {m os : List Nat} {d r : Nat} (h : QuoSt m os d 0 r) (hd : 0 < d) : val os = val m / d ∧ r = val m % d := by
  obtain ⟨h1, h2⟩ := h
  simp only [List.drop_zero] at h1
  rw [h1, Nat.mul_add_div hd, Nat.div_eq_of_lt h2, Nat.mul_add_mod, Nat.mod_eq_of_lt h2]
  exact ⟨by omega, rfl⟩
theorem quo_word {r d x : Nat} (hr : r < d) (hd : d < 4294967296) (hx : x < 4294967296) : r * 4294967296 + x < 18446744073709551616 ∧ (r * 4294967296 + x) / d < 4294967296 := by
  refine ⟨by omega, ?_⟩
  rw [Nat.div_lt_iff_lt_mul (by omega)]
  have : (r + 1) * 4294967296 ≤ d * 4294967296 := Nat.mul_le_mul_right _ hr
  omega

/-! a block of words that the call has made -/
def cellsW (ws : List Nat) : Array Value := (ws.map fun x => Value.int .u32 (x : Nat)).toArray
def Blk (w : World) (g : Nat) (ws : List Nat) : Prop := w.heap[g]? = some (.cells (cellsW ws) 88 (0, 0))
theorem cellsW_get {ws : List Nat} {j : Nat} (hj : j < ws.length) : (cellsW ws)[j]? = some (.int .u32 (ws.getD j 0 : Nat)) := by
  unfold cellsW
  rw [List.getElem?_toArray]
  exact vals_get hj
theorem cellsW_set (ws : List Nat) (i x : Nat) : (cellsW ws).setIfInBounds i (.int .u32 (x : Nat)) = cellsW (ws.set i x) := by
  unfold cellsW
  rw [List.setIfInBounds_toArray, List.map_set]
theorem cellsW_rep (n : Nat) : madeCells #[Value.int .u32 0] n = cellsW (List.replicate n 0) := by
  unfold cellsW
  apply Array.ext'
  have e : ∀ x : Nat, [Value.int .u32 0][x % 1]?.getD default = Value.int .u32 0 := fun x => by rw [Nat.mod_one]; rfl
  simp [madeCells, e, List.map_const']
theorem Blk.lt {w : World} {g : Nat} {ws : List Nat} (h : Blk w g ws) : g < w.heap.size := by
  rcases Nat.lt_or_ge g w.heap.size with hlt | hge
  · exact hlt
  · unfold Blk at h; rw [Array.getElem?_eq_none hge] at h; cases h
theorem Blk.cell {w : World} {g : Nat} {ws : List Nat} (h : Blk w g ws) {j : Nat} (hj : j < ws.length) : w.cell? ⟨g, j, none⟩ = some (.int .u32 (ws.getD j 0 : Nat)) := by
  rw [cell_of_row w g j _ _ (0, 0) h]; exact cellsW_get hj
theorem Blk.frozen {w : World} {g : Nat} {ws : List Nat} (h : Blk w g ws) (j : Nat) : w.frozen? ⟨g, j, none⟩ = false := by
  unfold Blk at h
  simp [World.frozen?, h]
theorem Blk.set {w : World} {g : Nat} {ws : List Nat} (h : Blk w g ws) (i x : Nat) : Blk (w.setCell ⟨g, i, none⟩ (.int .u32 (x : Nat))) g (ws.set i x) := by
  unfold Blk at *
  simp [World.setCell, Array.getElem?_modify, h, cellsW_set]
theorem Blk.drewN {w : World} {g : Nat} {ws : List Nat} (h : Blk w g ws) (n : Nat) : Blk (w.drewN n) g ws := h
theorem Blk.made (w : World) (n : Nat) : Blk (w.alloc (.cells (madeCells #[.int .u32 0] n) 88)) w.heap.size (List.replicate n 0) := by
  unfold Blk
  rw [← cellsW_rep]
  exact heap_alloc_new w _
theorem Blk.mag {w : World} {g : Nat} {ws : List Nat} (h : Blk w g ws) (hw : W32 ws) (hl : ws.length ≤ 9223372036854775807) : Mag w (.slice (some ⟨g, 0, none⟩) ws.length ws.length) ws :=
  ⟨_, _, rfl, Nat.le_refl _, hl, hw, fun _ => ⟨g, 0, rfl, h.lt, fun j hj => by rw [Nat.zero_add]; exact h.cell hj⟩⟩
end Go.Proofs.YtbidlkmagbjllaaGreatDoor.Bg

namespace Go.Proofs.YtbidlkmagbjllaaGreatDoor.Bg
open Go Go.RowKit

/-- what a list of words offers the walk: each word's cell, under its bound -/
theorem Mag.open {w : World} {v : Value} {ws : List Nat} (h : Mag w v ws) : ∃ (A : Option Addr) (c : Nat), v = .slice A ws.length c ∧ ws.length ≤ c ∧ c ≤ 9223372036854775807 := by
  obtain ⟨A, c, h1, h2, h3, -⟩ := h
  exact ⟨A, c, h1, h2, h3⟩
theorem Mag.at {w : World} {A : Option Addr} {n c : Nat} {ws : List Nat} (h : Mag w (.slice A n c) ws) {j : Nat} (hj : j < n) :
    ∃ b off, A = some ⟨b, off, none⟩ ∧ b < w.heap.size ∧ w.cell? ⟨b, off + j, none⟩ = some (.int .u32 (ws.getD j 0 : Nat)) := by
  obtain ⟨A', c', h1, -, -, -, h5⟩ := h
  injection h1 with h1 h2 _
  subst h1 h2
  obtain ⟨b, off, e, hb, hc⟩ := h5 (by omega)
  exact ⟨b, off, e, hb, hc j hj⟩
theorem Mag.len {w : World} {A : Option Addr} {n c : Nat} {ws : List Nat} (h : Mag w (.slice A n c) ws) : n = ws.length := by
  obtain ⟨A', c', h1, -⟩ := h
  injection h1 with _ h1 _

theorem blk_end {w : World} {g k y : Nat} {ws : List Nat} {x : Int} (h : Blk w g ws) (hx : x = (y : Int)) : Blk (w.setCell ⟨g, k, none⟩ (.int .u32 x)) g (ws.set k y) := by
  rw [hx]; exact h.set k y

def PlusSt (w : World) (g n : Nat) (a b : List Nat) (i c : Nat) (wr : World) : Prop :=
  ∃ os, Blk wr g os ∧ os.length = n + 1 ∧ W32 os ∧ SumSt a b os i c ∧ Below g w wr

set_option maxHeartbeats 2000000 in
theorem plus_core (A B : Option Addr) (n m ca cb : Nat) (a b : List Nat) (w : World) (ha : Mag w (.slice A n ca) a) (hb : Mag w (.slice B m cb) b) (hl : n ≤ 1073741824) (hm : m ≤ 1073741824) :
    Calls Tryz.prog 36 #[.slice A n ca, .slice B m cb] w fun e w' => ∃ v L, e = .returned v ∧ MagN w' v (val a + val b) L ∧ L ≤ n + m + 1 ∧ L ≤ (max n m) + 1 ∧ Below w.heap.size w w' := by
  have hla := ha.len
  have hlb := hb.len
  have HA := Lib.hid ha
  have HB := Lib.hid hb
  have HL := Lib.hid (And.intro hla hlb)
  have hmk := fun (k : Nat) (h : k ≤ 1073741825) => run_make_row' (P := Tryz.prog) 39 88 (.int .u32 0) 4 Tryz.underlying39 infoW rfl .i64 .i64 k (by omega) (by omega)
  clear ha hb hla hlb
  by_cases c : n < m
  · have hmk1 := hmk (m + 1) (by omega)
    rw [show (((m + 1 : Nat)) : Int) = (m : Int) + 1 from by omega] at hmk1
    clear hmk
    go_enter Tryz.func36, Tryz.ntmps36
    go_wp2_with fail
    clear hmk1
    have H0 := Lib.hid (show PlusSt w w.heap.size m b a 0 0 (w.alloc (.cells (madeCells #[.int .u32 0] (m + 1)) 88)) from ⟨_, Blk.made w (m + 1), by simp, W32.rep _, by simp [SumSt, val], (Below.refl _ _).alloc (Nat.le_refl _) _⟩)
    go_loopw [7, 8] (fun cy i wr => ∃ k cc : Nat, k ≤ m ∧ i = .int .i64 k ∧ cy = .int .u64 cc ∧ cc ≤ 1 ∧ Hid (PlusSt w w.heap.size m b a k cc wr)) (fun _ i _ => m - (intOf i).toNat)
    case atStart => exact ⟨0, 0, Nat.zero_le _, rfl, rfl, by omega, H0⟩
    case round =>
      obtain ⟨k, cc, hk, rfl, rfl, hcc, hp⟩ := hrel
      by_cases hlt : k < m
      · obtain ⟨os, hbk, hlen, hw, hst, hbel⟩ := hp.out
        have HO := Lib.hid (And.intro hbk (And.intro hlen (And.intro hw (And.intro hst hbel))))
        have hfr : wr.frozen? ⟨w.heap.size, k, none⟩ = false := hbk.frozen k
        obtain ⟨o, ho⟩ : ∃ o, os.getD k 0 = o := ⟨_, rfl⟩
        have hco : wr.cell? ⟨w.heap.size, k, none⟩ = some (.int .u32 (o : Nat)) := by rw [← ho]; exact hbk.cell (by omega)
        obtain ⟨b1, o1, e1, hb1, hc1⟩ := HB.out.at hlt
        subst e1
        have hx := (hbel.cell (p := ⟨b1, o1 + k, none⟩) hb1).trans hc1
        obtain ⟨x, ex⟩ : ∃ x, b.getD k 0 = x := ⟨_, rfl⟩
        have wx := HB.out.w32.get k
        rw [ex] at hx wx
        have EX := Lib.hid ex
        clear hbk hlen hw hst hbel hc1 ex ho hb1
        by_cases hlt2 : k < n
        · obtain ⟨b2, o2, e2, hb2, hc2⟩ := HA.out.at hlt2
          subst e2
          have hbel := HO.out.2.2.2.2
          have hy := (hbel.cell (p := ⟨b2, o2 + k, none⟩) hb2).trans hc2
          obtain ⟨y, ey⟩ : ∃ y, a.getD k 0 = y := ⟨_, rfl⟩
          have wy := HA.out.w32.get k
          rw [ey] at hy wy
          have EY := Lib.hid ey
          clear hbel hc2 ey hb2
          go_wp2_with fail
          go_roundw
          case rel => exact ⟨k + 1, (x + cc + y) / 4294967296, by omega, by go_num, int_eq (by omega), by omega, os.set k ((x + cc + y) % 4294967296), blk_end HO.out.1 (by omega), by rw [List.length_set]; exact HO.out.2.1, HO.out.2.2.1.set (by omega), sum_step HO.out.2.2.2.1 (by have := HO.out.2.1; omega) (by rw [EX.out, EY.out]), HO.out.2.2.2.2.setCell (p := ⟨w.heap.size, k, none⟩) (Nat.le_refl _) _⟩
          case measure => simp [intOf]; omega
        · have hy0 : a.getD k 0 = 0 := by rw [List.getD_eq_getElem?_getD, List.getElem?_eq_none (by have := HL.out.1; omega)]; rfl
          have EY := Lib.hid hy0
          clear hy0
          go_wp2_with fail
          go_roundw
          case rel => exact ⟨k + 1, (x + cc) / 4294967296, by omega, by go_num, int_eq (by omega), by omega, os.set k ((x + cc) % 4294967296), blk_end HO.out.1 (by omega), by rw [List.length_set]; exact HO.out.2.1, HO.out.2.2.1.set (by omega), sum_step HO.out.2.2.2.1 (by have := HO.out.2.1; omega) (by rw [EX.out, EY.out]; omega), HO.out.2.2.2.2.setCell (p := ⟨w.heap.size, k, none⟩) (Nat.le_refl _) _⟩
          case measure => simp [intOf]; omega
      · obtain rfl : k = m := by omega
        obtain ⟨os, hbk, hlen, hw, hst, hbel⟩ := hp.out
        have HO := Lib.hid (And.intro hbk (And.intro hlen (And.intro hw (And.intro hst hbel))))
        have hfr : wr.frozen? ⟨w.heap.size, k, none⟩ = false := hbk.frozen k
        obtain ⟨o, ho⟩ : ∃ o, os.getD k 0 = o := ⟨_, rfl⟩
        have hco : wr.cell? ⟨w.heap.size, k, none⟩ = some (.int .u32 (o : Nat)) := by rw [← ho]; exact hbk.cell (by omega)
        clear hbk hlen hw hst hbel ho
        go_wp2_with fail
        have hms := ((blk_end (k := k) (y := cc) HO.out.1 rfl).mag (HO.out.2.2.1.set (by omega)) (by rw [List.length_set, HO.out.2.1]; omega))
        rw [List.length_set, HO.out.2.1] at hms
        refine (cut_any _ _ _ hms).mono ?_
        rintro e w2 ⟨A2, k2, c2, -, rfl, hm2, rfl⟩
        rw [sum_end HO.out.2.2.2.1 (by have := HL.out.2; omega) (by have := HL.out.1; omega) HO.out.2.1] at hm2
        have HF := Lib.hid (show MagN _ _ _ (k + 1) from hm2.more (by rw [List.length_set, HO.out.2.1]; omega))
        clear hm2 hms
        go_wp2_with fail
        go_ret
        exact ⟨_, k + 1, rfl, (by have h9 := HF.out; rw [Nat.add_comm (val b) (val a)] at h9; exact h9), by omega, by omega, HO.out.2.2.2.2.setCell (p := ⟨w.heap.size, k, none⟩) (Nat.le_refl _) _⟩
  · have hmk1 := hmk (n + 1) (by omega)
    rw [show (((n + 1 : Nat)) : Int) = (n : Int) + 1 from by omega] at hmk1
    clear hmk
    go_enter Tryz.func36, Tryz.ntmps36
    go_wp2_with fail
    clear hmk1
    have H0 := Lib.hid (show PlusSt w w.heap.size n a b 0 0 (w.alloc (.cells (madeCells #[.int .u32 0] (n + 1)) 88)) from ⟨_, Blk.made w (n + 1), by simp, W32.rep _, by simp [SumSt, val], (Below.refl _ _).alloc (Nat.le_refl _) _⟩)
    go_loopw [7, 8] (fun cy i wr => ∃ k cc : Nat, k ≤ n ∧ i = .int .i64 k ∧ cy = .int .u64 cc ∧ cc ≤ 1 ∧ Hid (PlusSt w w.heap.size n a b k cc wr)) (fun _ i _ => n - (intOf i).toNat)
    case atStart => exact ⟨0, 0, Nat.zero_le _, rfl, rfl, by omega, H0⟩
    case round =>
      obtain ⟨k, cc, hk, rfl, rfl, hcc, hp⟩ := hrel
      by_cases hlt : k < n
      · obtain ⟨os, hbk, hlen, hw, hst, hbel⟩ := hp.out
        have HO := Lib.hid (And.intro hbk (And.intro hlen (And.intro hw (And.intro hst hbel))))
        have hfr : wr.frozen? ⟨w.heap.size, k, none⟩ = false := hbk.frozen k
        obtain ⟨o, ho⟩ : ∃ o, os.getD k 0 = o := ⟨_, rfl⟩
        have hco : wr.cell? ⟨w.heap.size, k, none⟩ = some (.int .u32 (o : Nat)) := by rw [← ho]; exact hbk.cell (by omega)
        obtain ⟨b1, o1, e1, hb1, hc1⟩ := HA.out.at hlt
        subst e1
        have hx := (hbel.cell (p := ⟨b1, o1 + k, none⟩) hb1).trans hc1
        obtain ⟨x, ex⟩ : ∃ x, a.getD k 0 = x := ⟨_, rfl⟩
        have wx := HA.out.w32.get k
        rw [ex] at hx wx
        have EX := Lib.hid ex
        clear hbk hlen hw hst hbel hc1 ex ho hb1
        by_cases hlt2 : k < m
        · obtain ⟨b2, o2, e2, hb2, hc2⟩ := HB.out.at hlt2
          subst e2
          have hbel := HO.out.2.2.2.2
          have hy := (hbel.cell (p := ⟨b2, o2 + k, none⟩) hb2).trans hc2
          obtain ⟨y, ey⟩ : ∃ y, b.getD k 0 = y := ⟨_, rfl⟩
          have wy := HB.out.w32.get k
          rw [ey] at hy wy
          have EY := Lib.hid ey
          clear hbel hc2 ey hb2
          go_wp2_with fail
          go_roundw
          case rel => exact ⟨k + 1, (x + cc + y) / 4294967296, by omega, by go_num, int_eq (by omega), by omega, os.set k ((x + cc + y) % 4294967296), blk_end HO.out.1 (by omega), by rw [List.length_set]; exact HO.out.2.1, HO.out.2.2.1.set (by omega), sum_step HO.out.2.2.2.1 (by have := HO.out.2.1; omega) (by rw [EX.out, EY.out]), HO.out.2.2.2.2.setCell (p := ⟨w.heap.size, k, none⟩) (Nat.le_refl _) _⟩
          case measure => simp [intOf]; omega
        · have hy0 : b.getD k 0 = 0 := by rw [List.getD_eq_getElem?_getD, List.getElem?_eq_none (by have := HL.out.2; omega)]; rfl
          have EY := Lib.hid hy0
          clear hy0
          go_wp2_with fail
          go_roundw
          case rel => exact ⟨k + 1, (x + cc) / 4294967296, by omega, by go_num, int_eq (by omega), by omega, os.set k ((x + cc) % 4294967296), blk_end HO.out.1 (by omega), by rw [List.length_set]; exact HO.out.2.1, HO.out.2.2.1.set (by omega), sum_step HO.out.2.2.2.1 (by have := HO.out.2.1; omega) (by rw [EX.out, EY.out]; omega), HO.out.2.2.2.2.setCell (p := ⟨w.heap.size, k, none⟩) (Nat.le_refl _) _⟩
          case measure => simp [intOf]; omega
      · obtain rfl : k = n := by omega
        obtain ⟨os, hbk, hlen, hw, hst, hbel⟩ := hp.out
        have HO := Lib.hid (And.intro hbk (And.intro hlen (And.intro hw (And.intro hst hbel))))
        have hfr : wr.frozen? ⟨w.heap.size, k, none⟩ = false := hbk.frozen k
        obtain ⟨o, ho⟩ : ∃ o, os.getD k 0 = o := ⟨_, rfl⟩
        have hco : wr.cell? ⟨w.heap.size, k, none⟩ = some (.int .u32 (o : Nat)) := by rw [← ho]; exact hbk.cell (by omega)
        clear hbk hlen hw hst hbel ho
        go_wp2_with fail
        have hms := ((blk_end (k := k) (y := cc) HO.out.1 rfl).mag (HO.out.2.2.1.set (by omega)) (by rw [List.length_set, HO.out.2.1]; omega))
        rw [List.length_set, HO.out.2.1] at hms
        refine (cut_any _ _ _ hms).mono ?_
        rintro e w2 ⟨A2, k2, c2, -, rfl, hm2, rfl⟩
        rw [sum_end HO.out.2.2.2.1 (by have := HL.out.1; omega) (by have := HL.out.2; omega) HO.out.2.1] at hm2
        have HF := Lib.hid (show MagN _ _ _ (k + 1) from hm2.more (by rw [List.length_set, HO.out.2.1]; omega))
        clear hm2 hms
        go_wp2_with fail
        go_ret
        exact ⟨_, k + 1, rfl, HF.out, by omega, by omega, HO.out.2.2.2.2.setCell (p := ⟨w.heap.size, k, none⟩) (Nat.le_refl _) _⟩

/-- plus: of two magnitudes -/
theorem plus_any (u v : Value) (m n L : Nat) (w : World) (hu : MagN w u m L) (hv : MagN w v n L) (hL : L ≤ 1073741824) :
    Calls Tryz.prog 36 #[u, v] w fun e w' => ∃ x, e = .returned x ∧ MagN w' x (m + n) (L + 1) ∧ Below w.heap.size w w' := by
  obtain ⟨a, h1, h2, rfl, h4⟩ := hu
  obtain ⟨b, g1, g2, rfl, g4⟩ := hv
  have h1' := h1
  have g1' := g1
  obtain ⟨A, ca, rfl, -⟩ := h1
  obtain ⟨B, cb, rfl, -⟩ := g1
  exact (plus_core A B a.length b.length ca cb a b w h1' g1' (by omega) (by omega)).mono fun e w' ⟨x, L', he, hx, _, hL', hb⟩ => ⟨x, he, hx.more (by omega), hb⟩
end Go.Proofs.YtbidlkmagbjllaaGreatDoor.Bg
