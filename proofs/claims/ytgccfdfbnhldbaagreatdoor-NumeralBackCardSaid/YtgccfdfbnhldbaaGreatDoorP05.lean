/- Y7 E2 BK1 in one text. -/
import Derived.Test.YtgccfdfbnhldbaaGreatDoorP04
import Derived.Deep.OwnRows
import Derived.Laws.RangeString

namespace Go.Proofs.YtgccfdfbnhldbaaGreatDoor.Nb
open Go Go.RowKit

theorem val_take_succ' (ws : List Nat) (k : Nat) : val (ws.take (k + 1)) = val (ws.take k) + 18446744073709551616 ^ k * ws.getD k 0 := by
  by_cases h : k < ws.length
  · exact val_take_succ h
  · rw [List.take_of_length_le (by omega), List.take_of_length_le (by omega), List.getD_eq_getElem?_getD, List.getElem?_eq_none (by omega)]
    simp
theorem set_take {os : List Nat} {i x : Nat} : (os.set i x).take i = os.take i := by
  rw [List.take_set_of_le (Nat.le_refl _)]
theorem set_getD {os : List Nat} {i x : Nat} (h : i < os.length) : (os.set i x).getD i 0 = x := by
  rw [List.getD_eq_getElem?_getD, List.getElem?_set_self h]; rfl
theorem set_getD_ne {os : List Nat} {i j x : Nat} (h : i ≠ j) : (os.set i x).getD j 0 = os.getD j 0 := by
  rw [List.getD_eq_getElem?_getD, List.getElem?_set_ne h, List.getD_eq_getElem?_getD]
theorem set_val {os : List Nat} {i x : Nat} (h : i < os.length) : val (os.set i x) + 18446744073709551616 ^ i * os.getD i 0 = val os + 18446744073709551616 ^ i * x := by
  have h1 := val_take_drop (os.set i x) (k := i + 1) (by rw [List.length_set]; omega)
  have h2 := val_take_drop os (k := i + 1) (by omega)
  rw [val_take_succ', set_take, set_getD h, List.drop_set_of_lt (by omega)] at h1
  rw [val_take_succ'] at h2
  omega
theorem W64.set {os : List Nat} (h : W64 os) {i x : Nat} (hx : x < 18446744073709551616) : W64 (os.set i x) := fun y hy => by
  rcases List.mem_or_eq_of_mem_set hy with hy | rfl
  · exact h y hy
  · exact hx
theorem W64.rep (n : Nat) : W64 (List.replicate n 0) := fun y hy => by rw [List.eq_of_mem_replicate hy]; omega
theorem val_rep : ∀ n : Nat, val (List.replicate n 0) = 0
  | 0 => rfl
  | n + 1 => by rw [List.replicate_succ]; simp [val, val_rep n]

/-! sum -/
def SumSt (a b os : List Nat) (i c : Nat) : Prop := val (os.take i) + 18446744073709551616 ^ i * c = val (a.take i) + val (b.take i)
theorem sum_step {a b os : List Nat} {i c s : Nat} (h : SumSt a b os i c) (hi : i < os.length) (hs : s = a.getD i 0 + c + b.getD i 0) : SumSt a b (os.set i (s % 18446744073709551616)) (i + 1) (s / 18446744073709551616) := by
  unfold SumSt at *
  rw [val_take_succ', val_take_succ', val_take_succ', set_take, set_getD hi, Nat.pow_succ]
  have e : 18446744073709551616 ^ i * (s % 18446744073709551616) + 18446744073709551616 ^ i * 18446744073709551616 * (s / 18446744073709551616) = 18446744073709551616 ^ i * s := by
    rw [Nat.mul_assoc, ← Nat.mul_add, Nat.mod_add_div]
  have e2 : 18446744073709551616 ^ i * s = 18446744073709551616 ^ i * a.getD i 0 + 18446744073709551616 ^ i * c + 18446744073709551616 ^ i * b.getD i 0 := by rw [hs, Nat.mul_add, Nat.mul_add]
  omega
/-! difference -/
def DifSt (a b os : List Nat) (i c : Nat) : Prop := val (os.take i) + val (b.take i) = val (a.take i) + 18446744073709551616 ^ i * c
theorem dif_no {a b os : List Nat} {i c : Nat} (h : DifSt a b os i c) (hi : i < os.length) (hx : c + b.getD i 0 ≤ a.getD i 0) : DifSt a b (os.set i (a.getD i 0 - (c + b.getD i 0))) (i + 1) 0 := by
  unfold DifSt at *
  rw [val_take_succ', val_take_succ', val_take_succ', set_take, set_getD hi]
  have e : 18446744073709551616 ^ i * (a.getD i 0 - (c + b.getD i 0)) + 18446744073709551616 ^ i * (c + b.getD i 0) = 18446744073709551616 ^ i * a.getD i 0 := by rw [← Nat.mul_add]; congr 1; omega
  rw [Nat.mul_add] at e
  omega
theorem dif_yes {a b os : List Nat} {i c : Nat} (h : DifSt a b os i c) (hi : i < os.length) (hx : a.getD i 0 < c + b.getD i 0) (hy : c + b.getD i 0 ≤ a.getD i 0 + 18446744073709551616) :
    DifSt a b (os.set i (a.getD i 0 + 18446744073709551616 - (c + b.getD i 0))) (i + 1) 1 := by
  unfold DifSt at *
  rw [val_take_succ', val_take_succ', val_take_succ', set_take, set_getD hi, Nat.pow_succ]
  have e : 18446744073709551616 ^ i * (a.getD i 0 + 18446744073709551616 - (c + b.getD i 0)) + 18446744073709551616 ^ i * (c + b.getD i 0) = 18446744073709551616 ^ i * (a.getD i 0 + 18446744073709551616) := by rw [← Nat.mul_add]; congr 1; omega
  rw [Nat.mul_add, Nat.mul_add] at e
  omega
theorem dif_end {a b os : List Nat} {n c : Nat} (h : DifSt a b os n c) (ha : a.length = n) (hb : b.length ≤ n) (hn : os.length = n) (hw : W64 os) (hle : val b ≤ val a) : val os = val a - val b := by
  unfold DifSt at h
  rw [List.take_of_length_le (l := a) (by omega), List.take_of_length_le (l := b) (by omega), List.take_of_length_le (l := os) (by omega)] at h
  have hl := val_lt hw
  rw [hn] at hl
  rcases Nat.eq_zero_or_pos c with rfl | hc
  · simp at h; omega
  · have : 18446744073709551616 ^ n * 1 ≤ 18446744073709551616 ^ n * c := Nat.mul_le_mul_left _ hc
    omega

/-! product -/
/-- ahead of word i of a and word k of b: what stands in os, with the carry -/
def ProSt (a b os : List Nat) (i k c : Nat) : Prop :=
  val os + 18446744073709551616 ^ (i + k) * c = val (a.take i) * val b + 18446744073709551616 ^ i * a.getD i 0 * val (b.take k)
def Clear (os : List Nat) (j : Nat) : Prop := ∀ i, j ≤ i → os.getD i 0 = 0
theorem pro_step {a b os : List Nat} {i k c t : Nat} (h : ProSt a b os i k c) (hi : i + k < os.length) (ht : t = a.getD i 0 * b.getD k 0 + os.getD (i + k) 0 + c) :
    ProSt a b (os.set (i + k) (t % 18446744073709551616)) i (k + 1) (t / 18446744073709551616) := by
  unfold ProSt at *
  rw [val_take_succ']
  have hs := set_val (x := t % 18446744073709551616) hi
  have e : 18446744073709551616 ^ (i + k) * (t % 18446744073709551616) + 18446744073709551616 ^ (i + k + 1) * (t / 18446744073709551616) = 18446744073709551616 ^ (i + k) * t := by
    rw [Nat.pow_succ, Nat.mul_assoc, ← Nat.mul_add, Nat.mod_add_div]
  have e2 : 18446744073709551616 ^ (i + k) * t = 18446744073709551616 ^ i * a.getD i 0 * (18446744073709551616 ^ k * b.getD k 0) + 18446744073709551616 ^ (i + k) * os.getD (i + k) 0 + 18446744073709551616 ^ (i + k) * c := by
    rw [ht, Nat.mul_add, Nat.mul_add, Nat.pow_add]
    congr 2
    rw [Nat.mul_assoc, Nat.mul_assoc]
    congr 1
    rw [Nat.mul_left_comm]
  rw [show i + (k + 1) = i + k + 1 by omega, Nat.mul_add]
  omega
theorem pro_next {a b os : List Nat} {i c : Nat} (h : ProSt a b os i b.length c) (hc : Clear os (i + b.length)) (hi : i + b.length < os.length) :
    ProSt a b (os.set (i + b.length) c) (i + 1) 0 0 := by
  have hs := set_val (x := c) hi
  have hz := hc (i + b.length) (Nat.le_refl _)
  have h' : val os + 18446744073709551616 ^ (i + b.length) * c = val (a.take i) * val b + 18446744073709551616 ^ i * a.getD i 0 * val b := by
    have := h
    unfold ProSt at this
    rwa [List.take_of_length_le (l := b) (Nat.le_refl _)] at this
  show val (os.set (i + b.length) c) + 18446744073709551616 ^ (i + 1 + 0) * 0 = val (a.take (i + 1)) * val b + 18446744073709551616 ^ (i + 1) * a.getD (i + 1) 0 * 0
  rw [Nat.mul_zero, Nat.mul_zero, Nat.add_zero, Nat.add_zero, val_take_succ', Nat.add_mul, ← h']
  rw [hz, Nat.mul_zero, Nat.add_zero] at hs
  exact hs
theorem pro_start (a b : List Nat) (n : Nat) : ProSt a b (List.replicate n 0) 0 0 0 := by unfold ProSt; simp [val, val_rep]
theorem pro_end {a b os : List Nat} {n : Nat} (h : ProSt a b os n 0 0) (ha : a.length = n) : val os = val a * val b := by
  unfold ProSt at h
  rw [List.take_of_length_le (l := a) (by omega)] at h
  simpa [val] using h
theorem Clear.set {os : List Nat} {j i x : Nat} (h : Clear os j) (hi : i < j) : Clear (os.set i x) j := fun k hk => by
  rw [set_getD_ne (by omega)]; exact h k hk
theorem Clear.step {os : List Nat} {j x : Nat} (h : Clear os j) : Clear (os.set j x) (j + 1) := fun k hk => by
  rw [set_getD_ne (by omega)]; exact h k (by omega)
theorem Clear.rep (n j : Nat) : Clear (List.replicate n 0) j := fun i _ => by
  rw [List.getD_eq_getElem?_getD, List.getElem?_replicate]; split <;> rfl
theorem pro_word {x y o c : Nat} (hx : x < 18446744073709551616) (hy : y < 18446744073709551616) (ho : o < 18446744073709551616) (hc : c < 18446744073709551616) : x * y + o + c < 340282366920938463463374607431768211456 := by
  have : x * y ≤ 18446744073709551615 * 18446744073709551615 := Nat.mul_le_mul (by omega) (by omega)
  omega

/-! quotient by one word -/
def QuoSt (m os : List Nat) (d i r : Nat) : Prop := val (m.drop i) = d * val (os.drop i) + r ∧ r < d
theorem val_drop_step (ws : List Nat) {k : Nat} (h : k < ws.length) : val (ws.drop k) = ws.getD k 0 + 18446744073709551616 * val (ws.drop (k + 1)) := by
  rw [List.drop_eq_getElem_cons h, val, List.getD_eq_getElem?_getD, List.getElem?_eq_getElem h]; rfl
theorem quo_step {m os : List Nat} {d i r t : Nat} (h : QuoSt m os d (i + 1) r) (hm : i < m.length) (ho : i < os.length) (hd : 0 < d) (ht : t = r * 18446744073709551616 + m.getD i 0) :
    QuoSt m (os.set i (t / d)) d i (t % d) := by
  obtain ⟨h1, h2⟩ := h
  refine ⟨?_, Nat.mod_lt _ hd⟩
  rw [val_drop_step m hm, val_drop_step (os.set i (t / d)) (by rw [List.length_set]; exact ho), set_getD ho, List.drop_set_of_lt (by omega), h1]
  have e := Nat.div_add_mod t d
  rw [Nat.mul_add, Nat.mul_add, Nat.mul_left_comm]
  omega
theorem quo_start (m : List Nat) (d n : Nat) (hm : m.length = n) (hd : 0 < d) : QuoSt m (List.replicate n 0) d n 0 := by
  refine ⟨?_, hd⟩
  rw [List.drop_of_length_le (by omega), List.drop_of_length_le (by simp)]; simp [val]
theorem quo_end {m os : List Nat} {d r : Nat} (h : QuoSt m os d 0 r) (hd : 0 < d) : val os = val m / d ∧ r = val m % d := by
  obtain ⟨h1, h2⟩ := h
  simp only [List.drop_zero] at h1
  rw [h1, Nat.mul_add_div hd, Nat.div_eq_of_lt h2, Nat.mul_add_mod, Nat.mod_eq_of_lt h2]
  exact ⟨by omega, rfl⟩
theorem quo_word {r d x : Nat} (hr : r < d) (hd : d < 18446744073709551616) (hx : x < 18446744073709551616) : (r * 18446744073709551616 + x) / d < 18446744073709551616 := by
  rw [Nat.div_lt_iff_lt_mul (by omega)]
  have : (r + 1) * 18446744073709551616 ≤ d * 18446744073709551616 := Nat.mul_le_mul_right _ hr
  rw [Nat.mul_comm 18446744073709551616 d]
  omega
/-! a block of words that the call has made -/
def cellsW (ws : List Nat) : Array Value := (ws.map fun x => Value.int .u64 (x : Nat)).toArray
def Blk (w : World) (g : Nat) (ws : List Nat) : Prop := w.heap[g]? = some (.cells (cellsW ws) 22 (0, 0))
theorem cellsW_get {ws : List Nat} {j : Nat} (hj : j < ws.length) : (cellsW ws)[j]? = some (.int .u64 (ws.getD j 0 : Nat)) := by
  unfold cellsW
  rw [List.getElem?_toArray]
  exact vals_get hj
theorem cellsW_set (ws : List Nat) (i x : Nat) : (cellsW ws).setIfInBounds i (.int .u64 (x : Nat)) = cellsW (ws.set i x) := by
  unfold cellsW
  rw [List.setIfInBounds_toArray, List.map_set]
theorem cellsW_rep (n : Nat) : madeCells #[Value.int .u64 0] n = cellsW (List.replicate n 0) := by
  unfold cellsW
  apply Array.ext'
  have e : ∀ x : Nat, [Value.int .u64 0][x % 1]?.getD default = Value.int .u64 0 := fun x => by rw [Nat.mod_one]; rfl
  simp [madeCells, e, List.map_const']
theorem Blk.lt {w : World} {g : Nat} {ws : List Nat} (h : Blk w g ws) : g < w.heap.size := by
  rcases Nat.lt_or_ge g w.heap.size with hlt | hge
  · exact hlt
  · unfold Blk at h; rw [Array.getElem?_eq_none hge] at h; cases h
theorem Blk.cell {w : World} {g : Nat} {ws : List Nat} (h : Blk w g ws) {j : Nat} (hj : j < ws.length) : w.cell? ⟨g, j, none⟩ = some (.int .u64 (ws.getD j 0 : Nat)) := by
  rw [cell_of_row w g j _ _ (0, 0) h]; exact cellsW_get hj
theorem Blk.frozen {w : World} {g : Nat} {ws : List Nat} (h : Blk w g ws) (j : Nat) : w.frozen? ⟨g, j, none⟩ = false := by
  unfold Blk at h
  simp [World.frozen?, h]
theorem Blk.set {w : World} {g : Nat} {ws : List Nat} (h : Blk w g ws) (i x : Nat) : Blk (w.setCell ⟨g, i, none⟩ (.int .u64 (x : Nat))) g (ws.set i x) := by
  unfold Blk at *
  simp [World.setCell, Array.getElem?_modify, h, cellsW_set]
theorem Blk.drewN {w : World} {g : Nat} {ws : List Nat} (h : Blk w g ws) (n : Nat) : Blk (w.drewN n) g ws := h
theorem Blk.made (w : World) (n : Nat) : Blk (w.alloc (.cells (madeCells #[.int .u64 0] n) 22)) w.heap.size (List.replicate n 0) := by
  unfold Blk
  rw [← cellsW_rep]
  exact heap_alloc_new w _
theorem Blk.mag {w : World} {g : Nat} {ws : List Nat} (h : Blk w g ws) (hw : W64 ws) (hl : ws.length ≤ 9223372036854775807) : Mag w (.slice (some ⟨g, 0, none⟩) ws.length ws.length) ws :=
  ⟨_, _, rfl, Nat.le_refl _, hl, hw, fun _ => ⟨g, 0, rfl, h.lt, fun j hj => by rw [Nat.zero_add]; exact h.cell hj⟩⟩
end Go.Proofs.YtgccfdfbnhldbaaGreatDoor.Nb

namespace Go.Proofs.YtgccfdfbnhldbaaGreatDoor.Nb
open Go Go.RowKit

/-- a place k in the text s lies in block b -/
def CurAt (w : World) (b : Nat) (s : ByteArray) (k : Nat) : Prop :=
  b < w.heap.size ∧ w.cell? ⟨b, 0, none⟩ = some (.string s) ∧ w.cell? ⟨b, 1, none⟩ = some (.int .i64 (k : Nat)) ∧ w.frozen? ⟨b, 1, none⟩ = false
theorem CurAt.below {w w' : World} {b k B : Nat} {s : ByteArray} (h : CurAt w b s k) (hb : Below B w w') (hB : w.heap.size ≤ B) : CurAt w' b s k := by
  obtain ⟨h1, h2, h3, h4⟩ := h
  have q : b < B := by omega
  exact ⟨Nat.lt_of_lt_of_le h1 hb.size, (hb.cell (p := ⟨b, 0, none⟩) q).trans h2, (hb.cell (p := ⟨b, 1, none⟩) q).trans h3, (hb.frozen (p := ⟨b, 1, none⟩) q).trans h4⟩
theorem CurAt.set {w : World} {b k : Nat} {s : ByteArray} (h : CurAt w b s k) (k' : Nat) : CurAt (w.setCell ⟨b, 1, none⟩ (.int .i64 (k' : Nat))) b s k' := by
  obtain ⟨h1, h2, h3, h4⟩ := h
  refine ⟨by simpa [World.setCell] using h1, ?_, ?_, ?_⟩
  · simp [go_sem, h2]
  · simp [go_sem, h3]
  · simp [go_sem, h4]

/-- every block but one stands as it stood -/
structure Kept (w w' : World) (b : Nat) : Prop where
  size : w.heap.size ≤ w'.heap.size
  block : ∀ k, k < w.heap.size → k ≠ b → w'.heap[k]? = w.heap[k]?
theorem Kept.refl (w : World) (b : Nat) : Kept w w b := ⟨Nat.le_refl _, fun _ _ _ => rfl⟩
theorem Kept.trans {u v w : World} {b : Nat} (h : Kept u v b) (k : Kept v w b) : Kept u w b :=
  ⟨Nat.le_trans h.size k.size, fun i hi hn => (k.block i (Nat.lt_of_lt_of_le hi h.size) hn).trans (h.block i hi hn)⟩
theorem Kept.of_below {w w' : World} {b : Nat} (h : Below w.heap.size w w') : Kept w w' b := ⟨h.size, fun k hk _ => h.block k hk⟩
theorem Kept.setCell {w w' : World} {b o : Nat} (h : Kept w w' b) (v : Value) : Kept w (w'.setCell ⟨b, o, none⟩ v) b :=
  ⟨by simpa [World.setCell] using h.size, fun k hk hn => (Below.heap_setCell w' ⟨b, o, none⟩ v k hn).trans (h.block k hk hn)⟩
theorem Kept.drewN {w w' : World} {b : Nat} (h : Kept w w' b) (n : Nat) : Kept w (w'.drewN n) b := ⟨h.size, h.block⟩
theorem Kept.cell {w w' : World} {b : Nat} (h : Kept w w' b) {p : Addr} (hp : p.block < w.heap.size) (hn : p.block ≠ b) : w'.cell? p = w.cell? p := World.cell?_of_block (w := w) (h.block p.block hp hn)
theorem Kept.frozen {w w' : World} {b : Nat} (h : Kept w w' b) {p : Addr} (hp : p.block < w.heap.size) (hn : p.block ≠ b) : w'.frozen? p = w.frozen? p := World.frozen?_of_block (w := w) (h.block p.block hp hn)

set_option maxRecDepth 8000 in
theorem end_any (b k : Nat) (s : ByteArray) (w : World) (h : CurAt w b s k) (d : Bool) (hd : d = decide (k = s.size)) :
    Calls Tryz.prog 69 #[.pointer (some ⟨b, 0, none⟩)] w fun e w' => e = .returned (.bool d) ∧ ∃ n, w' = w.drewN n := by
  obtain ⟨h1, h2, h3, h4⟩ := h
  have hk' : ((k : Int) == (s.size : Int)) = d := by
    rw [hd]
    by_cases c : k = s.size
    · simp [c]
    · simp [c]; omega
  clear hd
  go_enter Tryz.func69, Tryz.ntmps69
  go_wp2_with fail
  go_quiet (fail)
  go_wp2_with fail
  go_ret
  exact ⟨rfl, _, rfl⟩

set_option maxRecDepth 8000 in
theorem prefix_any (s p : ByteArray) (w : World) (d : Bool) (hd : d = (decide (p.size ≤ s.size) && (s.extract 0 p.size).toList == p.toList)) :
    Calls Tryz.prog 110 #[.string s, .string p] w fun e w' => e = .returned (.bool d) ∧ w' = w := by
  have H : Hid (Calls Tryz.prog 165 #[.string s, .string p] w fun e w' => e = .returned (.bool d) ∧ w' = w) := Lib.hid (by
    by_cases c : p.size ≤ s.size
    · have hc : (p.size : Int) ≤ (s.size : Int) := by omega
      have hd' : ((s.extract 0 p.size).toList == p.toList) = d := by rw [hd]; simp [c]
      clear hd
      go_enter Tryz.func165, Tryz.ntmps165
      go_wp2_with fail
      go_ret
      exact ⟨rfl, rfl⟩
    · have hc : ¬ (p.size : Int) ≤ (s.size : Int) := by omega
      have hd' : d = false := by rw [hd]; simp [c]
      subst hd'
      clear hd
      go_enter Tryz.func165, Tryz.ntmps165
      go_wp2_with fail
      go_ret
      exact ⟨rfl, rfl⟩)
  clear hd
  go_enter Tryz.func110, Tryz.ntmps110
  go_wp2_with fail
  refine H.out.mono ?_
  rintro e w1 ⟨rfl, rfl⟩
  go_wp2_with fail
  go_ret
  exact ⟨rfl, rfl⟩

theorem ext_ext (s : ByteArray) (k n : Nat) (h : k + n ≤ s.size) : (s.extract k s.size).extract 0 n = s.extract k (k + n) := by
  apply ByteArray.ext
  simp only [ByteArray.data_extract, Array.extract_extract]
  congr 1
  have : s.data.size = s.size := rfl
  omega
theorem ext_size (s : ByteArray) (k : Nat) (h : k ≤ s.size) : (s.extract k s.size).size = s.size - k := by
  rw [ByteArray.size_extract]; omega

theorem quiet_one {P : Program} {f : FuncId} {args : Array Value} {w : World} {a : Nat} {v : Value}
    (h : Calls P f args (w.drewN a) fun e w' => e = .returned v ∧ ∃ m, w' = (w.drewN a).drewN m) :
    Calls P f args (w.drewN a) fun e w'' => e = .returned v ∧ ∃ m, w'' = w.drewN m :=
  h.mono fun _ _ ⟨h1, m, h2⟩ => ⟨h1, a + m, by rw [h2, World.drewN_drewN]⟩
theorem below_de {B : Nat} {a w : World} (h : Below B a w) (n : Nat) : Below B a (w.drewN n) := ⟨h.os, h.tape, h.output, h.size, h.block⟩
theorem prefix_quiet (s p : ByteArray) (w : World) (d : Bool) (hd : d = (decide (p.size ≤ s.size) && (s.extract 0 p.size).toList == p.toList)) :
    Calls Tryz.prog 110 #[.string s, .string p] w fun e w' => e = .returned (.bool d) ∧ ∃ m, w' = w.drewN m :=
  (prefix_any s p w d hd).mono fun _ _ h => ⟨h.1, 0, h.2⟩

set_option maxRecDepth 8000 in
theorem take_yes (b k : Nat) (s p : ByteArray) (w : World) (h : CurAt w b s k) (hk : k + p.size ≤ s.size) (hs : s.size ≤ 4611686018427387904) (hp : s.extract k (k + p.size) = p) :
    Calls Tryz.prog 67 #[.pointer (some ⟨b, 0, none⟩), .string p] w fun e w' => e = .returned (.bool true) ∧ CurAt w' b s (k + p.size) ∧ Below b w w' ∧ Kept w w' b := by
  have HP := Lib.hid (fun j => prefix_quiet (s.extract k s.size) p (w.drewN j) true (by
    rw [ext_ext s k p.size hk, hp, ext_size s k (by omega)]
    simp; omega))
  have HC := Lib.hid h
  obtain ⟨h1, h2, h3, h4⟩ := h
  have hks : (k : Int) ≤ (s.size : Int) := by omega
  have hwr : IntKind.i64.wrap ((k : Int) + (p.size : Int)) = ((k + p.size : Nat) : Int) := by rw [IntKind.wrap_i64]; omega
  clear hp
  go_enter Tryz.func67, Tryz.ntmps67
  go_wp2_with fail
  go_quiet ((go_at_call 110; exact quiet_one (HP.out _)))
  go_wp2_with fail
  go_ret
  exact ⟨rfl, CurAt.set (show CurAt (w.drewN _) b s k from HC.out) (k + p.size), (below_de (Below.refl _ _) _).setCell (p := ⟨b, 1, none⟩) (Nat.le_refl _) _, ((Kept.refl w b).drewN _).setCell _⟩

set_option maxRecDepth 8000 in
theorem take_no (b k : Nat) (s p : ByteArray) (w : World) (h : CurAt w b s k) (hk : k ≤ s.size) (hp : ¬ (k + p.size ≤ s.size ∧ (s.extract k (k + p.size)).toList = p.toList)) :
    Calls Tryz.prog 67 #[.pointer (some ⟨b, 0, none⟩), .string p] w fun e w' => e = .returned (.bool false) ∧ ∃ n, w' = w.drewN n := by
  have HP := Lib.hid (fun j => prefix_quiet (s.extract k s.size) p (w.drewN j) false (by
    by_cases c : k + p.size ≤ s.size
    · rw [ext_ext s k p.size c]
      have c2 : ¬ (s.extract k (k + p.size)).toList = p.toList := fun e => hp ⟨c, e⟩
      simp [c2]
    · rw [ext_size s k hk]
      simp; omega))
  have HC := Lib.hid h
  obtain ⟨h1, h2, h3, h4⟩ := h
  have hks : (k : Int) ≤ (s.size : Int) := by omega
  clear hp
  go_enter Tryz.func67, Tryz.ntmps67
  go_wp2_with fail
  go_quiet ((go_at_call 110; exact quiet_one (HP.out _)))
  go_wp2_with fail
  go_ret
  exact ⟨rfl, _, rfl⟩

theorem sub_get (s : ByteArray) (k i : Nat) (h : i < (s.extract k s.size).size) : ((s.extract k s.size)[i]'h) = s.data.toList.getD (k + i) 0 := by
  have hs : k + i < s.size := by rw [ByteArray.size_extract] at h; omega
  have hs' : k + i < s.data.size := hs
  rw [ByteArray.getElem_eq_getElem_data]
  simp only [ByteArray.data_extract, Array.getElem_extract, List.getD_eq_getElem?_getD, Array.getElem?_toList]
  rw [Array.getElem?_eq_getElem hs']
  rfl

def DigSt (w : World) (b : Nat) (s : ByteArray) (k n i : Nat) (w' : World) : Prop :=
  i ≤ n ∧ CurAt w' b s (k + i) ∧ (Below b w w' ∧ Kept w w' b) ∧ w'.heap.size = w.heap.size

set_option maxRecDepth 8000 in
set_option maxHeartbeats 1000000 in
theorem digits_any (b k n : Nat) (s : ByteArray) (w : World) (h : CurAt w b s k) (hk : k + n ≤ s.size) (hs : s.size ≤ 4611686018427387904)
    (hd : ∀ i, i < n → 48 ≤ (s.data.toList.getD (k + i) 0).toNat ∧ (s.data.toList.getD (k + i) 0).toNat ≤ 57)
    (he : k + n = s.size ∨ (s.data.toList.getD (k + n) 0).toNat < 48 ∨ (57 < (s.data.toList.getD (k + n) 0).toNat ∧ (s.data.toList.getD (k + n) 0).toNat < 128)) :
    Calls Tryz.prog 77 #[.pointer (some ⟨b, 0, none⟩)] w fun e w' => e = .returned (.string (s.extract k (k + n))) ∧ CurAt w' b s (k + n) ∧ Below b w w' ∧ Kept w w' b := by
  have H0 := Lib.hid (show DigSt w b s k n 0 w from ⟨Nat.zero_le _, h, ⟨Below.refl _ _, Kept.refl _ _⟩, rfl⟩)
  have HD := Lib.hid (And.intro hd he)
  have HK := Lib.hid (And.intro hk hs)
  obtain ⟨h1, h2, h3, h4⟩ := h
  have hks : (k : Int) ≤ (s.size : Int) := by omega
  obtain ⟨t, ht⟩ : ∃ t, s.extract k s.size = t := ⟨_, rfl⟩
  have HT := Lib.hid ht
  have hts := ext_size s k (by omega)
  rw [ht] at hts
  clear hd he hk hs
  go_enter Tryz.func77, Tryz.ntmps77
  go_wp2_with fail
  go_loopw [5] (fun r wr => ∃ (i : Nat) (w1 : World), w1.iter t i = wr ∧ Hid (DigSt w b s k n i w1)) (fun _ wr => t.size - wr.iterPos w.heap.size)
  case atStart => exact ⟨0, w, rfl, H0⟩
  case round =>
    obtain ⟨i, w1, rfl, hp⟩ := hrel
    obtain ⟨m, hm⟩ : ∃ m, k + i = m := ⟨_, rfl⟩
    have hsz := hp.out.2.2.2
    have d1 := hp.out.2.1.2.1
    have d2 : w1.cell? ⟨b, 1, none⟩ = some (.int .i64 (m : Nat)) := by rw [← hm]; exact hp.out.2.1.2.2.1
    have d3 := hp.out.2.1.2.2.2
    have d0 : b < w1.heap.size := hp.out.2.1.1
    by_cases hi : i < t.size
    · have hg : (t[i]'hi) = s.data.toList.getD (k + i) 0 := by
        have := HT.out; subst this; exact sub_get s k i hi
      obtain ⟨c, hc⟩ : ∃ c, (t[i]'hi) = c := ⟨_, rfl⟩
      have hlt : c.toNat < 128 := by
        rw [← hc, hg]
        rcases Nat.lt_or_ge i n with q | q
        · have := HD.out.1 i q; omega
        · have := hp.out.1
          have e : i = n := by omega
          rcases HD.out.2 with q2 | q2 | q2
          · omega
          · rw [e]; omega
          · rw [e]; omega
      have hnx : ∀ ty, (Instr.next (.pointer (some ⟨w.heap.size, 0, none⟩)) true ty).run Tryz.prog (w1.iter t i) = .ok (.tuple #[.bool true, .int .i64 i, .int .i32 c.toNat]) (w1.iter t (i + 1)) := by
        intro ty
        have := run_next_ascii (P := Tryz.prog) w1 t i ty hi (by rw [hc]; exact hlt)
        rw [hsz, hc] at this
        exact this
      rcases Nat.lt_or_ge i n with q | q
      · have hdg := HD.out.1 i q
        rw [← hg, hc] at hdg
        have g1 : ¬ (c.toNat : Int) < 48 := by omega
        have g2 : ¬ (57 : Int) < (c.toNat : Int) := by omega
        obtain ⟨m1, hm1⟩ : ∃ m1, k + (i + 1) = m1 := ⟨_, rfl⟩
        have hwr : wrap64 ((m : Int) + 1) = (m1 : Int) := by have h0 := HK.out; unfold wrap64; omega
        have HM := Lib.hid (And.intro hm hm1)
        have e1 : (w1.iter t (i + 1)).cell? ⟨b, 1, none⟩ = some (.int .i64 (m : Int)) := by rw [World.iter, World.cell?_alloc_past _ _ _ (by exact d0)]; exact d2
        have e2 : (w1.iter t (i + 1)).frozen? ⟨b, 1, none⟩ = false := by rw [World.iter, World.frozen?_alloc_past _ _ _ (by exact d0)]; exact d3
        have HC := Lib.hid (And.intro hc (And.intro hg hdg))
        have HE := Lib.hid (show ((w1.iter t (i + 1)).setCell ⟨b, 1, none⟩ (.int .i64 (m1 : Int))).iterPos w.heap.size = i + 1 ∧ (w1.iter t i).iterPos w.heap.size = i from by
          constructor
          · rw [World.iter, World.setCell_alloc_past _ _ _ _ d0, ← hsz]
            have := World.iterPos_iter (w1.setCell ⟨b, 1, none⟩ (.int .i64 (m1 : Int))) t (i + 1)
            have e5 : (w1.setCell ⟨b, 1, none⟩ (.int .i64 (m1 : Int))).heap.size = w1.heap.size := by simp [World.setCell]
            rw [e5] at this
            exact this
          · rw [← hsz]; simp)
        clear hc hg hdg hlt d1 d2 d3 hm hm1
        go_wp2_with fail
        go_roundw
        case rel => exact ⟨i + 1, w1.setCell ⟨b, 1, none⟩ (.int .i64 (m1 : Int)), (World.setCell_alloc_past _ _ _ _ d0).symm, Lib.hid ⟨q, by rw [← HM.out.2]; exact hp.out.2.1.set _, ⟨hp.out.2.2.1.1.setCell (p := ⟨b, 1, none⟩) (Nat.le_refl _) _, hp.out.2.2.1.2.setCell _⟩, by simpa [World.setCell] using hsz⟩⟩
        case measure => rw [HE.out.1, HE.out.2]; omega
      · have hin : i = n := by have := hp.out.1; omega
        subst hin
        have hstop : c.toNat < 48 ∨ 57 < c.toNat := by
          rw [← hc, hg]
          rcases HD.out.2 with q2 | q2 | q2
          · omega
          · exact .inl q2
          · exact .inr q2.1
        have hki : (k : Int) ≤ (m : Int) := by omega
        have hki2 : (m : Int) ≤ (s.size : Int) := by have := HK.out; omega
        have HM := Lib.hid hm
        have e0 : (w1.iter t (i + 1)).cell? ⟨b, 0, none⟩ = some (.string s) := by rw [World.iter, World.cell?_alloc_past _ _ _ (by exact d0)]; exact d1
        have e1 : (w1.iter t (i + 1)).cell? ⟨b, 1, none⟩ = some (.int .i64 (m : Int)) := by rw [World.iter, World.cell?_alloc_past _ _ _ (by exact d0)]; exact d2
        have HF := Lib.hid (show CurAt (w1.iter t (i + 1)) b s (k + i) ∧ Below b w (w1.iter t (i + 1)) ∧ Kept w (w1.iter t (i + 1)) b from ⟨hp.out.2.1.below ((Below.refl _ _).alloc (Nat.le_refl _) _) (Nat.le_refl _), hp.out.2.2.1.1.alloc (by omega) _, hp.out.2.2.1.2.trans (Kept.of_below ((Below.refl _ _).alloc (Nat.le_refl _) _))⟩)
        clear hc hg hlt d1 d2 d3 hp hm
        rcases hstop with g1 | g1
        · have g1' : (c.toNat : Int) < 48 := by omega
          go_wp2_with fail
          go_quiet (fail)
          go_wp2_with fail
          go_ret
          exact ⟨(show Ending.returned (.string (s.extract k m)) = Ending.returned (.string (s.extract k (k + i))) by rw [HM.out]), HF.out.1, below_de HF.out.2.1 _, HF.out.2.2.drewN _⟩
        · have g1' : ¬ (c.toNat : Int) < 48 := by omega
          have g2' : (57 : Int) < (c.toNat : Int) := by omega
          go_wp2_with fail
          go_quiet (fail)
          go_wp2_with fail
          go_ret
          exact ⟨(show Ending.returned (.string (s.extract k m)) = Ending.returned (.string (s.extract k (k + i))) by rw [HM.out]), HF.out.1, below_de HF.out.2.1 _, HF.out.2.2.drewN _⟩
    · have hin : i = n := by have := hp.out.1; have := HK.out; omega
      subst hin
      have hnx : ∀ ty, (Instr.next (.pointer (some ⟨w.heap.size, 0, none⟩)) true ty).run Tryz.prog (w1.iter t i) = .ok (.tuple #[.bool false]) (w1.iter t i) := by
        intro ty
        have := run_next_end (P := Tryz.prog) w1 t i ty hi
        rw [hsz] at this
        exact this
      have hki : (k : Int) ≤ (m : Int) := by omega
      have hki2 : (m : Int) ≤ (s.size : Int) := by have := HK.out; omega
      have HM := Lib.hid hm
      have e0 : (w1.iter t i).cell? ⟨b, 0, none⟩ = some (.string s) := by rw [World.iter, World.cell?_alloc_past _ _ _ (by exact d0)]; exact d1
      have e1 : (w1.iter t i).cell? ⟨b, 1, none⟩ = some (.int .i64 (m : Int)) := by rw [World.iter, World.cell?_alloc_past _ _ _ (by exact d0)]; exact d2
      have HF := Lib.hid (show CurAt (w1.iter t i) b s (k + i) ∧ Below b w (w1.iter t i) ∧ Kept w (w1.iter t i) b from ⟨hp.out.2.1.below ((Below.refl _ _).alloc (Nat.le_refl _) _) (Nat.le_refl _), hp.out.2.2.1.1.alloc (by omega) _, hp.out.2.2.1.2.trans (Kept.of_below ((Below.refl _ _).alloc (Nat.le_refl _) _))⟩)
      clear d1 d2 d3 hp hm
      go_wp2_with fail
      go_quiet (fail)
      go_wp2_with fail
      go_ret
      exact ⟨(show Ending.returned (.string (s.extract k m)) = Ending.returned (.string (s.extract k (k + i))) by rw [HM.out]), HF.out.1, below_de HF.out.2.1 _, HF.out.2.2.drewN _⟩
end Go.Proofs.YtgccfdfbnhldbaaGreatDoor.Nb

namespace Go.Proofs.YtgccfdfbnhldbaaGreatDoor.Nb

/-- one word turned -/
theorem val_set : ∀ {ws : List Nat} {k : Nat} (x : Nat), k < ws.length → val (ws.set k x) + 18446744073709551616 ^ k * ws.getD k 0 = val ws + 18446744073709551616 ^ k * x
  | a :: r, 0, x, _ => by simp [val]; omega
  | a :: r, k + 1, x, h => by
    have ih := val_set (ws := r) (k := k) x (by simpa using h)
    simp only [List.set_cons_succ, val, List.getD_cons_succ]
    rw [Nat.pow_succ, Nat.mul_comm (18446744073709551616 ^ k) 18446744073709551616, Nat.mul_assoc, Nat.mul_assoc]
    omega

/-- a guess by the first digits is not too small -/
theorem guess_first {U V P u0 u1 u2 v1 U0 V0 v2 : Nat} (hU : U = U0 + P * (u0 + 18446744073709551616 * (u1 + 18446744073709551616 * u2))) (hU0 : U0 < P) (hu0 : u0 < 18446744073709551616)
    (hV : V = V0 + P * (v2 + 18446744073709551616 * v1)) (hv1 : 0 < v1) :
    U / V ≤ (u2 * 18446744073709551616 + u1) / v1 := by
  have hP : 0 < P := by omega
  have h1 : P * 18446744073709551616 * v1 ≤ V := by
    rw [hV, Nat.mul_add, Nat.mul_assoc]
    omega
  have h2 : U / V ≤ U / (P * 18446744073709551616 * v1) := Nat.div_le_div_left h1 (Nat.mul_pos (Nat.mul_pos hP (by omega)) hv1)
  refine Nat.le_trans h2 ?_
  rw [← Nat.div_div_eq_div_mul]
  have h3 : U / (P * 18446744073709551616) = u2 * 18446744073709551616 + u1 := by
    have e : U = (U0 + P * u0) + P * 18446744073709551616 * (u2 * 18446744073709551616 + u1) := by
      rw [hU, Nat.mul_add, ← Nat.mul_assoc, Nat.mul_comm 18446744073709551616 u2, Nat.add_comm u1]
      omega
    have l : U0 + P * u0 < P * 18446744073709551616 := by
      have : P * u0 + P ≤ P * 18446744073709551616 := by
        have : P * (u0 + 1) ≤ P * 18446744073709551616 := Nat.mul_le_mul_left _ hu0
        rw [Nat.mul_add, Nat.mul_one] at this
        exact this
      omega
    rw [e, Nat.add_mul_div_left _ _ (Nat.mul_pos hP (by omega)), Nat.div_eq_of_lt l, Nat.zero_add]
  rw [h3]
  exact Nat.le_refl _

/-- where the second digit shows that a guess is too great -/
theorem guess_next {U V P u0 u1 u2 v1 U0 V0 v2 q rest : Nat} (hU : U = U0 + P * (u0 + 18446744073709551616 * (u1 + 18446744073709551616 * u2))) (hU0 : U0 < P)
    (hV : V = V0 + P * (v2 + 18446744073709551616 * v1)) (ht : q * v1 + rest = u2 * 18446744073709551616 + u1) (hq : U / V ≤ q) (hl : rest * 18446744073709551616 + u0 < q * v2) :
    U / V ≤ q - 1 := by
  rcases Nat.lt_or_ge (U / V) q with h | h
  · omega
  · exfalso
    have he : U / V = q := by omega
    have h1 : q * V ≤ U := by rw [← he]; exact Nat.div_mul_le_self _ _
    have h2 : q * (P * (v2 + 18446744073709551616 * v1)) ≤ q * V := Nat.mul_le_mul_left _ (by rw [hV]; omega)
    have h3 : q * (P * (v2 + 18446744073709551616 * v1)) = P * (q * v2 + 18446744073709551616 * (q * v1)) := by
      rw [Nat.mul_left_comm, Nat.mul_add, Nat.mul_left_comm q 18446744073709551616]
    have h4 : u0 + 18446744073709551616 * (u1 + 18446744073709551616 * u2) + 1 ≤ q * v2 + 18446744073709551616 * (q * v1) := by
      have e : u2 * 18446744073709551616 = 18446744073709551616 * u2 := Nat.mul_comm _ _
      omega
    have h5 : P * (u0 + 18446744073709551616 * (u1 + 18446744073709551616 * u2) + 1) ≤ P * (q * v2 + 18446744073709551616 * (q * v1)) := Nat.mul_le_mul_left _ h4
    rw [Nat.mul_add, Nat.mul_one] at h5
    omega

/-- the parts of a row from word j on, of which n + 1 count -/
theorem win_parts {os : List Nat} {j n : Nat} (hn : 2 ≤ n) (hl : j + n < os.length) (hc : Clear os (j + n + 1)) :
    val os / 18446744073709551616 ^ j = val os / 18446744073709551616 ^ j ∧ ∃ U0, val (os.drop j) = U0 + 18446744073709551616 ^ (n - 2) * (os.getD (j + (n - 2)) 0 + 18446744073709551616 * (os.getD (j + (n - 1)) 0 + 18446744073709551616 * os.getD (j + n) 0)) ∧ (W64 os → U0 < 18446744073709551616 ^ (n - 2)) := by
  refine ⟨rfl, val ((os.drop j).take (n - 2)), ?_, fun hw => ?_⟩
  · have h1 := val_take_drop (os.drop j) (k := n - 2) (by rw [List.length_drop]; omega)
    rw [h1]
    congr 2
    rw [List.drop_drop]
    have e3 : val (os.drop (j + n + 1)) = 0 := by
      have : ∀ ws : List Nat, (∀ k, ws.getD k 0 = 0) → val ws = 0 := by
        intro ws
        induction ws with
        | nil => intro _; rfl
        | cons a r ih =>
          intro h
          have h0 := h 0
          have ht := ih fun k => by have := h (k + 1); simpa using this
          simp only [List.getD_cons_zero] at h0
          simp [val, h0, ht]
      refine this _ fun k => ?_
      rw [List.getD_eq_getElem?_getD, List.getElem?_drop, ← List.getD_eq_getElem?_getD]
      exact hc _ (by omega)
    have st : ∀ i, i < os.length → val (os.drop i) = os.getD i 0 + 18446744073709551616 * val (os.drop (i + 1)) := by
      intro i hi
      rw [List.drop_eq_getElem_cons hi, val, List.getD_eq_getElem?_getD, List.getElem?_eq_getElem hi]
      rfl
    rw [st _ (by omega), show j + (n - 2) + 1 = j + (n - 1) by omega, st (j + (n - 1)) (by omega), show j + (n - 1) + 1 = j + n by omega, st (j + n) hl, e3, Nat.mul_zero, Nat.add_zero]
  · exact val_take_lt (hw.drop j) _
theorem drop_div {os : List Nat} (hw : W64 os) {j : Nat} (h : j ≤ os.length) : val (os.drop j) = val os / 18446744073709551616 ^ j := by
  have h1 := val_take_drop os h
  have h2 := val_take_lt hw j
  rw [h1, Nat.add_mul_div_left _ _ (Nat.pow_pos (by omega)), Nat.div_eq_of_lt h2, Nat.zero_add]
/-- a divisor's first digits -/
theorem div_parts {vs : List Nat} (hn : 2 ≤ vs.length) : ∃ V0, val vs = V0 + 18446744073709551616 ^ (vs.length - 2) * (vs.getD (vs.length - 2) 0 + 18446744073709551616 * vs.getD (vs.length - 1) 0) := by
  refine ⟨val (vs.take (vs.length - 2)), ?_⟩
  have h1 := val_take_drop vs (k := vs.length - 2) (by omega)
  rw [h1]
  congr 2
  have st : ∀ i, i < vs.length → val (vs.drop i) = vs.getD i 0 + 18446744073709551616 * val (vs.drop (i + 1)) := by
    intro i hi
    rw [List.drop_eq_getElem_cons hi, val, List.getD_eq_getElem?_getD, List.getElem?_eq_getElem hi]
    rfl
  rw [st _ (by omega), show vs.length - 2 + 1 = vs.length - 1 by omega, st (vs.length - 1) (by omega), show vs.length - 1 + 1 = vs.length by omega, List.drop_length]
  simp [val]

/-- taking q times V away: behind i digits -/
def SubSt (vs os : List Nat) (R q j i c b : Nat) : Prop := val os + q * (18446744073709551616 ^ j * val (vs.take i)) = R + (c + b) * 18446744073709551616 ^ (j + i)
theorem sub_start (vs os : List Nat) (q j : Nat) : SubSt vs os (val os) q j 0 0 0 := by simp [SubSt, val]
theorem sub_step {vs os : List Nat} {R q j i c b c' lo d b' : Nat} (h : SubSt vs os R q j i c b) (hi : i < vs.length) (hl : j + i < os.length)
    (hf : q * vs.getD i 0 + c = c' * 18446744073709551616 + lo) (hs : d + lo + b = os.getD (j + i) 0 + b' * 18446744073709551616) : SubSt vs (os.set (j + i) d) R q j (i + 1) c' b' := by
  unfold SubSt at *
  have hv := val_set (ws := os) (k := j + i) d hl
  rw [val_take_succ hi]
  obtain ⟨P, hP⟩ : ∃ P, 18446744073709551616 ^ (j + i) = P := ⟨_, rfl⟩
  have e1 : q * (18446744073709551616 ^ j * (val (vs.take i) + 18446744073709551616 ^ i * vs.getD i 0)) = q * (18446744073709551616 ^ j * val (vs.take i)) + P * (q * vs.getD i 0) := by
    rw [Nat.mul_add, Nat.mul_add, ← Nat.mul_assoc (18446744073709551616 ^ j), ← Nat.pow_add, hP, Nat.mul_left_comm q P]
  rw [e1, show j + (i + 1) = j + i + 1 by omega, Nat.pow_succ, hP]
  rw [hP] at h hv
  obtain ⟨Z, hZ⟩ : ∃ Z, q * (18446744073709551616 ^ j * val (vs.take i)) = Z := ⟨_, rfl⟩
  rw [hZ] at h ⊢
  obtain ⟨Y, hY⟩ : ∃ Y, q * vs.getD i 0 = Y := ⟨_, rfl⟩
  rw [hY] at hf ⊢
  have h1 : P * (d + lo + b) = P * (os.getD (j + i) 0 + b' * 18446744073709551616) := by rw [hs]
  have h2 : P * (Y + c) = P * (c' * 18446744073709551616 + lo) := by rw [hf]
  have e2 : (c' + b') * (P * 18446744073709551616) = P * (c' * 18446744073709551616) + P * (b' * 18446744073709551616) := by
    rw [Nat.add_mul, Nat.mul_left_comm c' P, Nat.mul_left_comm b' P]
  have e3 : (c + b) * P = P * c + P * b := by rw [Nat.mul_comm, Nat.mul_add]
  rw [e2]
  rw [e3] at h
  simp only [Nat.mul_add] at h1 h2
  omega
/-- the last digit, of which the carry is taken away -/
theorem sub_last {vs os : List Nat} {R q j n c b d b' : Nat} (h : SubSt vs os R q j n c b) (hn : n = vs.length) (hl : j + n < os.length)
    (hs : d + c + b = os.getD (j + n) 0 + b' * 18446744073709551616) : val (os.set (j + n) d) + q * (18446744073709551616 ^ j * val vs) = R + b' * 18446744073709551616 ^ (j + n + 1) := by
  unfold SubSt at h
  have hv := val_set (ws := os) (k := j + n) d hl
  rw [List.take_of_length_le (by omega)] at h
  obtain ⟨P, hP⟩ : ∃ P, 18446744073709551616 ^ (j + n) = P := ⟨_, rfl⟩
  rw [Nat.pow_succ, hP]
  rw [hP] at h hv
  have h1 : P * (d + c + b) = P * (os.getD (j + n) 0 + b' * 18446744073709551616) := by rw [hs]
  have e3 : (c + b) * P = P * c + P * b := by rw [Nat.mul_comm, Nat.mul_add]
  have e4 : b' * (P * 18446744073709551616) = P * (b' * 18446744073709551616) := Nat.mul_left_comm _ _ _
  rw [e4]
  rw [e3] at h
  simp only [Nat.mul_add] at h1
  omega
/-- adding the divisor back: behind i digits -/
def AddSt (vs os : List Nat) (S j i c : Nat) : Prop := val os + c * 18446744073709551616 ^ (j + i) = S + 18446744073709551616 ^ j * val (vs.take i)
theorem add_start (vs os : List Nat) (j : Nat) : AddSt vs os (val os) j 0 0 := by simp [AddSt, val]
theorem add_step {vs os : List Nat} {S j i c c' d : Nat} (h : AddSt vs os S j i c) (hi : i < vs.length) (hl : j + i < os.length)
    (hs : os.getD (j + i) 0 + vs.getD i 0 + c = c' * 18446744073709551616 + d) : AddSt vs (os.set (j + i) d) S j (i + 1) c' := by
  unfold AddSt at *
  have hv := val_set (ws := os) (k := j + i) d hl
  rw [val_take_succ hi]
  obtain ⟨P, hP⟩ : ∃ P, 18446744073709551616 ^ (j + i) = P := ⟨_, rfl⟩
  have e1 : 18446744073709551616 ^ j * (val (vs.take i) + 18446744073709551616 ^ i * vs.getD i 0) = 18446744073709551616 ^ j * val (vs.take i) + P * vs.getD i 0 := by
    rw [Nat.mul_add, ← Nat.mul_assoc (18446744073709551616 ^ j), ← Nat.pow_add, hP]
  rw [e1, show j + (i + 1) = j + i + 1 by omega, Nat.pow_succ, hP]
  rw [hP] at h hv
  have h1 : P * (os.getD (j + i) 0 + vs.getD i 0 + c) = P * (c' * 18446744073709551616 + d) := by rw [hs]
  have e2 : c' * (P * 18446744073709551616) = P * (c' * 18446744073709551616) := Nat.mul_left_comm _ _ _
  have e3 : c * P = P * c := Nat.mul_comm _ _
  rw [e2]
  rw [e3] at h
  simp only [Nat.mul_add] at h1
  omega
theorem add_last {vs os : List Nat} {S j n c c' d : Nat} (h : AddSt vs os S j n c) (hn : n = vs.length) (hl : j + n < os.length)
    (hs : os.getD (j + n) 0 + c = c' * 18446744073709551616 + d) : val (os.set (j + n) d) + c' * 18446744073709551616 ^ (j + n + 1) = S + 18446744073709551616 ^ j * val vs := by
  unfold AddSt at h
  have hv := val_set (ws := os) (k := j + n) d hl
  rw [List.take_of_length_le (by omega)] at h
  obtain ⟨P, hP⟩ : ∃ P, 18446744073709551616 ^ (j + n) = P := ⟨_, rfl⟩
  rw [Nat.pow_succ, hP]
  rw [hP] at h hv
  have h1 : P * (os.getD (j + n) 0 + c) = P * (c' * 18446744073709551616 + d) := by rw [hs]
  have e2 : c' * (P * 18446744073709551616) = P * (c' * 18446744073709551616) := Nat.mul_left_comm _ _ _
  have e3 : c * P = P * c := Nat.mul_comm _ _
  rw [e2]
  rw [e3] at h
  simp only [Nat.mul_add] at h1
  omega

/-- behind a taking away (b: a borrow is open): V is the divisor by its place -/
structure BackSt (os : List Nat) (R V K q b : Nat) : Prop where
  eq : val os + q * V = R + b * K
  lt : val os < K
  ge : R / V ≤ q
  b1 : b ≤ 1
theorem back_open {os : List Nat} {R V K q : Nat} (h : BackSt os R V K q 1) (hV : 0 < V) : R / V ≤ q - 1 ∧ 0 < q := by
  have h1 := h.eq
  have h2 := h.lt
  have h3 : R < q * V := by omega
  have h4 : R / V < q := (Nat.div_lt_iff_lt_mul hV).2 h3
  obtain ⟨e, he⟩ : ∃ e, R / V = e := ⟨_, rfl⟩
  rw [he] at h4 ⊢
  omega
theorem back_next {os os' : List Nat} {R V K q c : Nat} (h : BackSt os R V K q 1) (hV : 0 < V) (hl : val os' < K) (hc : c ≤ 1) (he : val os' + c * K = val os + V) : BackSt os' R V K (q - 1) (1 - c) := by
  obtain ⟨h1, h2⟩ := back_open h hV
  refine ⟨?_, hl, h1, by omega⟩
  have h3 := h.eq
  obtain ⟨p, rfl⟩ : ∃ p, q = p + 1 := ⟨q - 1, by omega⟩
  rw [Nat.add_sub_cancel]
  rw [Nat.add_mul] at h3
  have : (1 - c) * K + c * K = 1 * K := by rw [← Nat.add_mul]; congr 1; omega
  omega
theorem back_shut {os : List Nat} {R V K q : Nat} (h : BackSt os R V K q 0) (hV : 0 < V) : q = R / V ∧ val os = R % V := by
  have h1 := h.eq
  have h2 := h.ge
  have h3 : q ≤ R / V := (Nat.le_div_iff_mul_le hV).2 (by omega)
  have h4 : q = R / V := by omega
  refine ⟨h4, ?_⟩
  have h5 := Nat.div_add_mod R V
  rw [h4, Nat.mul_comm] at h1
  omega

/-- a block whose first words are these; whatever stands behind them -/
def BlkP (w : World) (g : Nat) (ws : List Nat) : Prop := ∃ cur : Array Value, w.heap[g]? = some (.cells cur 22 (0, 0)) ∧ ws.length ≤ cur.size ∧ ∀ j, j < ws.length → cur[j]? = some (.int .u64 (ws.getD j 0 : Nat))
theorem BlkP.lt {w : World} {g : Nat} {ws : List Nat} (h : BlkP w g ws) : g < w.heap.size := by
  obtain ⟨cur, h, -⟩ := h
  rcases Nat.lt_or_ge g w.heap.size with hlt | hge
  · exact hlt
  · rw [Array.getElem?_eq_none hge] at h; cases h
theorem BlkP.cell {w : World} {g : Nat} {ws : List Nat} (h : BlkP w g ws) {j : Nat} (hj : j < ws.length) : w.cell? ⟨g, j, none⟩ = some (.int .u64 (ws.getD j 0 : Nat)) := by
  obtain ⟨cur, h, -, h2⟩ := h
  rw [cell_of_row w g j _ _ (0, 0) h]; exact h2 j hj
theorem BlkP.frozen {w : World} {g : Nat} {ws : List Nat} (h : BlkP w g ws) (j : Nat) : w.frozen? ⟨g, j, none⟩ = false := by
  obtain ⟨cur, h, -⟩ := h
  simp [World.frozen?, h]
theorem BlkP.set {w : World} {g : Nat} {ws : List Nat} (h : BlkP w g ws) (i x : Nat) : BlkP (w.setCell ⟨g, i, none⟩ (.int .u64 (x : Nat))) g (ws.set i x) := by
  obtain ⟨cur, h, h1, h2⟩ := h
  refine ⟨cur.setIfInBounds i (.int .u64 (x : Nat)), by simp [World.setCell, Array.getElem?_modify, h], by simpa using h1, fun j hj => ?_⟩
  rw [List.length_set] at hj
  rw [Array.getElem?_setIfInBounds, List.getD_eq_getElem?_getD, List.getElem?_set]
  by_cases e : i = j
  · subst e
    rw [if_pos rfl, if_pos rfl, if_pos hj, if_pos (by omega)]
    rfl
  · rw [if_neg e, if_neg e, ← List.getD_eq_getElem?_getD]
    exact h2 j hj
theorem BlkP.setI {w : World} {g k y : Nat} {ws : List Nat} {x : Int} (h : BlkP w g ws) (hx : x = (y : Int)) : BlkP (w.setCell ⟨g, k, none⟩ (.int .u64 x)) g (ws.set k y) := by
  rw [hx]; exact h.set k y
theorem BlkP.mag {w : World} {g c : Nat} {ws : List Nat} (h : BlkP w g ws) (hw : W64 ws) (hl : ws.length ≤ c) (hc : c ≤ 9223372036854775807) : Mag w (.slice (some ⟨g, 0, none⟩) ws.length c) ws :=
  ⟨_, _, rfl, hl, hc, hw, fun _ => ⟨g, 0, rfl, h.lt, fun j hj => by rw [Nat.zero_add]; exact h.cell hj⟩⟩
end Go.Proofs.YtgccfdfbnhldbaaGreatDoor.Nb
