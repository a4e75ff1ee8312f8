/- Y2 Q2 in one text. -/
import Derived.Test.YtbidlkmagbjllaaGreatDoorP01
import Derived.WalkKit
import Derived.Laws.OwnMore
import Derived.Deep.Draws

namespace Go.Proofs.YtbidlkmagbjllaaGreatDoor.Nb
open Go Go.RowKit

/-- the slice value v holds the words ws: it is empty, or its cells lie at an address below the heap's end -/
def Mag (w : World) (v : Value) (ws : List Nat) : Prop :=
  ∃ (A : Option Addr) (c : Nat), v = .slice A ws.length c ∧ ws.length ≤ c ∧ c ≤ 9223372036854775807 ∧ W64 ws ∧
    (0 < ws.length → ∃ b off, A = some ⟨b, off, none⟩ ∧ b < w.heap.size ∧ ∀ j, j < ws.length → w.cell? ⟨b, off + j, none⟩ = some (.int .u64 (ws.getD j 0 : Nat)))

theorem Mag.w32 {w : World} {v : Value} {ws : List Nat} (h : Mag w v ws) : W64 ws := by
  obtain ⟨A, c, -, -, -, h, -⟩ := h; exact h
theorem Mag.keep {w w' : World} {v : Value} {ws : List Nat} (h : Mag w v ws) (hs : w.heap.size ≤ w'.heap.size) (hk : ∀ (p : Addr) k n, p.block < w.heap.size → w.cell? p = some (.int k n) → w'.cell? p = some (.int k n)) : Mag w' v ws := by
  obtain ⟨A, c, h1, h2, h3, h4, h5⟩ := h
  refine ⟨A, c, h1, h2, h3, h4, fun hl => ?_⟩
  obtain ⟨b, off, rfl, hb, hc⟩ := h5 hl
  exact ⟨b, off, rfl, by omega, fun j hj => hk _ _ _ hb (hc j hj)⟩
theorem Mag.below {w w' : World} {v : Value} {ws : List Nat} (h : Mag w v ws) (hb : Below w.heap.size w w') : Mag w' v ws :=
  h.keep hb.size fun _ _ _ hp hc => (hb.cell hp).trans hc
theorem Mag.drewN {w : World} {v : Value} {ws : List Nat} (h : Mag w v ws) (n : Nat) : Mag (w.drewN n) v ws := h
theorem Mag.drew {w : World} {v : Value} {ws : List Nat} (h : Mag w v ws) : Mag w.drew v ws := h
theorem Mag.alloc {w : World} {v : Value} {ws : List Nat} (h : Mag w v ws) (o : Obj) : Mag (w.alloc o) v ws :=
  h.below ((Below.refl _ _).alloc (Nat.le_refl _) _)
theorem Mag.nil (w : World) (A : Option Addr) (c : Nat) (hc : c ≤ 9223372036854775807) : Mag w (.slice A 0 c) [] :=
  ⟨A, c, rfl, Nat.zero_le _, hc, W64.nil, fun h => by simp at h⟩
theorem Mag.take {w : World} {A : Option Addr} {c : Nat} {ws : List Nat} (h : Mag w (.slice A ws.length c) ws) {k : Nat} (hk : k ≤ ws.length) : Mag w (.slice A k c) (ws.take k) := by
  obtain ⟨A', c', h1, h2, h3, h4, h5⟩ := h
  injection h1 with h1 _ h6
  subst h1 h6
  have hl : (ws.take k).length = k := by rw [List.length_take]; omega
  refine ⟨A, c, by rw [hl], by omega, h3, h4.take k, fun h0 => ?_⟩
  obtain ⟨b, off, rfl, hb, hc⟩ := h5 (by omega)
  refine ⟨b, off, rfl, hb, fun j hj => ?_⟩
  rw [hc j (by omega), List.getD_eq_getElem?_getD, List.getD_eq_getElem?_getD, List.getElem?_take_of_lt (by omega)]

/-- a slice that holds the number n: no nought at its end, at most L words -/
def MagN (w : World) (v : Value) (n L : Nat) : Prop := ∃ ws, Mag w v ws ∧ Norm ws ∧ val ws = n ∧ ws.length ≤ L
theorem MagN.below {w w' : World} {v : Value} {n L : Nat} (h : MagN w v n L) (hb : Below w.heap.size w w') : MagN w' v n L := by
  obtain ⟨ws, h1, h2⟩ := h
  exact ⟨ws, h1.below hb, h2⟩
theorem MagN.more {w : World} {v : Value} {n L L' : Nat} (h : MagN w v n L) (hL : L ≤ L') : MagN w v n L' := by
  obtain ⟨ws, h1, h2, h3, h4⟩ := h
  exact ⟨ws, h1, h2, h3, by omega⟩
theorem MagN.less {w : World} {v : Value} {n L L' : Nat} (h : MagN w v n L) (hn : n < 18446744073709551616 ^ L') : MagN w v n L' := by
  obtain ⟨ws, h1, h2, h3, h4⟩ := h
  exact ⟨ws, h1, h2, h3, norm_len_le h2 (by rw [h3]; exact hn)⟩

/-- the whole number x lies at p: its sign, its magnitude of at most L words -/
def IntAt (w : World) (p : Addr) (x : Int) (L : Nat) : Prop :=
  ∃ (b off : Nat) (neg : Bool) (v : Value) (n : Nat), p = ⟨b, off, none⟩ ∧ b < w.heap.size ∧ w.cell? ⟨b, off, none⟩ = some (.bool neg) ∧ w.cell? ⟨b, off + 1, none⟩ = some v ∧ MagN w v n L ∧
    x = (if neg then -(n : Int) else (n : Int)) ∧ (neg = true → n ≠ 0)
/-- a number can be written at p -/
def Slot (w : World) (p : Addr) : Prop :=
  ∃ (b off : Nat) (neg : Bool) (A : Option Addr) (n c : Nat), p = ⟨b, off, none⟩ ∧ b < w.heap.size ∧ w.cell? ⟨b, off, none⟩ = some (.bool neg) ∧ w.cell? ⟨b, off + 1, none⟩ = some (.slice A n c) ∧
    w.frozen? ⟨b, off, none⟩ = false ∧ w.frozen? ⟨b, off + 1, none⟩ = false

theorem IntAt.below {w w' : World} {p : Addr} {x : Int} {L : Nat} (h : IntAt w p x L) (hb : Below w.heap.size w w') : IntAt w' p x L := by
  obtain ⟨b, off, neg, v, n, h1, h2, h3, h4, h5, h6⟩ := h
  exact ⟨b, off, neg, v, n, h1, by have := hb.size; omega, (hb.cell (by exact h2)).trans h3, (hb.cell (by exact h2)).trans h4, h5.below hb, h6⟩
theorem Slot.below {w w' : World} {p : Addr} (h : Slot w p) (hb : Below w.heap.size w w') : Slot w' p := by
  obtain ⟨b, off, neg, A, n, c, h1, h2, h3, h4, h5, h6⟩ := h
  exact ⟨b, off, neg, A, n, c, h1, by have := hb.size; omega, (hb.cell (by exact h2)).trans h3, (hb.cell (by exact h2)).trans h4, (hb.frozen (by exact h2)).trans h5, (hb.frozen (by exact h2)).trans h6⟩
theorem IntAt.more {w : World} {p : Addr} {x : Int} {L L' : Nat} (h : IntAt w p x L) (hL : L ≤ L') : IntAt w p x L' := by
  obtain ⟨b, off, neg, v, n, h1, h2, h3, h4, h5, h6⟩ := h
  exact ⟨b, off, neg, v, n, h1, h2, h3, h4, h5.more hL, h6⟩

/-- what a call has written: memory of its own, and the two cells of the number at z -/
def Wrote (w w' : World) (z : Addr) : Prop :=
  ∃ (b off : Nat) (w1 : World) (neg : Bool) (A : Option Addr) (n c : Nat), z = ⟨b, off, none⟩ ∧ Below w.heap.size w w1 ∧ w' = (w1.setCell ⟨b, off + 1, none⟩ (.slice A n c)).setCell ⟨b, off, none⟩ (.bool neg)

theorem Wrote.below {w w' : World} {z : Addr} (h : Wrote w w' z) {B : Nat} (hB : B ≤ z.block) (hB' : B ≤ w.heap.size) : Below B w w' := by
  obtain ⟨b, off, w1, neg, A, n, c, rfl, h1, rfl⟩ := h
  exact ((h1.mono hB').setCell (p := ⟨b, off + 1, none⟩) hB _).setCell (p := ⟨b, off, none⟩) hB _
theorem Wrote.size {w w' : World} {z : Addr} (h : Wrote w w' z) : w.heap.size ≤ w'.heap.size := by
  obtain ⟨b, off, w1, neg, A, n, c, rfl, h1, rfl⟩ := h
  simpa [World.setCell] using h1.size
/-- a cell that is not one of the two reads as it did -/
theorem Wrote.cell {w w' : World} {b off : Nat} (h : Wrote w w' ⟨b, off, none⟩) {p : Addr} (hp : p.block < w.heap.size) (h0 : p ≠ ⟨b, off, none⟩) (h1 : p ≠ ⟨b, off + 1, none⟩) : w'.cell? p = w.cell? p := by
  obtain ⟨b', off', w1, neg, A, n, c, e, hb, rfl⟩ := h
  injection e with e1 e2
  subst e1 e2
  rw [World.cell?_setCell_other _ _ _ _ (Ne.symm h0), World.cell?_setCell_other _ _ _ _ (Ne.symm h1)]
  exact hb.cell hp
theorem Wrote.mag {w w' : World} {z : Addr} (h : Wrote w w' z) (hz : Slot w z) {v : Value} {ws : List Nat} (hm : Mag w v ws) : Mag w' v ws := by
  obtain ⟨b, off, neg, A, n, c, rfl, h2, h3, h4, -, -⟩ := hz
  refine hm.keep h.size fun p k x hp hc => ?_
  rw [h.cell hp (by rintro rfl; rw [h3] at hc; cases hc) (by rintro rfl; rw [h4] at hc; cases hc)]
  exact hc
theorem Wrote.magN {w w' : World} {z : Addr} (h : Wrote w w' z) (hz : Slot w z) {v : Value} {n L : Nat} (hm : MagN w v n L) : MagN w' v n L := by
  obtain ⟨ws, h1, h2⟩ := hm
  exact ⟨ws, h.mag hz h1, h2⟩
/-- another number is as it was -/
theorem Wrote.intAt {w w' : World} {z p : Addr} (h : Wrote w w' z) (hz : Slot w z) {x : Int} {L : Nat} (hi : IntAt w p x L) (hne : p ≠ z) : IntAt w' p x L := by
  have hz' := hz
  obtain ⟨b, off, neg, v, n, rfl, h2, h3, h4, h5, h6⟩ := hi
  obtain ⟨b', off', neg', A', n', c', rfl, g2, g3, g4, -, -⟩ := hz
  have hv : ∃ A k c, v = .slice A k c := by
    obtain ⟨ws, ⟨A, c, e, -⟩, -⟩ := h5
    exact ⟨A, _, c, e⟩
  obtain ⟨A, k, c, rfl⟩ := hv
  have c0 : w'.cell? ⟨b, off, none⟩ = some (.bool neg) := by
    rw [h.cell (by exact h2) hne (by intro e; rw [e, g4] at h3; cases h3)]; exact h3
  have c1 : w'.cell? ⟨b, off + 1, none⟩ = some (.slice A k c) := by
    rw [h.cell (by exact h2) (by intro e; rw [e, g3] at h4; cases h4) (by
      intro e
      injection e with e1 e2
      exact hne (by rw [e1, show off = off' by omega]))]
    exact h4
  exact ⟨b, off, neg, _, n, rfl, by have := h.size; omega, c0, c1, h.magN hz' h5, h6⟩
/-- where a number can be written it can be written again -/
theorem Wrote.slot {w w' : World} {z p : Addr} (h : Wrote w w' z) (hz : Slot w z) (hp : Slot w p) : Slot w' p := by
  obtain ⟨b, off, w1, neg, A, n, c, rfl, hb, rfl⟩ := h
  obtain ⟨b', off', neg', A', n', c', e, g2, g3, g4, g5, g6⟩ := hz
  injection e with e1 e2
  subst e1 e2
  obtain ⟨b1, off1, neg1, A1, n1', c1, rfl, k2, k3, k4, k5, k6⟩ := hp
  have hs := hb.size
  have q3 := (hb.cell (p := ⟨b1, off1, none⟩) k2).trans k3
  have q4 := (hb.cell (p := ⟨b1, off1 + 1, none⟩) k2).trans k4
  have q5 := (hb.frozen (p := ⟨b1, off1, none⟩) k2).trans k5
  have q6 := (hb.frozen (p := ⟨b1, off1 + 1, none⟩) k2).trans k6
  have r3 := (hb.cell (p := ⟨b, off, none⟩) g2).trans g3
  have r4 := (hb.cell (p := ⟨b, off + 1, none⟩) g2).trans g4
  by_cases hsame : (⟨b1, off1, none⟩ : Addr) = ⟨b, off, none⟩
  · injection hsame with s1 s2
    subst s1 s2
    refine ⟨b1, off1, neg, A, n, c, rfl, by simp [World.setCell]; omega, ?_, ?_, ?_, ?_⟩ <;> simp [go_sem, r3, r4, q5, q6]
  · have n1 : (⟨b1, off1, none⟩ : Addr) ≠ ⟨b, off + 1, none⟩ := by intro e; rw [e, r4] at q3; cases q3
    have n2 : (⟨b1, off1 + 1, none⟩ : Addr) ≠ ⟨b, off, none⟩ := by intro e; rw [e, r3] at q4; cases q4
    have n3 : (⟨b1, off1 + 1, none⟩ : Addr) ≠ ⟨b, off + 1, none⟩ := by
      intro e
      injection e with s1 s2
      exact hsame (by rw [s1, show off1 = off by omega])
    refine ⟨b1, off1, neg1, A1, n1', c1, rfl, by simp [World.setCell]; omega, ?_, ?_, ?_, ?_⟩
    · rw [World.cell?_setCell_other _ _ _ _ (Ne.symm hsame), World.cell?_setCell_other _ _ _ _ (Ne.symm n1)]; exact q3
    · rw [World.cell?_setCell_other _ _ _ _ (Ne.symm n2), World.cell?_setCell_other _ _ _ _ (Ne.symm n3)]; exact q4
    · simp [go_sem, q5]
    · simp [go_sem, q6]
end Go.Proofs.YtbidlkmagbjllaaGreatDoor.Nb

namespace Go.Proofs.YtbidlkmagbjllaaGreatDoor.Bg
open Go Go.RowKit

/-- the slice value v holds the words ws: it is empty, or its cells lie at an address below the heap's end -/
def Mag (w : World) (v : Value) (ws : List Nat) : Prop :=
  ∃ (A : Option Addr) (c : Nat), v = .slice A ws.length c ∧ ws.length ≤ c ∧ c ≤ 9223372036854775807 ∧ W32 ws ∧
    (0 < ws.length → ∃ b off, A = some ⟨b, off, none⟩ ∧ b < w.heap.size ∧ ∀ j, j < ws.length → w.cell? ⟨b, off + j, none⟩ = some (.int .u32 (ws.getD j 0 : Nat)))

theorem Mag.w32 {w : World} {v : Value} {ws : List Nat} (h : Mag w v ws) : W32 ws := by
  obtain ⟨A, c, -, -, -, h, -⟩ := h; exact h
theorem Mag.keep {w w' : World} {v : Value} {ws : List Nat} (h : Mag w v ws) (hs : w.heap.size ≤ w'.heap.size) (hk : ∀ (p : Addr) k n, p.block < w.heap.size → w.cell? p = some (.int k n) → w'.cell? p = some (.int k n)) : Mag w' v ws := by
  obtain ⟨A, c, h1, h2, h3, h4, h5⟩ := h
  refine ⟨A, c, h1, h2, h3, h4, fun hl => ?_⟩
  obtain ⟨b, off, rfl, hb, hc⟩ := h5 hl
  exact ⟨b, off, rfl, by omega, fun j hj => hk _ _ _ hb (hc j hj)⟩
theorem Mag.below {w w' : World} {v : Value} {ws : List Nat} (h : Mag w v ws) (hb : Below w.heap.size w w') : Mag w' v ws :=
  h.keep hb.size fun _ _ _ hp hc => (hb.cell hp).trans hc
theorem Mag.drewN {w : World} {v : Value} {ws : List Nat} (h : Mag w v ws) (n : Nat) : Mag (w.drewN n) v ws := h
theorem Mag.drew {w : World} {v : Value} {ws : List Nat} (h : Mag w v ws) : Mag w.drew v ws := h
theorem Mag.alloc {w : World} {v : Value} {ws : List Nat} (h : Mag w v ws) (o : Obj) : Mag (w.alloc o) v ws :=
  h.below ((Below.refl _ _).alloc (Nat.le_refl _) _)
theorem Mag.nil (w : World) (A : Option Addr) (c : Nat) (hc : c ≤ 9223372036854775807) : Mag w (.slice A 0 c) [] :=
  ⟨A, c, rfl, Nat.zero_le _, hc, W32.nil, fun h => by simp at h⟩
theorem Mag.take {w : World} {A : Option Addr} {c : Nat} {ws : List Nat} (h : Mag w (.slice A ws.length c) ws) {k : Nat} (hk : k ≤ ws.length) : Mag w (.slice A k c) (ws.take k) := by
  obtain ⟨A', c', h1, h2, h3, h4, h5⟩ := h
  injection h1 with h1 _ h6
  subst h1 h6
  have hl : (ws.take k).length = k := by rw [List.length_take]; omega
  refine ⟨A, c, by rw [hl], by omega, h3, h4.take k, fun h0 => ?_⟩
  obtain ⟨b, off, rfl, hb, hc⟩ := h5 (by omega)
  refine ⟨b, off, rfl, hb, fun j hj => ?_⟩
  rw [hc j (by omega), List.getD_eq_getElem?_getD, List.getD_eq_getElem?_getD, List.getElem?_take_of_lt (by omega)]

/-- a slice that holds the number n: no nought at its end, at most L words -/
def MagN (w : World) (v : Value) (n L : Nat) : Prop := ∃ ws, Mag w v ws ∧ Norm ws ∧ val ws = n ∧ ws.length ≤ L
theorem MagN.below {w w' : World} {v : Value} {n L : Nat} (h : MagN w v n L) (hb : Below w.heap.size w w') : MagN w' v n L := by
  obtain ⟨ws, h1, h2⟩ := h
  exact ⟨ws, h1.below hb, h2⟩
theorem MagN.more {w : World} {v : Value} {n L L' : Nat} (h : MagN w v n L) (hL : L ≤ L') : MagN w v n L' := by
  obtain ⟨ws, h1, h2, h3, h4⟩ := h
  exact ⟨ws, h1, h2, h3, by omega⟩
theorem MagN.less {w : World} {v : Value} {n L L' : Nat} (h : MagN w v n L) (hn : n < 4294967296 ^ L') : MagN w v n L' := by
  obtain ⟨ws, h1, h2, h3, h4⟩ := h
  exact ⟨ws, h1, h2, h3, norm_len_le h2 (by rw [h3]; exact hn)⟩

/-- the whole number x lies at p: its sign, its magnitude of at most L words -/
def IntAt (w : World) (p : Addr) (x : Int) (L : Nat) : Prop :=
  ∃ (b off : Nat) (neg : Bool) (v : Value) (n : Nat), p = ⟨b, off, none⟩ ∧ b < w.heap.size ∧ w.cell? ⟨b, off, none⟩ = some (.bool neg) ∧ w.cell? ⟨b, off + 1, none⟩ = some v ∧ MagN w v n L ∧
    x = (if neg then -(n : Int) else (n : Int)) ∧ (neg = true → n ≠ 0)
/-- a number can be written at p -/
def Slot (w : World) (p : Addr) : Prop :=
  ∃ (b off : Nat) (neg : Bool) (A : Option Addr) (n c : Nat), p = ⟨b, off, none⟩ ∧ b < w.heap.size ∧ w.cell? ⟨b, off, none⟩ = some (.bool neg) ∧ w.cell? ⟨b, off + 1, none⟩ = some (.slice A n c) ∧
    w.frozen? ⟨b, off, none⟩ = false ∧ w.frozen? ⟨b, off + 1, none⟩ = false

theorem IntAt.below {w w' : World} {p : Addr} {x : Int} {L : Nat} (h : IntAt w p x L) (hb : Below w.heap.size w w') : IntAt w' p x L := by
  obtain ⟨b, off, neg, v, n, h1, h2, h3, h4, h5, h6⟩ := h
  exact ⟨b, off, neg, v, n, h1, by have := hb.size; omega, (hb.cell (by exact h2)).trans h3, (hb.cell (by exact h2)).trans h4, h5.below hb, h6⟩
theorem Slot.below {w w' : World} {p : Addr} (h : Slot w p) (hb : Below w.heap.size w w') : Slot w' p := by
  obtain ⟨b, off, neg, A, n, c, h1, h2, h3, h4, h5, h6⟩ := h
  exact ⟨b, off, neg, A, n, c, h1, by have := hb.size; omega, (hb.cell (by exact h2)).trans h3, (hb.cell (by exact h2)).trans h4, (hb.frozen (by exact h2)).trans h5, (hb.frozen (by exact h2)).trans h6⟩
theorem IntAt.more {w : World} {p : Addr} {x : Int} {L L' : Nat} (h : IntAt w p x L) (hL : L ≤ L') : IntAt w p x L' := by
  obtain ⟨b, off, neg, v, n, h1, h2, h3, h4, h5, h6⟩ := h
  exact ⟨b, off, neg, v, n, h1, h2, h3, h4, h5.more hL, h6⟩

/-- what a call has written: memory of its own, and the two cells of the number at z -/
def Wrote (w w' : World) (z : Addr) : Prop :=
  ∃ (b off : Nat) (w1 : World) (neg : Bool) (A : Option Addr) (n c : Nat), z = ⟨b, off, none⟩ ∧ Below w.heap.size w w1 ∧ w' = (w1.setCell ⟨b, off + 1, none⟩ (.slice A n c)).setCell ⟨b, off, none⟩ (.bool neg)

theorem Wrote.below {w w' : World} {z : Addr} (h : Wrote w w' z) {B : Nat} (hB : B ≤ z.block) (hB' : B ≤ w.heap.size) : Below B w w' := by
  obtain ⟨b, off, w1, neg, A, n, c, rfl, h1, rfl⟩ := h
  exact ((h1.mono hB').setCell (p := ⟨b, off + 1, none⟩) hB _).setCell (p := ⟨b, off, none⟩) hB _
theorem Wrote.size {w w' : World} {z : Addr} (h : Wrote w w' z) : w.heap.size ≤ w'.heap.size := by
  obtain ⟨b, off, w1, neg, A, n, c, rfl, h1, rfl⟩ := h
  simpa [World.setCell] using h1.size
/-- a cell that is not one of the two reads as it did -/
theorem Wrote.cell {w w' : World} {b off : Nat} (h : Wrote w w' ⟨b, off, none⟩) {p : Addr} (hp : p.block < w.heap.size) (h0 : p ≠ ⟨b, off, none⟩) (h1 : p ≠ ⟨b, off + 1, none⟩) : w'.cell? p = w.cell? p := by
  obtain ⟨b', off', w1, neg, A, n, c, e, hb, rfl⟩ := h
  injection e with e1 e2
  subst e1 e2
  rw [World.cell?_setCell_other _ _ _ _ (Ne.symm h0), World.cell?_setCell_other _ _ _ _ (Ne.symm h1)]
  exact hb.cell hp
theorem Wrote.mag {w w' : World} {z : Addr} (h : Wrote w w' z) (hz : Slot w z) {v : Value} {ws : List Nat} (hm : Mag w v ws) : Mag w' v ws := by
  obtain ⟨b, off, neg, A, n, c, rfl, h2, h3, h4, -, -⟩ := hz
  refine hm.keep h.size fun p k x hp hc => ?_
  rw [h.cell hp (by rintro rfl; rw [h3] at hc; cases hc) (by rintro rfl; rw [h4] at hc; cases hc)]
  exact hc
theorem Wrote.magN {w w' : World} {z : Addr} (h : Wrote w w' z) (hz : Slot w z) {v : Value} {n L : Nat} (hm : MagN w v n L) : MagN w' v n L := by
  obtain ⟨ws, h1, h2⟩ := hm
  exact ⟨ws, h.mag hz h1, h2⟩
/-- another number is as it was -/
theorem Wrote.intAt {w w' : World} {z p : Addr} (h : Wrote w w' z) (hz : Slot w z) {x : Int} {L : Nat} (hi : IntAt w p x L) (hne : p ≠ z) : IntAt w' p x L := by
  have hz' := hz
  obtain ⟨b, off, neg, v, n, rfl, h2, h3, h4, h5, h6⟩ := hi
  obtain ⟨b', off', neg', A', n', c', rfl, g2, g3, g4, -, -⟩ := hz
  have hv : ∃ A k c, v = .slice A k c := by
    obtain ⟨ws, ⟨A, c, e, -⟩, -⟩ := h5
    exact ⟨A, _, c, e⟩
  obtain ⟨A, k, c, rfl⟩ := hv
  have c0 : w'.cell? ⟨b, off, none⟩ = some (.bool neg) := by
    rw [h.cell (by exact h2) hne (by intro e; rw [e, g4] at h3; cases h3)]; exact h3
  have c1 : w'.cell? ⟨b, off + 1, none⟩ = some (.slice A k c) := by
    rw [h.cell (by exact h2) (by intro e; rw [e, g3] at h4; cases h4) (by
      intro e
      injection e with e1 e2
      exact hne (by rw [e1, show off = off' by omega]))]
    exact h4
  exact ⟨b, off, neg, _, n, rfl, by have := h.size; omega, c0, c1, h.magN hz' h5, h6⟩
/-- where a number can be written it can be written again -/
theorem Wrote.slot {w w' : World} {z p : Addr} (h : Wrote w w' z) (hz : Slot w z) (hp : Slot w p) : Slot w' p := by
  obtain ⟨b, off, w1, neg, A, n, c, rfl, hb, rfl⟩ := h
  obtain ⟨b', off', neg', A', n', c', e, g2, g3, g4, g5, g6⟩ := hz
  injection e with e1 e2
  subst e1 e2
  obtain ⟨b1, off1, neg1, A1, n1', c1, rfl, k2, k3, k4, k5, k6⟩ := hp
  have hs := hb.size
  have q3 := (hb.cell (p := ⟨b1, off1, none⟩) k2).trans k3
  have q4 := (hb.cell (p := ⟨b1, off1 + 1, none⟩) k2).trans k4
  have q5 := (hb.frozen (p := ⟨b1, off1, none⟩) k2).trans k5
  have q6 := (hb.frozen (p := ⟨b1, off1 + 1, none⟩) k2).trans k6
  have r3 := (hb.cell (p := ⟨b, off, none⟩) g2).trans g3
  have r4 := (hb.cell (p := ⟨b, off + 1, none⟩) g2).trans g4
  by_cases hsame : (⟨b1, off1, none⟩ : Addr) = ⟨b, off, none⟩
  · injection hsame with s1 s2
    subst s1 s2
    refine ⟨b1, off1, neg, A, n, c, rfl, by simp [World.setCell]; omega, ?_, ?_, ?_, ?_⟩ <;> simp [go_sem, r3, r4, q5, q6]
  · have n1 : (⟨b1, off1, none⟩ : Addr) ≠ ⟨b, off + 1, none⟩ := by intro e; rw [e, r4] at q3; cases q3
    have n2 : (⟨b1, off1 + 1, none⟩ : Addr) ≠ ⟨b, off, none⟩ := by intro e; rw [e, r3] at q4; cases q4
    have n3 : (⟨b1, off1 + 1, none⟩ : Addr) ≠ ⟨b, off + 1, none⟩ := by
      intro e
      injection e with s1 s2
      exact hsame (by rw [s1, show off1 = off by omega])
    refine ⟨b1, off1, neg1, A1, n1', c1, rfl, by simp [World.setCell]; omega, ?_, ?_, ?_, ?_⟩
    · rw [World.cell?_setCell_other _ _ _ _ (Ne.symm hsame), World.cell?_setCell_other _ _ _ _ (Ne.symm n1)]; exact q3
    · rw [World.cell?_setCell_other _ _ _ _ (Ne.symm n2), World.cell?_setCell_other _ _ _ _ (Ne.symm n3)]; exact q4
    · simp [go_sem, q5]
    · simp [go_sem, q6]
end Go.Proofs.YtbidlkmagbjllaaGreatDoor.Bg
