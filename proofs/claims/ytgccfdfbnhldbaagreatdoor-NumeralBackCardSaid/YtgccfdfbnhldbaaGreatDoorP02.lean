/- Y2 in one text. -/
import Derived.Test.YtgccfdfbnhldbaaGreatDoorP01
import Derived.WalkKit
import Derived.Laws.OwnMore
import Derived.Deep.Draws

namespace Go.Proofs.YtgccfdfbnhldbaaGreatDoor.Nb
open Go Go.RowKit

/-- the slice value v holds the words ws: it is empty, or its cells lie at an address below the heap's end -/
def Mag (w : World) (v : Value) (ws : List Nat) : Prop :=
  ∃ (A : Option Addr) (c : Nat), v = .slice A ws.length c ∧ ws.length ≤ c ∧ c ≤ 9223372036854775807 ∧ W64 ws ∧
    (0 < ws.length → ∃ b off, A = some ⟨b, off, none⟩ ∧ b < w.heap.size ∧ ∀ j, j < ws.length → w.cell? ⟨b, off + j, none⟩ = some (.int .u64 (ws.getD j 0 : Nat)))

theorem Mag.w32 {w : World} {v : Value} {ws : List Nat} (h : Mag w v ws) : W64 ws := by
  obtain ⟨A, c, -, -, -, h, -⟩ := h; exact h
theorem Mag.keep {w w' : World} {v : Value} {ws : List Nat} (h : Mag w v ws) (hs : w.heap.size ≤ w'.heap.size) (hk : ∀ (p : Addr) k n, p.block < w.heap.size → w.cell? p = some (.int k n) → w'.cell? p = some (.int k n)) : Mag w' v ws := by
  obtain ⟨A, c, h1, h2, h3, h4, h5⟩ := h
  refine ⟨A, c, h1, h2, h3, h4, fun hl => ?_⟩
  obtain ⟨b, off, rfl, hb, hc⟩ := h5 hl
  exact ⟨b, off, rfl, by omega, fun j hj => hk _ _ _ hb (hc j hj)⟩
theorem Mag.below {w w' : World} {v : Value} {ws : List Nat} (h : Mag w v ws) (hb : Below w.heap.size w w') : Mag w' v ws :=
  h.keep hb.size fun _ _ _ hp hc => (hb.cell hp).trans hc
theorem Mag.nil (w : World) (A : Option Addr) (c : Nat) (hc : c ≤ 9223372036854775807) : Mag w (.slice A 0 c) [] :=
  ⟨A, c, rfl, Nat.zero_le _, hc, W64.nil, fun h => by simp at h⟩
theorem Mag.take {w : World} {A : Option Addr} {c : Nat} {ws : List Nat} (h : Mag w (.slice A ws.length c) ws) {k : Nat} (hk : k ≤ ws.length) : Mag w (.slice A k c) (ws.take k) := by
  obtain ⟨A', c', h1, h2, h3, h4, h5⟩ := h
  injection h1 with h1 _ h6
  subst h1 h6
  have hl : (ws.take k).length = k := by rw [List.length_take]; omega
  refine ⟨A, c, by rw [hl], by omega, h3, h4.take k, fun h0 => ?_⟩
  obtain ⟨b, off, rfl, hb, hc⟩ := h5 (by omega)
  refine ⟨b, off, rfl, hb, fun j hj => ?_⟩
  rw [hc j (by omega), List.getD_eq_getElem?_getD, List.getD_eq_getElem?_getD, List.getElem?_take_of_lt (by omega)]

/-- a slice that holds the number n: no nought at its end, at most L words -/
def MagN (w : World) (v : Value) (n L : Nat) : Prop := ∃ ws, Mag w v ws ∧ Norm ws ∧ val ws = n ∧ ws.length ≤ L
theorem MagN.below {w w' : World} {v : Value} {n L : Nat} (h : MagN w v n L) (hb : Below w.heap.size w w') : MagN w' v n L := by
  obtain ⟨ws, h1, h2⟩ := h
  exact ⟨ws, h1.below hb, h2⟩
theorem MagN.more {w : World} {v : Value} {n L L' : Nat} (h : MagN w v n L) (hL : L ≤ L') : MagN w v n L' := by
  obtain ⟨ws, h1, h2, h3, h4⟩ := h
  exact ⟨ws, h1, h2, h3, by omega⟩
theorem MagN.less {w : World} {v : Value} {n L L' : Nat} (h : MagN w v n L) (hn : n < 18446744073709551616 ^ L') : MagN w v n L' := by
  obtain ⟨ws, h1, h2, h3, h4⟩ := h
  exact ⟨ws, h1, h2, h3, norm_len_le h2 (by rw [h3]; exact hn)⟩

end Go.Proofs.YtgccfdfbnhldbaaGreatDoor.Nb
