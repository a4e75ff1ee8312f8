/- Rows of timed readings in memory; contracts of the heap's own methods: Len, Less, Swap. -/
import Derived.Test.YtebacmmfjadalaaJ2
import Derived.Laws.OwnMore
namespace Go.Proofs.Ytebacmmfjadalaa
open Go Go.RowKit

def El.row (e : El) : List Value := [.int .i64 e.at_, .int .i64 e.se, .int .u32 e.sq, .int .u32 e.st, .slice e.v e.n e.c]
def flat : List El → List Value
  | [] => []
  | e :: l => e.row ++ flat l
theorem flat_len : ∀ xs : List El, (flat xs).length = xs.length * 5
  | [] => rfl
  | e :: l => by simp [flat, El.row, flat_len l]; omega
theorem flat_app : ∀ xs ys : List El, flat (xs ++ ys) = flat xs ++ flat ys
  | [], _ => rfl
  | e :: l, ys => by simp [flat, flat_app l ys]
theorem flat_get : ∀ (xs : List El) (i j : Nat) (e : El), xs[i]? = some e → j < 5 → (flat xs)[i * 5 + j]? = e.row[j]?
  | [], i, j, e, h, _ => by simp at h
  | x :: l, 0, j, e, h, hj => by
    simp at h
    subst h
    rw [flat, Nat.zero_mul, Nat.zero_add, List.getElem?_append_left (by simpa [El.row] using hj)]
  | x :: l, i + 1, j, e, h, hj => by
    simp at h
    rw [flat, List.getElem?_append_right (by simp [El.row]; omega), show (i + 1) * 5 + j - x.row.length = i * 5 + j by simp [El.row]; omega]
    exact flat_get l i j e h hj
theorem flat_set : ∀ (xs : List El) (i : Nat) (e : El), i < xs.length →
    flat (xs.set i e) = (((((flat xs).set (i * 5) (.int .i64 e.at_)).set (i * 5 + 1) (.int .i64 e.se)).set (i * 5 + 2) (.int .u32 e.sq)).set (i * 5 + 3) (.int .u32 e.st)).set (i * 5 + 4) (.slice e.v e.n e.c)
  | [], i, e, h => by simp at h
  | x :: l, 0, e, _ => by simp [flat, El.row]
  | x :: l, i + 1, e, h => by
    have h1 : i < l.length := by simpa using h
    have e0 : ∀ j, (i + 1) * 5 + j = (i * 5 + j) + 1 + 1 + 1 + 1 + 1 := fun j => by omega
    have e1 : (i + 1) * 5 = (i * 5) + 1 + 1 + 1 + 1 + 1 := by omega
    rw [List.set_cons_succ, flat, flat_set l i e h1, flat, e0, e0, e0, e0, e1]
    simp only [El.row, List.cons_append, List.nil_append, List.set_cons_succ]

/-- the readings lie in block g -/
def Pl (w : World) (g cap : Nat) (xs : List El) : Prop := w.ownsRow 0 32 5 (.slice (some ⟨g, 0, none⟩) xs.length cap) xs.length (flat xs)
theorem Pl.cells {w : World} {g cap : Nat} {xs : List El} (h : Pl w g cap xs) {i : Nat} {e : El} (he : xs[i]? = some e) :
    w.cell? ⟨g, i * 5, none⟩ = some (.int .i64 e.at_) ∧ w.cell? ⟨g, i * 5 + 1, none⟩ = some (.int .i64 e.se) ∧ w.cell? ⟨g, i * 5 + 2, none⟩ = some (.int .u32 e.sq) ∧ w.cell? ⟨g, i * 5 + 3, none⟩ = some (.int .u32 e.st) ∧ w.cell? ⟨g, i * 5 + 4, none⟩ = some (.slice e.v e.n e.c) := by
  have hi : i < xs.length := by
    rcases Nat.lt_or_ge i xs.length with h | h
    · exact h
    · rw [List.getElem?_eq_none h] at he; simp at he
  have hc : ∀ j, j < 5 → w.cell? ⟨g, i * 5 + j, none⟩ = e.row[j]? := fun j hj => (h.cellAt (i * 5 + j) (by omega)).trans (flat_get xs i j e he hj)
  exact ⟨hc 0 (by omega), hc 1 (by omega), hc 2 (by omega), hc 3 (by omega), hc 4 (by omega)⟩
theorem Pl.frozen {w : World} {g cap : Nat} {xs : List El} (h : Pl w g cap xs) (j : Nat) : w.frozen? ⟨g, j, none⟩ = false := h.frozenAt j
theorem grown_trans {a b c : World} {g : Nat} (h : a.grownBy b (some g)) (k : b.grownBy c (some g)) : a.grownBy c (some g) :=
  ⟨k.os.trans h.os, k.tape.trans h.tape, k.output.trans h.output, Nat.le_trans h.size k.size, fun i hi hn => (k.block i (Nat.lt_of_lt_of_le hi h.size) hn).trans (h.block i hi hn)⟩
theorem Pl.set {w : World} {g cap : Nat} {xs : List El} (h : Pl w g cap xs) {i : Nat} (hi : i < xs.length) (e : El) :
    Pl (((((w.setCell ⟨g, i * 5, none⟩ (.int .i64 e.at_)).setCell ⟨g, i * 5 + 1, none⟩ (.int .i64 e.se)).setCell ⟨g, i * 5 + 2, none⟩ (.int .u32 e.sq)).setCell ⟨g, i * 5 + 3, none⟩ (.int .u32 e.st)).setCell ⟨g, i * 5 + 4, none⟩ (.slice e.v e.n e.c)) g cap (xs.set i e) ∧
    w.grownBy (((((w.setCell ⟨g, i * 5, none⟩ (.int .i64 e.at_)).setCell ⟨g, i * 5 + 1, none⟩ (.int .i64 e.se)).setCell ⟨g, i * 5 + 2, none⟩ (.int .u32 e.sq)).setCell ⟨g, i * 5 + 3, none⟩ (.int .u32 e.st)).setCell ⟨g, i * 5 + 4, none⟩ (.slice e.v e.n e.c)) (some g) := by
  obtain ⟨h0, k0⟩ := World.ownsRow.stored h (i * 5) (.int .i64 e.at_)
  obtain ⟨h1, k1⟩ := World.ownsRow.stored h0 (i * 5 + 1) (.int .i64 e.se)
  obtain ⟨h2, k2⟩ := World.ownsRow.stored h1 (i * 5 + 2) (.int .u32 e.sq)
  obtain ⟨h3, k3⟩ := World.ownsRow.stored h2 (i * 5 + 3) (.int .u32 e.st)
  obtain ⟨h4, k4⟩ := World.ownsRow.stored h3 (i * 5 + 4) (.slice e.v e.n e.c)
  refine ⟨?_, grown_trans (grown_trans (grown_trans (grown_trans k0 k1) k2) k3) k4⟩
  unfold Pl
  rw [List.length_set, flat_set xs i e hi]
  exact h4
end Go.Proofs.Ytebacmmfjadalaa
