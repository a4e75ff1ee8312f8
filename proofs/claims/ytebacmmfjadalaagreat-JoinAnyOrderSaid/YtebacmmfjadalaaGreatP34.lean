/- I6 in one text. -/
import Derived.Test.YtebacmmfjadalaaGreatP27
import Derived.Test.YtebacmmfjadalaaGreatP33
import Derived.Deep.RegionLaw
import Derived.Laws.IdiomCopy

namespace Go.Proofs.YtebacmmfjadalaaGreat
open Go Go.RowKit Go.WideShapes

theorem size_setC (b : Nat) : ∀ (vs : List Value) (o : Nat) (w : World), (w.setCells b o vs).heap.size = w.heap.size
  | [], _, _ => rfl
  | v :: r, o, w => by rw [World.setCells, size_setC b r]; simp [World.setCell]
theorem Ft.cells (g : Nat) : ∀ (vs : List Value) (o : Nat) (W : World), Ft W (W.setCells g o vs) (fun b => b = g)
  | [], _, W => Ft.of_below (Below.refl _ W) _
  | v :: r, o, W => by
    rw [World.setCells]
    have h1 : Ft W (W.setCell ⟨g, o, none⟩ v) (fun b => b = g) := (Ft.of_below (Below.refl _ W) (fun b => b = g)).set (p := ⟨g, o, none⟩) rfl v
    exact h1.trans (Ft.cells g r (o + 1) _)
structure Lf (W : World) (g cap : Nat) (xs : List In) : Prop where
  lt : g < W.heap.size
  le : xs.length ≤ cap
  cm : cap ≤ 9223372036854775807
  cells : ∀ j u, (flat4 xs)[j]? = some u → W.cell? ⟨g, j, none⟩ = some u
  fz : ∀ j, W.frozen? ⟨g, j, none⟩ = false
theorem Lf.keep {W W' : World} {g cap : Nat} {xs : List In} (h : Lf W g cap xs) (e : W'.heap[g]? = W.heap[g]?) (hs : W.heap.size ≤ W'.heap.size) : Lf W' g cap xs :=
  ⟨Nat.lt_of_lt_of_le h.lt hs, h.le, h.cm, fun j u hu => (World.cell?_of_block e).trans (h.cells j u hu), fun j => (World.frozen?_of_block e).trans (h.fz j)⟩
theorem Row4.lf {B : Nat} {w : World} {A : Option Addr} {n c : Nat} {xs : List In} (h : Row4 B w (.slice A n c) xs) (hx : 0 < xs.length) : ∃ g, A = some ⟨g, 0, none⟩ ∧ B ≤ g ∧ Lf w g c xs := by
  have h0 := h
  rcases h.2 with ⟨h1, h2⟩ | ⟨g, cap, cur, h1, h2, h3, h4, h5, -⟩
  · omega
  · injection h1 with e1 e2 e3
    subst e1 e2 e3
    refine ⟨g, rfl, h2, (Array.getElem?_eq_some_iff.1 h3).1, h4, h5, fun j u hu => ?_, fun j => World.ownsRow.frozenAt h0 j⟩
    have hj : j < xs.length * 4 := by
      have := (List.getElem?_eq_some_iff.1 hu).1
      rwa [flat4_len] at this
    exact (World.ownsRow.cellAt h0 j hj).trans hu
theorem flat4_take : ∀ (xs : List In) (i : Nat), flat4 (xs.take i) = (flat4 xs).take (i * 4)
  | [], i => by simp [flat4]
  | e :: l, 0 => by simp [flat4]
  | e :: l, i + 1 => by
    have := flat4_take l i
    rw [List.take_succ_cons, flat4, flat4, this, show (i + 1) * 4 = e.row4.length + i * 4 by simp [In.row4]; omega, List.take_length_add_append]
theorem Lf.del {W : World} {g cap : Nat} {xs : List In} (h : Lf W g cap xs) {i : Nat} (hi : i < xs.length) : Lf (W.setCells g (0 + i * 4) (flat4 (xs.drop (i + 1)))) g cap (xs.eraseIdx i) := by
  have hl : (flat4 (xs.drop (i + 1))).length = (xs.length - (i + 1)) * 4 := by rw [flat4_len, List.length_drop]
  have hsome : ∀ j, j < xs.length * 4 → (W.cell? ⟨g, j, none⟩).isSome = true := fun j hj => by
    have hj' : j < (flat4 xs).length := by rw [flat4_len]; exact hj
    rw [h.cells j _ (List.getElem?_eq_getElem hj')]
    rfl
  refine ⟨by rw [size_setC]; exact h.lt, ?_, h.cm, fun j u hu => ?_, fun j => (World.frozen?_setCells _ _ _ _ _).trans (h.fz j)⟩
  · rw [List.length_eraseIdx_of_lt hi]; have := h.le; omega
  · rw [List.eraseIdx_eq_take_drop_succ, flat4_app, flat4_take] at hu
    have hlt : ((flat4 xs).take (i * 4)).length = i * 4 := by rw [List.length_take, flat4_len]; omega
    rcases Nat.lt_or_ge j (i * 4) with hj | hj
    · rw [List.getElem?_append_left (by omega), List.getElem?_take_of_lt hj] at hu
      rw [World.cell?_setCells_out _ _ _ _ _ (fun _ _ => .inl (by show j < _; omega))]
      exact h.cells j u hu
    · rw [List.getElem?_append_right (by omega), hlt] at hu
      obtain ⟨hk, hu'⟩ := List.getElem?_eq_some_iff.1 hu
      have := World.cell?_setCells_in g (flat4 (xs.drop (i + 1))) (0 + i * 4) W (fun m hm => hsome _ (by omega)) (j - i * 4) hk
      rw [show 0 + i * 4 + (j - i * 4) = j by omega] at this
      rw [this, ← hu']
theorem Lf.rd {W : World} {g cap : Nat} {xs : List In} (h : Lf W g cap xs) {i : Nat} {e : In} (he : xs[i]? = some e) : ∀ j, j < 4 → W.cell? ⟨g, i * 4 + j, none⟩ = e.row4[j]? := fun j hj => by
  have h1 := flat4_get xs i e he j hj
  have hjl : j < e.row4.length := by simpa [In.row4] using hj
  rw [List.getElem?_eq_getElem hjl] at h1 ⊢
  exact h.cells _ _ h1
/-- what the deletion's append is handed -/
structure DelArgs (W : World) (g cap : Nat) (xs : List In) (i : Nat) (A : Addr) : Prop where
  len : (flat4 (xs.drop (i + 1))).length = (xs.length - (i + 1)) * 4
  cells : ∀ j u, (flat4 (xs.drop (i + 1)))[j]? = some u → W.cell? (A.add j) = some u
  one : ∀ u ∈ flat4 (xs.drop (i + 1)), u.oneCell' = true
  room : i + (xs.length - (i + 1)) ≤ cap
  spare : ∀ j, j < (flat4 (xs.drop (i + 1))).length → (W.cell? ⟨g, 0 + i * 4 + j, none⟩).isSome = true ∧ W.frozen? ⟨g, 0 + i * 4 + j, none⟩ = false
theorem Lf.args {W : World} {g cap : Nat} {xs : List In} (h : Lf W g cap xs) {i : Nat} (hi : i < xs.length) : ∃ A : Addr, (if cap = i + 1 then some (⟨g, 0, none⟩ : Addr) else some ⟨g, (i + 1) * 4, none⟩) = some A ∧ DelArgs W g cap xs i A := by
  have hl : (flat4 (xs.drop (i + 1))).length = (xs.length - (i + 1)) * 4 := by rw [flat4_len, List.length_drop]
  have hsp : ∀ j, j < (flat4 (xs.drop (i + 1))).length → (W.cell? ⟨g, 0 + i * 4 + j, none⟩).isSome = true ∧ W.frozen? ⟨g, 0 + i * 4 + j, none⟩ = false := fun j hj => by
    rw [hl] at hj
    have hj' : 0 + i * 4 + j < (flat4 xs).length := by rw [flat4_len]; omega
    exact ⟨by rw [h.cells _ _ (List.getElem?_eq_getElem hj')]; rfl, h.fz _⟩
  have hroom : i + (xs.length - (i + 1)) ≤ cap := by have := h.le; omega
  by_cases hc : cap = i + 1
  · refine ⟨⟨g, 0, none⟩, by simp [hc], hl, fun j u hu => ?_, flat4_one _, hroom, hsp⟩
    have h0 : (flat4 (xs.drop (i + 1))).length = 0 := by rw [hl]; have := h.le; omega
    rw [List.length_eq_zero_iff.1 h0] at hu
    simp at hu
  · refine ⟨⟨g, (i + 1) * 4, none⟩, by simp [hc], hl, fun j u hu => ?_, flat4_one _, hroom, hsp⟩
    rw [add_plain]
    refine h.cells _ u ?_
    have he : flat4 xs = flat4 (xs.take (i + 1)) ++ flat4 (xs.drop (i + 1)) := by rw [← flat4_app, List.take_append_drop]
    have hlt : (flat4 (xs.take (i + 1))).length = (i + 1) * 4 := by rw [flat4_len, List.length_take]; omega
    rw [he, List.getElem?_append_right (by omega), hlt, show (i + 1) * 4 + j - (i + 1) * 4 = j by omega]
    exact hu
/-- the joiner and what it told stay as they are -/
theorem TR.other {w W W' : World} {x B : Nat} {j : Jn} {sns : List Sn} {xs told : List El} {k : Nat} {tv : Value} {g : Nat} (h : TR w W x B j sns xs told k tv) (hF : Ft W W' (fun b => b = g)) (hg : Out x j xs g) (ht : tv.ownBlock ≠ some g) (hwg : w.heap.size ≤ g) : TR w W' x B j sns xs told k tv :=
  ⟨h.jr.ft hF (fun b hb => by rw [hb]; exact hg), h.row.keep (fun b hb hl => hF.block b hl (fun e => ht (by rw [← e]; exact hb))), h.apart, h.bel.trans (hF.below h.bel.size (fun b hb => by rw [hb]; exact hwg)), h.wx⟩
end Go.Proofs.YtebacmmfjadalaaGreat
