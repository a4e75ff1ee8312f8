/- J2 J3 J4 J5 in one text. -/
import Derived.Test.YtebacmmfjadalaaGreatP05
import Derived.Test.YtebacmmfjadalaaGreatP06
import Derived.Deep.RegionHeld3
import Derived.Lib.Hide
import Derived.Laws.OwnMore

namespace Go.Proofs.YtebacmmfjadalaaGreat
open Go Go.RowKit

/-- a timed reading as the walk has it: its time, sensor, number, stamp, where its values lie, and their bits -/
structure El where
  at_ : Int
  se : Int
  sq : Int
  st : Int
  v : Option Addr
  n : Nat
  c : Nat
  bs : List Nat
def El.val (e : El) : Value := .agg #[.int .i64 e.at_, .int .i64 e.se, .int .u32 e.sq, .int .u32 e.st, .slice e.v e.n e.c]
def headC (a b : El) : Int := orL [cmpO a.at_ b.at_, cmpO a.se b.se, cmpO a.sq b.sq, cmpO a.st b.st, cmpO a.n b.n]

/-- two timed readings' cells in the two blocks from g on -/
def Cells5 (w : World) (g : Nat) (a1 a2 a3 a4 b1 b2 b3 b4 : Int) (A B : Option Addr) (n m c d : Nat) : Prop :=
  w.cell? ⟨g, 0, none⟩ = some (.int .i64 a1) ∧ w.cell? ⟨g + 1, 0, none⟩ = some (.int .i64 b1) ∧ w.cell? ⟨g, 1, none⟩ = some (.int .i64 a2) ∧ w.cell? ⟨g + 1, 1, none⟩ = some (.int .i64 b2) ∧ w.cell? ⟨g, 2, none⟩ = some (.int .u32 a3) ∧ w.cell? ⟨g + 1, 2, none⟩ = some (.int .u32 b3) ∧
  w.cell? ⟨g, 3, none⟩ = some (.int .u32 a4) ∧ w.cell? ⟨g + 1, 3, none⟩ = some (.int .u32 b4) ∧ w.cell? ⟨g, 4, none⟩ = some (.slice A n c) ∧ w.cell? ⟨g + 1, 4, none⟩ = some (.slice B m d)

theorem Cells5.below {w w' : World} {g : Nat} {a1 a2 a3 a4 b1 b2 b3 b4 : Int} {A B : Option Addr} {n m c d : Nat} (h : Cells5 w g a1 a2 a3 a4 b1 b2 b3 b4 A B n m c d) (hb : Below w.heap.size w w') (hg : g + 1 < w.heap.size) :
    Cells5 w' g a1 a2 a3 a4 b1 b2 b3 b4 A B n m c d := by
  obtain ⟨h0, h1, h2, h3, h4, h5, h6, h7, h8, h9⟩ := h
  have e1 : ∀ i, w'.cell? ⟨g, i, none⟩ = w.cell? ⟨g, i, none⟩ := fun i => hb.cell (p := ⟨g, i, none⟩) (by show g < _; omega)
  have e2 : ∀ i, w'.cell? ⟨g + 1, i, none⟩ = w.cell? ⟨g + 1, i, none⟩ := fun i => hb.cell (p := ⟨g + 1, i, none⟩) hg
  exact ⟨(e1 _).trans h0, (e2 _).trans h1, (e1 _).trans h2, (e2 _).trans h3, (e1 _).trans h4, (e2 _).trans h5, (e1 _).trans h6, (e2 _).trans h7, (e1 _).trans h8, (e2 _).trans h9⟩
theorem or_cells (W : World) (x1 x2 x3 x4 x5 : Int) (T : TypeId) : ∀ j, j < 5 → (W.alloc (.cells #[.int .i64 x1, .int .i64 x2, .int .i64 x3, .int .i64 x4, .int .i64 x5] T)).drew.cell? ⟨W.heap.size, j, none⟩ = some (.int .i64 ([x1, x2, x3, x4, x5].getD j 0)) := by
  intro j hj
  rcases (by omega : j = 0 ∨ j = 1 ∨ j = 2 ∨ j = 3 ∨ j = 4) with rfl | rfl | rfl | rfl | rfl <;> simp [go_sem]

set_option maxRecDepth 8000 in
set_option maxHeartbeats 4000000 in
theorem head_walk (a1 a2 a3 a4 b1 b2 b3 b4 : Int) (A B : Option Addr) (n m c d : Nat) (w : World) (h : orL [cmpO a1 b1, cmpO a2 b2, cmpO a3 b3, cmpO a4 b4, cmpO n m] ≠ 0) :
    Calls Tryz.prog 81 #[.agg #[.int .i64 a1, .int .i64 a2, .int .u32 a3, .int .u32 a4, .slice A n c], .agg #[.int .i64 b1, .int .i64 b2, .int .u32 b3, .int .u32 b4, .slice B m d]] w fun e w' =>
      e = .returned (.int .i64 (orL [cmpO a1 b1, cmpO a2 b2, cmpO a3 b3, cmpO a4 b4, cmpO n m])) ∧ Below w.heap.size w w' := by
  obtain ⟨H, hH⟩ : ∃ H, orL [cmpO a1 b1, cmpO a2 b2, cmpO a3 b3, cmpO a4 b4, cmpO n m] = H := ⟨_, rfl⟩
  rw [hH] at h ⊢
  have HH := Lib.hid hH
  clear hH
  go_enter Tryz.func81, Tryz.ntmps81
  go_wp2_with fail
  have HC0 := Lib.hid (show Cells5 ((w.alloc (.cells #[.int .i64 a1, .int .i64 a2, .int .u32 a3, .int .u32 a4, .slice A n c] 63)).alloc (.cells #[.int .i64 b1, .int .i64 b2, .int .u32 b3, .int .u32 b4, .slice B m d] 63)) w.heap.size a1 a2 a3 a4 b1 b2 b3 b4 A B n m c d from by unfold Cells5; simp [go_sem])
  have HB := Lib.hid (show Below w.heap.size w ((w.alloc (.cells #[.int .i64 a1, .int .i64 a2, .int .u32 a3, .int .u32 a4, .slice A n c] 63)).alloc (.cells #[.int .i64 b1, .int .i64 b2, .int .u32 b3, .int .u32 b4, .slice B m d] 63)) from (((Below.refl _ _).alloc (Nat.le_refl _) _).alloc (by simp) _))
  have hw0 : w.heap.size + 1 < ((w.alloc (.cells #[.int .i64 a1, .int .i64 a2, .int .u32 a3, .int .u32 a4, .slice A n c] 63)).alloc (.cells #[.int .i64 b1, .int .i64 b2, .int .u32 b3, .int .u32 b4, .slice B m d] 63)).heap.size := by simp
  generalize (w.alloc (.cells #[.int .i64 a1, .int .i64 a2, .int .u32 a3, .int .u32 a4, .slice A n c] 63)).alloc (.cells #[.int .i64 b1, .int .i64 b2, .int .u32 b3, .int .u32 b4, .slice B m d] 63) = W0 at *
  have HC := Lib.hid (HC0.out.below (Below.refl _ _).drew hw0)
  unfold Cells5 at HC
  go_region_held3 (fun w' => w'.cell? ⟨w.heap.size, 0, none⟩ = some (.int .i64 a1) ∧ w'.cell? ⟨w.heap.size + 1, 0, none⟩ = some (.int .i64 b1) ∧ w'.cell? ⟨w.heap.size, 1, none⟩ = some (.int .i64 a2) ∧ w'.cell? ⟨w.heap.size + 1, 1, none⟩ = some (.int .i64 b2) ∧ w'.cell? ⟨w.heap.size, 2, none⟩ = some (.int .u32 a3) ∧ w'.cell? ⟨w.heap.size + 1, 2, none⟩ = some (.int .u32 b3) ∧
      w'.cell? ⟨w.heap.size, 3, none⟩ = some (.int .u32 a4) ∧ w'.cell? ⟨w.heap.size + 1, 3, none⟩ = some (.int .u32 b4) ∧ w'.cell? ⟨w.heap.size, 4, none⟩ = some (.slice A n c) ∧ w'.cell? ⟨w.heap.size + 1, 4, none⟩ = some (.slice B m d))
    (first | exact HC.out | exact Cells5.below HC0.out hb5 hw0 | exact Cells5.below HC0.out ((Below.refl _ _).alloc (Nat.le_refl _) _).drew hw0)
    (first | (go_at_call 99; refine (cmp64_any _ _ _).mono ?_; rintro e w1 ⟨rfl, rfl⟩) | (go_at_call 100; refine (cmpI_any _ _ _).mono ?_; rintro e w1 ⟨rfl, rfl⟩) | (go_at_call 101; refine (cmpU_any _ _ _).mono ?_; rintro e w1 ⟨rfl, rfl⟩) | (go_at_call 98; refine (or_any _ _ 5 _ _ rfl (or_cells _ _ _ _ _ _ _) (by omega)).mono ?_; rintro e w5 ⟨rfl, hb⟩; have hb5 := ((Below.refl W0.heap.size W0).alloc (Nat.le_refl _) _).drew.trans (hb.mono (by simp)); rw [HH.out]))
  have h' : (H == 0) = false := by simpa using h
  have HE := Lib.hid (HB.out.trans (hb5.mono (by have := HB.out.size; exact this)))
  clear HC HC0 hb5 HB
  go_wp2_with fail
  go_loopw [5, 6] (fun r i wr => r = .int .i64 H ∧ i = .int .i64 0 ∧ w5 = wr) (fun _ _ _ => 0)
  case atStart => exact ⟨rfl, rfl, rfl⟩
  case round =>
    obtain ⟨rfl, rfl, rfl⟩ := hrel
    go_wp2_with fail
    go_ret
    exact ⟨rfl, HE.out⟩

/-- the program's order, where the heads of two readings are unlike -/
theorem head_any (a b : El) (w : World) (h : headC a b ≠ 0) : Calls Tryz.prog 81 #[a.val, b.val] w fun e w' => e = .returned (.int .i64 (headC a b)) ∧ Below w.heap.size w w' :=
  head_walk a.at_ a.se a.sq a.st b.at_ b.se b.sq b.st a.v b.v a.n b.n a.c b.c w h
end Go.Proofs.YtebacmmfjadalaaGreat

namespace Go.Proofs.YtebacmmfjadalaaGreat
open Go Go.RowKit

def El.row (e : El) : List Value := [.int .i64 e.at_, .int .i64 e.se, .int .u32 e.sq, .int .u32 e.st, .slice e.v e.n e.c]
def flat : List El → List Value
  | [] => []
  | e :: l => e.row ++ flat l
theorem flat_len : ∀ xs : List El, (flat xs).length = xs.length * 5
  | [] => rfl
  | e :: l => by simp [flat, El.row, flat_len l]; omega
theorem flat_app : ∀ xs ys : List El, flat (xs ++ ys) = flat xs ++ flat ys
  | [], _ => rfl
  | e :: l, ys => by simp [flat, flat_app l ys]
theorem flat_get : ∀ (xs : List El) (i j : Nat) (e : El), xs[i]? = some e → j < 5 → (flat xs)[i * 5 + j]? = e.row[j]?
  | [], i, j, e, h, _ => by simp at h
  | x :: l, 0, j, e, h, hj => by
    simp at h
    subst h
    rw [flat, Nat.zero_mul, Nat.zero_add, List.getElem?_append_left (by simpa [El.row] using hj)]
  | x :: l, i + 1, j, e, h, hj => by
    simp at h
    rw [flat, List.getElem?_append_right (by simp [El.row]; omega), show (i + 1) * 5 + j - x.row.length = i * 5 + j by simp [El.row]; omega]
    exact flat_get l i j e h hj
theorem flat_set : ∀ (xs : List El) (i : Nat) (e : El), i < xs.length →
    flat (xs.set i e) = (((((flat xs).set (i * 5) (.int .i64 e.at_)).set (i * 5 + 1) (.int .i64 e.se)).set (i * 5 + 2) (.int .u32 e.sq)).set (i * 5 + 3) (.int .u32 e.st)).set (i * 5 + 4) (.slice e.v e.n e.c)
  | [], i, e, h => by simp at h
  | x :: l, 0, e, _ => by simp [flat, El.row]
  | x :: l, i + 1, e, h => by
    have h1 : i < l.length := by simpa using h
    have e0 : ∀ j, (i + 1) * 5 + j = (i * 5 + j) + 1 + 1 + 1 + 1 + 1 := fun j => by omega
    have e1 : (i + 1) * 5 = (i * 5) + 1 + 1 + 1 + 1 + 1 := by omega
    rw [List.set_cons_succ, flat, flat_set l i e h1, flat, e0, e0, e0, e0, e1]
    simp only [El.row, List.cons_append, List.nil_append, List.set_cons_succ]

/-- the readings lie in block g -/
def Pl (w : World) (g cap : Nat) (xs : List El) : Prop := w.ownsRow 0 63 5 (.slice (some ⟨g, 0, none⟩) xs.length cap) xs.length (flat xs)
theorem Pl.cells {w : World} {g cap : Nat} {xs : List El} (h : Pl w g cap xs) {i : Nat} {e : El} (he : xs[i]? = some e) :
    w.cell? ⟨g, i * 5, none⟩ = some (.int .i64 e.at_) ∧ w.cell? ⟨g, i * 5 + 1, none⟩ = some (.int .i64 e.se) ∧ w.cell? ⟨g, i * 5 + 2, none⟩ = some (.int .u32 e.sq) ∧ w.cell? ⟨g, i * 5 + 3, none⟩ = some (.int .u32 e.st) ∧ w.cell? ⟨g, i * 5 + 4, none⟩ = some (.slice e.v e.n e.c) := by
  have hi : i < xs.length := by
    rcases Nat.lt_or_ge i xs.length with h | h
    · exact h
    · rw [List.getElem?_eq_none h] at he; simp at he
  have hc : ∀ j, j < 5 → w.cell? ⟨g, i * 5 + j, none⟩ = e.row[j]? := fun j hj => (h.cellAt (i * 5 + j) (by omega)).trans (flat_get xs i j e he hj)
  exact ⟨hc 0 (by omega), hc 1 (by omega), hc 2 (by omega), hc 3 (by omega), hc 4 (by omega)⟩
theorem Pl.frozen {w : World} {g cap : Nat} {xs : List El} (h : Pl w g cap xs) (j : Nat) : w.frozen? ⟨g, j, none⟩ = false := h.frozenAt j
theorem grown_trans {a b c : World} {g : Nat} (h : a.grownBy b (some g)) (k : b.grownBy c (some g)) : a.grownBy c (some g) :=
  ⟨k.os.trans h.os, k.tape.trans h.tape, k.output.trans h.output, Nat.le_trans h.size k.size, fun i hi hn => (k.block i (Nat.lt_of_lt_of_le hi h.size) hn).trans (h.block i hi hn)⟩
theorem Pl.set {w : World} {g cap : Nat} {xs : List El} (h : Pl w g cap xs) {i : Nat} (hi : i < xs.length) (e : El) :
    Pl (((((w.setCell ⟨g, i * 5, none⟩ (.int .i64 e.at_)).setCell ⟨g, i * 5 + 1, none⟩ (.int .i64 e.se)).setCell ⟨g, i * 5 + 2, none⟩ (.int .u32 e.sq)).setCell ⟨g, i * 5 + 3, none⟩ (.int .u32 e.st)).setCell ⟨g, i * 5 + 4, none⟩ (.slice e.v e.n e.c)) g cap (xs.set i e) ∧
    w.grownBy (((((w.setCell ⟨g, i * 5, none⟩ (.int .i64 e.at_)).setCell ⟨g, i * 5 + 1, none⟩ (.int .i64 e.se)).setCell ⟨g, i * 5 + 2, none⟩ (.int .u32 e.sq)).setCell ⟨g, i * 5 + 3, none⟩ (.int .u32 e.st)).setCell ⟨g, i * 5 + 4, none⟩ (.slice e.v e.n e.c)) (some g) := by
  obtain ⟨h0, k0⟩ := World.ownsRow.stored h (i * 5) (.int .i64 e.at_)
  obtain ⟨h1, k1⟩ := World.ownsRow.stored h0 (i * 5 + 1) (.int .i64 e.se)
  obtain ⟨h2, k2⟩ := World.ownsRow.stored h1 (i * 5 + 2) (.int .u32 e.sq)
  obtain ⟨h3, k3⟩ := World.ownsRow.stored h2 (i * 5 + 3) (.int .u32 e.st)
  obtain ⟨h4, k4⟩ := World.ownsRow.stored h3 (i * 5 + 4) (.slice e.v e.n e.c)
  refine ⟨?_, grown_trans (grown_trans (grown_trans (grown_trans k0 k1) k2) k3) k4⟩
  unfold Pl
  rw [List.length_set, flat_set xs i e hi]
  exact h4
end Go.Proofs.YtebacmmfjadalaaGreat

namespace Go.Proofs.YtebacmmfjadalaaGreat
open Go Go.RowKit

theorem grown_drew (w : World) (g : Nat) : w.grownBy w.drew (some g) := ⟨rfl, rfl, rfl, Nat.le_refl _, fun _ _ _ => rfl⟩
theorem Pl.drew {w : World} {g cap : Nat} {xs : List El} (h : Pl w g cap xs) : Pl w.drew g cap xs := h
theorem set_some {w : World} {p : Addr} {x : Value} (q : Addr) (y : Value) (h : w.cell? p = some x) : ∃ z, (w.setCell q y).cell? p = some z := by
  by_cases e : q = p
  · subst e
    exact ⟨y, by simp [go_sem, h]⟩
  · exact ⟨x, (World.cell?_setCell_other _ _ _ _ e).trans h⟩
theorem Pl.lt {w : World} {g cap : Nat} {xs : List El} (h : Pl w g cap xs) : g < w.heap.size := by
  rcases h.2 with ⟨h', _⟩ | ⟨g', cap', cur, h', _, hg, _⟩
  · simp at h'
  · injection h' with h1 _ _
    injection h1 with h1
    injection h1 with h1 _ _
    subst h1
    exact (Array.getElem?_eq_some_iff.1 hg).1

set_option maxRecDepth 8000 in
set_option maxHeartbeats 2000000 in
theorem less_any (g cap n i k : Nat) (xs : List El) (a b : El) (z : Int) (w : World) (hp : Pl w g cap xs) (ha : xs[i]? = some a) (hb : xs[k]? = some b) (hi : i < n) (hk : k < n)
    (hC : ∀ W, Below w.heap.size w W → Calls Tryz.prog 81 #[a.val, b.val] W fun e w' => e = .returned (.int .i64 z) ∧ Below W.heap.size W w') :
    Calls Tryz.prog 145 #[.slice (some ⟨g, 0, none⟩) n cap, .int .i64 i, .int .i64 k] w fun e w' => e = .returned (.bool (decide (z < 0))) ∧ Below w.heap.size w w' := by
  obtain ⟨a0, a1, a2, a3, a4⟩ := hp.cells ha
  obtain ⟨b0, b1, b2, b3, b4⟩ := hp.cells hb
  obtain ⟨at_, se, sq, st, v, vn, vc, vb⟩ := a
  obtain ⟨at2, se2, sq2, st2, v2, vn2, vc2, vb2⟩ := b
  simp only at a0 a1 a2 a3 a4 b0 b1 b2 b3 b4
  unfold El.val at hC
  simp only at hC
  have HC := Lib.hid hC
  have hg := hp.lt
  have i0 : (0 : Int) ≤ (i : Int) := by omega
  have i1 : (i : Int) < (n : Int) := by omega
  have k0 : (0 : Int) ≤ (k : Int) := by omega
  have k1 : (k : Int) < (n : Int) := by omega
  clear hC hp ha hb
  go_enter Tryz.func145, Tryz.ntmps145
  go_wp2_with fail
  go_region_held3 (fun w' => w'.cell? ⟨g, i * 5, none⟩ = some (.int .i64 at_) ∧ w'.cell? ⟨g, i * 5 + 1, none⟩ = some (.int .i64 se) ∧ w'.cell? ⟨g, i * 5 + 2, none⟩ = some (.int .u32 sq) ∧ w'.cell? ⟨g, i * 5 + 3, none⟩ = some (.int .u32 st) ∧ w'.cell? ⟨g, i * 5 + 4, none⟩ = some (.slice v vn vc) ∧
      w'.cell? ⟨g, k * 5, none⟩ = some (.int .i64 at2) ∧ w'.cell? ⟨g, k * 5 + 1, none⟩ = some (.int .i64 se2) ∧ w'.cell? ⟨g, k * 5 + 2, none⟩ = some (.int .u32 sq2) ∧ w'.cell? ⟨g, k * 5 + 3, none⟩ = some (.int .u32 st2) ∧ w'.cell? ⟨g, k * 5 + 4, none⟩ = some (.slice v2 vn2 vc2))
    (first | exact ⟨a0, a1, a2, a3, a4, b0, b1, b2, b3, b4⟩ | exact ⟨(hb1.cell (by exact hg)).trans a0, (hb1.cell (by exact hg)).trans a1, (hb1.cell (by exact hg)).trans a2, (hb1.cell (by exact hg)).trans a3, (hb1.cell (by exact hg)).trans a4, (hb1.cell (by exact hg)).trans b0, (hb1.cell (by exact hg)).trans b1, (hb1.cell (by exact hg)).trans b2, (hb1.cell (by exact hg)).trans b3, (hb1.cell (by exact hg)).trans b4⟩)
    (first | (go_at_call 81; refine (HC.out _ (Below.refl _ _).drew).mono ?_; rintro e w1 ⟨rfl, hb1⟩))
  have HB := Lib.hid ((Below.refl _ _).drew.trans hb1)
  clear hb1
  go_wp2_with fail
  go_ret
  exact ⟨rfl, HB.out⟩

set_option maxRecDepth 8000 in
set_option maxHeartbeats 2000000 in
theorem swap_any (g cap n i k : Nat) (xs : List El) (a b : El) (w : World) (hp : Pl w g cap xs) (hn : xs.length = n) (ha : xs[i]? = some a) (hb : xs[k]? = some b) (hi : i < n) (hk : k < n) :
    Calls Tryz.prog 146 #[.slice (some ⟨g, 0, none⟩) n cap, .int .i64 i, .int .i64 k] w fun e w' => e = .returned (.tuple #[]) ∧ Pl w' g cap ((xs.set i b).set k a) ∧ w.grownBy w' (some g) := by
  obtain ⟨a0, a1, a2, a3, a4⟩ := hp.cells ha
  obtain ⟨b0, b1, b2, b3, b4⟩ := hp.cells hb
  have HP := Lib.hid (And.intro hp hn)
  obtain ⟨at_, se, sq, st, v, vn, vc, vb⟩ := a
  obtain ⟨at2, se2, sq2, st2, v2, vn2, vc2, vb2⟩ := b
  simp only at a0 a1 a2 a3 a4 b0 b1 b2 b3 b4
  have i0 : (0 : Int) ≤ (i : Int) := by omega
  have i1 : (i : Int) < (n : Int) := by omega
  have k0 : (0 : Int) ≤ (k : Int) := by omega
  have k1 : (k : Int) < (n : Int) := by omega
  have hz := fun j => hp.frozen j
  clear hp hn ha hb
  go_enter Tryz.func146, Tryz.ntmps146
  go_wp2_with fail
  obtain ⟨z00, d0⟩ := set_some ⟨g, i * 5, none⟩ (.int .i64 at2) b0
  obtain ⟨z10, f10⟩ := set_some ⟨g, i * 5, none⟩ (.int .i64 at2) b1
  obtain ⟨z11, d1⟩ := set_some ⟨g, i * 5 + 1, none⟩ (.int .i64 se2) f10
  obtain ⟨z20, f20⟩ := set_some ⟨g, i * 5, none⟩ (.int .i64 at2) b2
  obtain ⟨z21, f21⟩ := set_some ⟨g, i * 5 + 1, none⟩ (.int .i64 se2) f20
  obtain ⟨z22, d2⟩ := set_some ⟨g, i * 5 + 2, none⟩ (.int .u32 sq2) f21
  obtain ⟨z30, f30⟩ := set_some ⟨g, i * 5, none⟩ (.int .i64 at2) b3
  obtain ⟨z31, f31⟩ := set_some ⟨g, i * 5 + 1, none⟩ (.int .i64 se2) f30
  obtain ⟨z32, f32⟩ := set_some ⟨g, i * 5 + 2, none⟩ (.int .u32 sq2) f31
  obtain ⟨z33, d3⟩ := set_some ⟨g, i * 5 + 3, none⟩ (.int .u32 st2) f32
  obtain ⟨z40, f40⟩ := set_some ⟨g, i * 5, none⟩ (.int .i64 at2) b4
  obtain ⟨z41, f41⟩ := set_some ⟨g, i * 5 + 1, none⟩ (.int .i64 se2) f40
  obtain ⟨z42, f42⟩ := set_some ⟨g, i * 5 + 2, none⟩ (.int .u32 sq2) f41
  obtain ⟨z43, f43⟩ := set_some ⟨g, i * 5 + 3, none⟩ (.int .u32 st2) f42
  obtain ⟨z44, d4⟩ := set_some ⟨g, i * 5 + 4, none⟩ (.slice v2 vn2 vc2) f43
  clear f10 f20 f21 f30 f31 f32 f40 f41 f42 f43
  go_region
  all_goals go_end0
  all_goals (
    have e1 := Pl.set HP.out.1 (i := i) (by have := HP.out.2; omega) ⟨at2, se2, sq2, st2, v2, vn2, vc2, vb2⟩
    have e2 := Pl.set e1.1 (i := k) (by rw [List.length_set]; have := HP.out.2; omega) ⟨at_, se, sq, st, v, vn, vc, vb⟩
    exact ⟨rfl, e2.1.drew, grown_trans (grown_trans e1.2 e2.2) (grown_drew _ _)⟩)
end Go.Proofs.YtebacmmfjadalaaGreat

namespace Go.Proofs.YtebacmmfjadalaaGreat
open Go Go.RowKit

theorem wrapnil {P : Program} (ts : Array TypeId) (t : TypeId) (a : Addr) (s m : String) (w : World) : Sem.run P (Builtin.ssaWrapNilChk_ ts t #[.pointer (some a), strVal s, strVal m]) w = .ok (.pointer (some a)) w := rfl
theorem method_val {name : String} {F : FuncId} {fuel : Nat} (hm : ((Tryz.prog.info? 101).bind fun i => (i.methods.find? (·.name == name)).map fun m => (m.path, m.func)) = some (#[], some (F, false)))
    (pa : Addr) (v : Option Addr) (n c : Nat) (w : World) (hp : w.cell? pa = some (.slice v n c)) : Sem.run Tryz.prog (method (fuel + 1) 101 (.pointer (some pa)) name) w = .ok (F, .slice v n c) w := by
  cases hi : Tryz.prog.info? 101 with
  | none => rw [hi] at hm; simp at hm
  | some i =>
    rw [hi] at hm
    simp only [Option.bind_some] at hm
    cases hf : i.methods.find? (·.name == name) with
    | none => rw [hf] at hm; simp at hm
    | some m =>
      rw [hf] at hm
      simp at hm
      obtain ⟨h1, h2⟩ := hm
      have hu : Sem.run Tryz.prog (underlying 101) w = .ok (.pointer 75) w := run_underlying Tryz.underlying101 w
      simp [method, typeInfo, hi, hf, h1, h2, follow, receiverAt, Place.get, go_sem, wrapnil, loadVar, hp, hu]
theorem method_ptr {name : String} {F : FuncId} {fuel : Nat} (hm : ((Tryz.prog.info? 101).bind fun i => (i.methods.find? (·.name == name)).map fun m => (m.path, m.func)) = some (#[], some (F, true)))
    (pa : Addr) (w : World) : Sem.run Tryz.prog (method (fuel + 1) 101 (.pointer (some pa)) name) w = .ok (F, .pointer (some pa)) w := by
  cases hi : Tryz.prog.info? 101 with
  | none => rw [hi] at hm; simp at hm
  | some i =>
    rw [hi] at hm
    simp only [Option.bind_some] at hm
    cases hf : i.methods.find? (·.name == name) with
    | none => rw [hf] at hm; simp at hm
    | some m =>
      rw [hf] at hm
      simp at hm
      obtain ⟨h1, h2⟩ := hm
      have hu : Sem.run Tryz.prog (underlying 101) w = .ok (.pointer 75) w := run_underlying Tryz.underlying101 w
      simp [method, typeInfo, hi, hf, h1, h2, follow, receiverAt, Place.get, go_sem, hu]
theorem m_less : ((Tryz.prog.info? 101).bind fun i => (i.methods.find? (·.name == "Less")).map fun m => (m.path, m.func)) = some (#[], some (145, false)) := by kernel_rfl
theorem m_swap : ((Tryz.prog.info? 101).bind fun i => (i.methods.find? (·.name == "Swap")).map fun m => (m.path, m.func)) = some (#[], some (146, false)) := by kernel_rfl
theorem m_len : ((Tryz.prog.info? 101).bind fun i => (i.methods.find? (·.name == "Len")).map fun m => (m.path, m.func)) = some (#[], some (144, false)) := by kernel_rfl
theorem m_least : ((Tryz.prog.info? 101).bind fun i => (i.methods.find? (·.name == "binnacle/join.least")).map fun m => (m.path, m.func)) = some (#[], some (147, false)) := by kernel_rfl
theorem m_push : ((Tryz.prog.info? 101).bind fun i => (i.methods.find? (·.name == "Push")).map fun m => (m.path, m.func)) = some (#[], some (151, true)) := by kernel_rfl
theorem m_pop : ((Tryz.prog.info? 101).bind fun i => (i.methods.find? (·.name == "Pop")).map fun m => (m.path, m.func)) = some (#[], some (150, true)) := by kernel_rfl
end Go.Proofs.YtebacmmfjadalaaGreat
