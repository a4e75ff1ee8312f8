/- A timed reading copied: its values in new memory. -/
import Derived.Test.YtebacmmfjadalaaK3
namespace Go.Proofs.Ytebacmmfjadalaa
open Go Go.RowKit Go.WideShapes

/-- nil, or in a block from B on -/
def NewAt (w : World) (B : Nat) (A : Option Addr) : Prop := A = none ∨ ∃ b, A = some ⟨b, 0, none⟩ ∧ B ≤ b ∧ b < w.heap.size
theorem NewAt.setN {w : World} {A : Option Addr} {n B : Nat} {bs : List Nat} (h : FlAt w A n bs ∧ NewAt w B A) {p : Addr} (hp : p.block < B) (u : Value) : FlAt (w.setCell p u) A n bs ∧ NewAt (w.setCell p u) B A := by
  refine ⟨h.1.set (fun b off e => ?_) u, h.2.imp id (fun ⟨b, h1, h2, h3⟩ => ⟨b, h1, h2, by simpa [World.setCell] using h3⟩)⟩
  rcases h.2 with h1 | ⟨b', h1, h2, -⟩
  · rw [h1] at e; cases e
  · rw [h1] at e
    injection e with e
    injection e with e
    subst e
    omega
theorem NewAt.mono {w : World} {B B' : Nat} {A : Option Addr} (h : NewAt w B A) (hb : B' ≤ B) : NewAt w B' A := h.imp id (fun ⟨b, h1, h2, h3⟩ => ⟨b, h1, Nat.le_trans hb h2, h3⟩)
theorem size_alloc2 (w : World) (o o' : Obj) : ((w.alloc o).alloc o').heap.size = w.heap.size + 2 := by simp
theorem sizeF (w : World) : (Go.sizeOf 74).run Try.prog w = .ok 1 w := by kernel_rfl
theorem clone_fl (A : Option Addr) (n c : Nat) (bs : List Nat) (w : World) (h : FlAt w A n bs) (hl : n * 8 ≤ 140737488355328) :
    Calls Try.prog 52 #[.slice A n c] w fun e w' => ∃ B k, e = .returned (.slice B n k) ∧ FlAt w' B n bs ∧ NewAt w' w.heap.size B ∧ Below w.heap.size w w' := by
  rcases h.2 with ⟨rfl, rfl⟩ | ⟨b, off, rfl, h2, h3⟩
  · refine (Try.slices_Clone_nil 0 c w).mono ?_
    rintro e w1 ⟨rfl, rfl⟩
    exact ⟨none, 0, rfl, ⟨h.1, .inl ⟨rfl, rfl⟩⟩, .inl rfl, Below.refl _ _⟩
  · obtain ⟨i0, hi0, hz0, hz1, hz2⟩ := info_parts infoF
    refine (Try.slices_Clone i0 _ 1 8 hi0 hz0 hz1 hz2 rfl (by omega) sizeF b off n c (bs.map fun b => .float .f64 b) w (by rw [List.length_map, h.1, Nat.mul_one]) (by simp only [maxLen]; omega) hl (fun j u hj => ?_) (fun u hu => ?_)).mono ?_
    · have hj' := (List.getElem?_eq_some_iff.1 hj).1
      rw [List.length_map, h.1] at hj'
      rw [h3 j hj', ← hj, List.getElem?_map, List.getD_eq_getElem?_getD, List.getElem?_eq_getElem (by rw [h.1]; exact hj')]
      rfl
    · obtain ⟨y, -, rfl⟩ := List.mem_map.1 hu
      rfl
    · rintro e w1 ⟨v', rfl, hv, -, hb⟩
      obtain ⟨B, k, rfl, hf, hn⟩ := own_fl hv h.1
      exact ⟨B, k, rfl, hf, hn, hb⟩

set_option maxRecDepth 8000 in
set_option maxHeartbeats 2000000 in
theorem copied_any (at_ se sq st : Int) (A : Option Addr) (n c : Nat) (bs : List Nat) (w : World) (h : FlAt w A n bs) (hl : n * 8 ≤ 140737488355328) :
    Calls Try.prog 31 #[.agg #[.int .i64 at_, .int .i64 se, .int .u32 sq, .int .u32 st, .slice A n c]] w fun e w' => ∃ B k, e = .returned (.agg #[.int .i64 at_, .int .i64 se, .int .u32 sq, .int .u32 st, .slice B n k]) ∧ FlAt w' B n bs ∧ NewAt w' w.heap.size B ∧ Below w.heap.size w w' := by
  have hb := ((Below.refl w.heap.size w).alloc (Nat.le_refl _) (.cells #[.int .i64 at_, .int .i64 se, .int .u32 sq, .int .u32 st, .slice A n c] 32)).alloc (by simp) (.cells #[.int .i64 0, .int .i64 0, .int .u32 0, .int .u32 0, .slice none 0 0] 32)
  have HO := Lib.hid (fun W (hW : Below w.heap.size w W) => clone_fl A n c bs W (h.below hW) hl)
  have HB := Lib.hid hb
  clear hb h
  go_enter Try.func31, Try.ntmps31
  go_wp2_with fail
  refine (HO.out _ HB.out).mono ?_
  rintro e w1 ⟨B, k, rfl, hf, hn, hb1⟩
  have y := fun i (hi : w.heap.size + i < w.heap.size + 2) j => (hb1.cell (p := ⟨w.heap.size + i, j, none⟩) (by simp; omega))
  have yz := fun i (hi : w.heap.size + i < w.heap.size + 2) j => (hb1.frozen (p := ⟨w.heap.size + i, j, none⟩) (by simp; omega))
  have a0 := (y 0 (by omega) 0).trans (by simp [go_sem] : _ = some (.int .i64 at_))
  have a1 := (y 0 (by omega) 1).trans (by simp [go_sem] : _ = some (.int .i64 se))
  have a2 := (y 0 (by omega) 2).trans (by simp [go_sem] : _ = some (.int .u32 sq))
  have a3 := (y 0 (by omega) 3).trans (by simp [go_sem] : _ = some (.int .u32 st))
  have a4 := (y 0 (by omega) 4).trans (by simp [go_sem] : _ = some (.slice A n c))
  have b0 := (y 1 (by omega) 0).trans (by simp [go_sem] : _ = some (.int .i64 0))
  have b1 := (y 1 (by omega) 1).trans (by simp [go_sem] : _ = some (.int .i64 0))
  have b2 := (y 1 (by omega) 2).trans (by simp [go_sem] : _ = some (.int .u32 0))
  have b3 := (y 1 (by omega) 3).trans (by simp [go_sem] : _ = some (.int .u32 0))
  have b4 := (y 1 (by omega) 4).trans (by simp [go_sem] : _ = some (.slice none 0 0))
  have za := fun j => (yz 0 (by omega) j).trans (by simp [go_sem] : _ = false)
  have zb := fun j => (yz 1 (by omega) j).trans (by simp [go_sem] : _ = false)
  rw [Nat.add_zero] at a0 a1 a2 a3 a4 za
  have HB1 := Lib.hid (HB.out.trans (hb1.mono HB.out.size))
  have hsz := HB1.out.size
  have hs2 : w.heap.size + 2 ≤ w1.heap.size := by have := hb1.size; simp at this; omega
  have HF := Lib.hid (And.intro hf hn)
  clear y yz hb1 hf hn HO HB
  go_wp2_with fail
  have H0 := HF.out
  rw [size_alloc2] at H0
  have H6 := NewAt.setN (NewAt.setN (NewAt.setN (NewAt.setN (NewAt.setN (NewAt.setN H0 (p := ⟨w.heap.size, 4, none⟩) (by show w.heap.size < _; omega) (.slice B n k)) (p := ⟨w.heap.size + 1, 0, none⟩) (by show w.heap.size + 1 < _; omega) (.int .i64 at_)) (p := ⟨w.heap.size + 1, 1, none⟩) (by show w.heap.size + 1 < _; omega) (.int .i64 se)) (p := ⟨w.heap.size + 1, 2, none⟩) (by show w.heap.size + 1 < _; omega) (.int .u32 sq)) (p := ⟨w.heap.size + 1, 3, none⟩) (by show w.heap.size + 1 < _; omega) (.int .u32 st)) (p := ⟨w.heap.size + 1, 4, none⟩) (by show w.heap.size + 1 < _; omega) (.slice B n k)
  have HB6 := Lib.hid ((((((HB1.out.setCell (p := ⟨w.heap.size, 4, none⟩) (Nat.le_refl _) (.slice B n k)).setCell (p := ⟨w.heap.size + 1, 0, none⟩) (Nat.le_succ _) (.int .i64 at_)).setCell (p := ⟨w.heap.size + 1, 1, none⟩) (Nat.le_succ _) (.int .i64 se)).setCell (p := ⟨w.heap.size + 1, 2, none⟩) (Nat.le_succ _) (.int .u32 sq)).setCell (p := ⟨w.heap.size + 1, 3, none⟩) (Nat.le_succ _) (.int .u32 st)).setCell (p := ⟨w.heap.size + 1, 4, none⟩) (Nat.le_succ _) (.slice B n k))
  have HA := Lib.hid (And.intro H6.1 (H6.2.mono (B' := w.heap.size) (by omega)))
  clear H0 H6 HF HB1 za zb
  exact bodyPost_ret (by simp only [results, Try.results31]; simp [go_sem, b0, b1, b2, b3, b4]; try rfl) rfl ⟨B, k, rfl, HA.out.1, HA.out.2, HB6.out⟩
end Go.Proofs.Ytebacmmfjadalaa
