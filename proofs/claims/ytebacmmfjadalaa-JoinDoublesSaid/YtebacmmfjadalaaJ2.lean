/- Contract of the program's order of timed readings, where their heads tell them apart. -/
import Derived.Test.YtebacmmfjadalaaJ1
import Derived.Test.YtebacmmfjadalaaA3
import Derived.Deep.RegionHeld3
import Derived.Lib.Hide
namespace Go.Proofs.Ytebacmmfjadalaa
open Go Go.RowKit

/-- a timed reading as the walk has it: its time, sensor, number, stamp, where its values lie, and their bits -/
structure El where
  at_ : Int
  se : Int
  sq : Int
  st : Int
  v : Option Addr
  n : Nat
  c : Nat
  bs : List Nat
def El.val (e : El) : Value := .agg #[.int .i64 e.at_, .int .i64 e.se, .int .u32 e.sq, .int .u32 e.st, .slice e.v e.n e.c]
def headC (a b : El) : Int := orL [cmpO a.at_ b.at_, cmpO a.se b.se, cmpO a.sq b.sq, cmpO a.st b.st, cmpO a.n b.n]

/-- two timed readings' cells in the two blocks from g on -/
def Cells5 (w : World) (g : Nat) (a1 a2 a3 a4 b1 b2 b3 b4 : Int) (A B : Option Addr) (n m c d : Nat) : Prop :=
  w.cell? ⟨g, 0, none⟩ = some (.int .i64 a1) ∧ w.cell? ⟨g + 1, 0, none⟩ = some (.int .i64 b1) ∧ w.cell? ⟨g, 1, none⟩ = some (.int .i64 a2) ∧ w.cell? ⟨g + 1, 1, none⟩ = some (.int .i64 b2) ∧ w.cell? ⟨g, 2, none⟩ = some (.int .u32 a3) ∧ w.cell? ⟨g + 1, 2, none⟩ = some (.int .u32 b3) ∧
  w.cell? ⟨g, 3, none⟩ = some (.int .u32 a4) ∧ w.cell? ⟨g + 1, 3, none⟩ = some (.int .u32 b4) ∧ w.cell? ⟨g, 4, none⟩ = some (.slice A n c) ∧ w.cell? ⟨g + 1, 4, none⟩ = some (.slice B m d)

theorem Cells5.below {w w' : World} {g : Nat} {a1 a2 a3 a4 b1 b2 b3 b4 : Int} {A B : Option Addr} {n m c d : Nat} (h : Cells5 w g a1 a2 a3 a4 b1 b2 b3 b4 A B n m c d) (hb : Below w.heap.size w w') (hg : g + 1 < w.heap.size) :
    Cells5 w' g a1 a2 a3 a4 b1 b2 b3 b4 A B n m c d := by
  obtain ⟨h0, h1, h2, h3, h4, h5, h6, h7, h8, h9⟩ := h
  have e1 : ∀ i, w'.cell? ⟨g, i, none⟩ = w.cell? ⟨g, i, none⟩ := fun i => hb.cell (p := ⟨g, i, none⟩) (by show g < _; omega)
  have e2 : ∀ i, w'.cell? ⟨g + 1, i, none⟩ = w.cell? ⟨g + 1, i, none⟩ := fun i => hb.cell (p := ⟨g + 1, i, none⟩) hg
  exact ⟨(e1 _).trans h0, (e2 _).trans h1, (e1 _).trans h2, (e2 _).trans h3, (e1 _).trans h4, (e2 _).trans h5, (e1 _).trans h6, (e2 _).trans h7, (e1 _).trans h8, (e2 _).trans h9⟩
theorem or_cells (W : World) (x1 x2 x3 x4 x5 : Int) (T : TypeId) : ∀ j, j < 5 → (W.alloc (.cells #[.int .i64 x1, .int .i64 x2, .int .i64 x3, .int .i64 x4, .int .i64 x5] T)).drew.cell? ⟨W.heap.size, j, none⟩ = some (.int .i64 ([x1, x2, x3, x4, x5].getD j 0)) := by
  intro j hj
  rcases (by omega : j = 0 ∨ j = 1 ∨ j = 2 ∨ j = 3 ∨ j = 4) with rfl | rfl | rfl | rfl | rfl <;> simp [go_sem]

set_option maxRecDepth 8000 in
set_option maxHeartbeats 4000000 in
theorem head_walk (a1 a2 a3 a4 b1 b2 b3 b4 : Int) (A B : Option Addr) (n m c d : Nat) (w : World) (h : orL [cmpO a1 b1, cmpO a2 b2, cmpO a3 b3, cmpO a4 b4, cmpO n m] ≠ 0) :
    Calls Try.prog 9 #[.agg #[.int .i64 a1, .int .i64 a2, .int .u32 a3, .int .u32 a4, .slice A n c], .agg #[.int .i64 b1, .int .i64 b2, .int .u32 b3, .int .u32 b4, .slice B m d]] w fun e w' =>
      e = .returned (.int .i64 (orL [cmpO a1 b1, cmpO a2 b2, cmpO a3 b3, cmpO a4 b4, cmpO n m])) ∧ Below w.heap.size w w' := by
  obtain ⟨H, hH⟩ : ∃ H, orL [cmpO a1 b1, cmpO a2 b2, cmpO a3 b3, cmpO a4 b4, cmpO n m] = H := ⟨_, rfl⟩
  rw [hH] at h ⊢
  have HH := Lib.hid hH
  clear hH
  go_enter Try.func9, Try.ntmps9
  go_wp2_with fail
  have HC0 := Lib.hid (show Cells5 ((w.alloc (.cells #[.int .i64 a1, .int .i64 a2, .int .u32 a3, .int .u32 a4, .slice A n c] 32)).alloc (.cells #[.int .i64 b1, .int .i64 b2, .int .u32 b3, .int .u32 b4, .slice B m d] 32)) w.heap.size a1 a2 a3 a4 b1 b2 b3 b4 A B n m c d from by unfold Cells5; simp [go_sem])
  have HB := Lib.hid (show Below w.heap.size w ((w.alloc (.cells #[.int .i64 a1, .int .i64 a2, .int .u32 a3, .int .u32 a4, .slice A n c] 32)).alloc (.cells #[.int .i64 b1, .int .i64 b2, .int .u32 b3, .int .u32 b4, .slice B m d] 32)) from (((Below.refl _ _).alloc (Nat.le_refl _) _).alloc (by simp) _))
  have hw0 : w.heap.size + 1 < ((w.alloc (.cells #[.int .i64 a1, .int .i64 a2, .int .u32 a3, .int .u32 a4, .slice A n c] 32)).alloc (.cells #[.int .i64 b1, .int .i64 b2, .int .u32 b3, .int .u32 b4, .slice B m d] 32)).heap.size := by simp
  generalize (w.alloc (.cells #[.int .i64 a1, .int .i64 a2, .int .u32 a3, .int .u32 a4, .slice A n c] 32)).alloc (.cells #[.int .i64 b1, .int .i64 b2, .int .u32 b3, .int .u32 b4, .slice B m d] 32) = W0 at *
  have HC := Lib.hid (HC0.out.below (Below.refl _ _).drew hw0)
  unfold Cells5 at HC
  go_region_held3 (fun w' => w'.cell? ⟨w.heap.size, 0, none⟩ = some (.int .i64 a1) ∧ w'.cell? ⟨w.heap.size + 1, 0, none⟩ = some (.int .i64 b1) ∧ w'.cell? ⟨w.heap.size, 1, none⟩ = some (.int .i64 a2) ∧ w'.cell? ⟨w.heap.size + 1, 1, none⟩ = some (.int .i64 b2) ∧ w'.cell? ⟨w.heap.size, 2, none⟩ = some (.int .u32 a3) ∧ w'.cell? ⟨w.heap.size + 1, 2, none⟩ = some (.int .u32 b3) ∧
      w'.cell? ⟨w.heap.size, 3, none⟩ = some (.int .u32 a4) ∧ w'.cell? ⟨w.heap.size + 1, 3, none⟩ = some (.int .u32 b4) ∧ w'.cell? ⟨w.heap.size, 4, none⟩ = some (.slice A n c) ∧ w'.cell? ⟨w.heap.size + 1, 4, none⟩ = some (.slice B m d))
    (first | exact HC.out | exact Cells5.below HC0.out hb5 hw0 | exact Cells5.below HC0.out ((Below.refl _ _).alloc (Nat.le_refl _) _).drew hw0)
    (first | (go_at_call 24; refine (cmp64_any _ _ _).mono ?_; rintro e w1 ⟨rfl, rfl⟩) | (go_at_call 25; refine (cmpI_any _ _ _).mono ?_; rintro e w1 ⟨rfl, rfl⟩) | (go_at_call 26; refine (cmpU_any _ _ _).mono ?_; rintro e w1 ⟨rfl, rfl⟩) | (go_at_call 23; refine (or_any _ _ 5 _ _ rfl (or_cells _ _ _ _ _ _ _) (by omega)).mono ?_; rintro e w5 ⟨rfl, hb⟩; have hb5 := ((Below.refl W0.heap.size W0).alloc (Nat.le_refl _) _).drew.trans (hb.mono (by simp)); rw [HH.out]))
  have h' : (H == 0) = false := by simpa using h
  have HE := Lib.hid (HB.out.trans (hb5.mono (by have := HB.out.size; exact this)))
  clear HC HC0 hb5 HB
  go_wp2_with fail
  go_loopw [5, 6] (fun r i wr => r = .int .i64 H ∧ i = .int .i64 0 ∧ w5 = wr) (fun _ _ _ => 0)
  case atStart => exact ⟨rfl, rfl, rfl⟩
  case round =>
    obtain ⟨rfl, rfl, rfl⟩ := hrel
    go_wp2_with fail
    go_ret
    exact ⟨rfl, HE.out⟩

/-- the program's order, where the heads of two readings are unlike -/
theorem head_any (a b : El) (w : World) (h : headC a b ≠ 0) : Calls Try.prog 9 #[a.val, b.val] w fun e w' => e = .returned (.int .i64 (headC a b)) ∧ Below w.heap.size w w' :=
  head_walk a.at_ a.se a.sq a.st b.at_ b.se b.sq b.st a.v b.v a.n b.n a.c b.c w h
end Go.Proofs.Ytebacmmfjadalaa
