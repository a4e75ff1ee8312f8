/- Contracts of the heap's own methods: Less, Swap. Conditions: the indices lie in the row. -/
import Derived.Test.YtebacmmfjadalaaJ3
import Derived.Deep.RegionHeld3
namespace Go.Proofs.Ytebacmmfjadalaa
open Go Go.RowKit

theorem grown_drew (w : World) (g : Nat) : w.grownBy w.drew (some g) := ⟨rfl, rfl, rfl, Nat.le_refl _, fun _ _ _ => rfl⟩
theorem Pl.drew {w : World} {g cap : Nat} {xs : List El} (h : Pl w g cap xs) : Pl w.drew g cap xs := h
theorem set_some {w : World} {p : Addr} {x : Value} (q : Addr) (y : Value) (h : w.cell? p = some x) : ∃ z, (w.setCell q y).cell? p = some z := by
  by_cases e : q = p
  · subst e
    exact ⟨y, by simp [go_sem, h]⟩
  · exact ⟨x, (World.cell?_setCell_other _ _ _ _ e).trans h⟩
theorem Pl.lt {w : World} {g cap : Nat} {xs : List El} (h : Pl w g cap xs) : g < w.heap.size := by
  rcases h.2 with ⟨h', _⟩ | ⟨g', cap', cur, h', _, hg, _⟩
  · simp at h'
  · injection h' with h1 _ _
    injection h1 with h1
    injection h1 with h1 _ _
    subst h1
    exact (Array.getElem?_eq_some_iff.1 hg).1

set_option maxRecDepth 8000 in
set_option maxHeartbeats 2000000 in
theorem less_any (g cap n i k : Nat) (xs : List El) (a b : El) (z : Int) (w : World) (hp : Pl w g cap xs) (ha : xs[i]? = some a) (hb : xs[k]? = some b) (hi : i < n) (hk : k < n)
    (hC : ∀ W, Below w.heap.size w W → Calls Try.prog 9 #[a.val, b.val] W fun e w' => e = .returned (.int .i64 z) ∧ Below W.heap.size W w') :
    Calls Try.prog 103 #[.slice (some ⟨g, 0, none⟩) n cap, .int .i64 i, .int .i64 k] w fun e w' => e = .returned (.bool (decide (z < 0))) ∧ Below w.heap.size w w' := by
  obtain ⟨a0, a1, a2, a3, a4⟩ := hp.cells ha
  obtain ⟨b0, b1, b2, b3, b4⟩ := hp.cells hb
  obtain ⟨at_, se, sq, st, v, vn, vc, vb⟩ := a
  obtain ⟨at2, se2, sq2, st2, v2, vn2, vc2, vb2⟩ := b
  simp only at a0 a1 a2 a3 a4 b0 b1 b2 b3 b4
  unfold El.val at hC
  simp only at hC
  have HC := Lib.hid hC
  have hg := hp.lt
  have i0 : (0 : Int) ≤ (i : Int) := by omega
  have i1 : (i : Int) < (n : Int) := by omega
  have k0 : (0 : Int) ≤ (k : Int) := by omega
  have k1 : (k : Int) < (n : Int) := by omega
  clear hC hp ha hb
  go_enter Try.func103, Try.ntmps103
  go_wp2_with fail
  go_region_held3 (fun w' => w'.cell? ⟨g, i * 5, none⟩ = some (.int .i64 at_) ∧ w'.cell? ⟨g, i * 5 + 1, none⟩ = some (.int .i64 se) ∧ w'.cell? ⟨g, i * 5 + 2, none⟩ = some (.int .u32 sq) ∧ w'.cell? ⟨g, i * 5 + 3, none⟩ = some (.int .u32 st) ∧ w'.cell? ⟨g, i * 5 + 4, none⟩ = some (.slice v vn vc) ∧
      w'.cell? ⟨g, k * 5, none⟩ = some (.int .i64 at2) ∧ w'.cell? ⟨g, k * 5 + 1, none⟩ = some (.int .i64 se2) ∧ w'.cell? ⟨g, k * 5 + 2, none⟩ = some (.int .u32 sq2) ∧ w'.cell? ⟨g, k * 5 + 3, none⟩ = some (.int .u32 st2) ∧ w'.cell? ⟨g, k * 5 + 4, none⟩ = some (.slice v2 vn2 vc2))
    (first | exact ⟨a0, a1, a2, a3, a4, b0, b1, b2, b3, b4⟩ | exact ⟨(hb1.cell (by exact hg)).trans a0, (hb1.cell (by exact hg)).trans a1, (hb1.cell (by exact hg)).trans a2, (hb1.cell (by exact hg)).trans a3, (hb1.cell (by exact hg)).trans a4, (hb1.cell (by exact hg)).trans b0, (hb1.cell (by exact hg)).trans b1, (hb1.cell (by exact hg)).trans b2, (hb1.cell (by exact hg)).trans b3, (hb1.cell (by exact hg)).trans b4⟩)
    (first | (go_at_call 9; refine (HC.out _ (Below.refl _ _).drew).mono ?_; rintro e w1 ⟨rfl, hb1⟩))
  have HB := Lib.hid ((Below.refl _ _).drew.trans hb1)
  clear hb1
  go_wp2_with fail
  go_ret
  exact ⟨rfl, HB.out⟩

set_option maxRecDepth 8000 in
set_option maxHeartbeats 2000000 in
theorem swap_any (g cap n i k : Nat) (xs : List El) (a b : El) (w : World) (hp : Pl w g cap xs) (hn : xs.length = n) (ha : xs[i]? = some a) (hb : xs[k]? = some b) (hi : i < n) (hk : k < n) :
    Calls Try.prog 104 #[.slice (some ⟨g, 0, none⟩) n cap, .int .i64 i, .int .i64 k] w fun e w' => e = .returned (.tuple #[]) ∧ Pl w' g cap ((xs.set i b).set k a) ∧ w.grownBy w' (some g) := by
  obtain ⟨a0, a1, a2, a3, a4⟩ := hp.cells ha
  obtain ⟨b0, b1, b2, b3, b4⟩ := hp.cells hb
  have HP := Lib.hid (And.intro hp hn)
  obtain ⟨at_, se, sq, st, v, vn, vc, vb⟩ := a
  obtain ⟨at2, se2, sq2, st2, v2, vn2, vc2, vb2⟩ := b
  simp only at a0 a1 a2 a3 a4 b0 b1 b2 b3 b4
  have i0 : (0 : Int) ≤ (i : Int) := by omega
  have i1 : (i : Int) < (n : Int) := by omega
  have k0 : (0 : Int) ≤ (k : Int) := by omega
  have k1 : (k : Int) < (n : Int) := by omega
  have hz := fun j => hp.frozen j
  clear hp hn ha hb
  go_enter Try.func104, Try.ntmps104
  go_wp2_with fail
  obtain ⟨z00, d0⟩ := set_some ⟨g, i * 5, none⟩ (.int .i64 at2) b0
  obtain ⟨z10, f10⟩ := set_some ⟨g, i * 5, none⟩ (.int .i64 at2) b1
  obtain ⟨z11, d1⟩ := set_some ⟨g, i * 5 + 1, none⟩ (.int .i64 se2) f10
  obtain ⟨z20, f20⟩ := set_some ⟨g, i * 5, none⟩ (.int .i64 at2) b2
  obtain ⟨z21, f21⟩ := set_some ⟨g, i * 5 + 1, none⟩ (.int .i64 se2) f20
  obtain ⟨z22, d2⟩ := set_some ⟨g, i * 5 + 2, none⟩ (.int .u32 sq2) f21
  obtain ⟨z30, f30⟩ := set_some ⟨g, i * 5, none⟩ (.int .i64 at2) b3
  obtain ⟨z31, f31⟩ := set_some ⟨g, i * 5 + 1, none⟩ (.int .i64 se2) f30
  obtain ⟨z32, f32⟩ := set_some ⟨g, i * 5 + 2, none⟩ (.int .u32 sq2) f31
  obtain ⟨z33, d3⟩ := set_some ⟨g, i * 5 + 3, none⟩ (.int .u32 st2) f32
  obtain ⟨z40, f40⟩ := set_some ⟨g, i * 5, none⟩ (.int .i64 at2) b4
  obtain ⟨z41, f41⟩ := set_some ⟨g, i * 5 + 1, none⟩ (.int .i64 se2) f40
  obtain ⟨z42, f42⟩ := set_some ⟨g, i * 5 + 2, none⟩ (.int .u32 sq2) f41
  obtain ⟨z43, f43⟩ := set_some ⟨g, i * 5 + 3, none⟩ (.int .u32 st2) f42
  obtain ⟨z44, d4⟩ := set_some ⟨g, i * 5 + 4, none⟩ (.slice v2 vn2 vc2) f43
  clear f10 f20 f21 f30 f31 f32 f40 f41 f42 f43
  go_region
  all_goals go_end0
  all_goals (
    have e1 := Pl.set HP.out.1 (i := i) (by have := HP.out.2; omega) ⟨at2, se2, sq2, st2, v2, vn2, vc2, vb2⟩
    have e2 := Pl.set e1.1 (i := k) (by rw [List.length_set]; have := HP.out.2; omega) ⟨at_, se, sq, st, v, vn, vc, vb⟩
    exact ⟨rfl, e2.1.drew, grown_trans (grown_trans e1.2 e2.2) (grown_drew _ _)⟩)
end Go.Proofs.Ytebacmmfjadalaa
