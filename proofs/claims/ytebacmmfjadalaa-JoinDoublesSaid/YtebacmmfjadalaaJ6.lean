/- Contract of the heap's up over the program's own pile. -/
import Derived.Test.YtebacmmfjadalaaJ5
import Derived.Test.YtebacmmfjadalaaH1
import Derived.Deep.LoopGhost
namespace Go.Proofs.Ytebacmmfjadalaa
open Go Go.RowKit

theorem get_some {xs : List El} {i : Nat} (h : i < xs.length) : ∃ a, xs[i]? = some a := ⟨xs[i], List.getElem?_eq_getElem h⟩
theorem sw_eq {xs : List El} {i k : Nat} {a b : El} (ha : xs[i]? = some a) (hb : xs[k]? = some b) : sw xs i k = (xs.set i b).set k a := by simp [sw, ha, hb]
theorem sw_len (xs : List El) (i k : Nat) : (sw xs i k).length = xs.length := by
  unfold sw
  split <;> simp
theorem sw_mem {xs : List El} {i k : Nat} {e : El} (h : e ∈ sw xs i k) : e ∈ xs := by
  unfold sw at h
  split at h
  · rename_i a b ha hb
    rcases List.mem_or_eq_of_mem_set h with h | h
    · rcases List.mem_or_eq_of_mem_set h with h | h
      · exact h
      · rw [h]; exact List.mem_of_getElem? hb
    · rw [h]; exact List.mem_of_getElem? ha
  · exact h
/-- a world in which only block g and new blocks may have turned -/
theorem grown_cell {w w' : World} {g : Nat} (h : w.grownBy w' (some g)) {p : Addr} (hp : p.block < w.heap.size) (hn : p.block ≠ g) : w'.cell? p = w.cell? p :=
  World.cell?_of_block (h.block _ hp (by intro e; injection e with e; exact hn e))
theorem grown_of_below {w w' : World} (h : Below w.heap.size w w') (g : Nat) : w.grownBy w' (some g) := ⟨h.os, h.tape, h.output, h.size, fun k hk _ => h.block k hk⟩
theorem Pl.below {w w' : World} {g cap : Nat} {xs : List El} (h : Pl w g cap xs) (hb : Below w.heap.size w w') : Pl w' g cap xs := by
  have hg := h.lt
  refine ⟨h.1, ?_⟩
  rcases h.2 with ⟨h', _⟩ | ⟨g', cap', cur, h', h1, h2, h3⟩
  · simp at h'
  · have e1 : g = g' := by injection h' with e1; injection e1 with e1; injection e1
    subst e1
    exact .inr ⟨g, cap', cur, h', h1, (hb.block g hg).trans h2, h3⟩
theorem upL_stop {C : El → El → Int} {f : Nat} {xs : List El} {j : Nat} (h : (j - 1) / 2 = j ∨ ltAt C xs j ((j - 1) / 2) = false) : upL C (f + 1) xs j = xs := by rw [upL, if_pos h]
theorem upL_go {C : El → El → Int} {f : Nat} {xs : List El} {j : Nat} (h1 : ¬ (j - 1) / 2 = j) (h2 : ltAt C xs j ((j - 1) / 2) = true) : upL C (f + 1) xs j = upL C f (sw xs ((j - 1) / 2) j) ((j - 1) / 2) := by
  rw [upL, if_neg]
  rintro (h | h)
  · exact h1 h
  · rw [h2] at h; cases h

set_option maxRecDepth 8000 in
set_option maxHeartbeats 4000000 in
theorem up_any (C : El → El → Int) (pa : Addr) (g cap n j : Nat) (xs : List El) (w : World) (hp : Pl w g cap xs) (hn : xs.length = n) (hc : w.cell? pa = some (.slice (some ⟨g, 0, none⟩) n cap)) (hpg : pa.block ≠ g) (hpa : pa.block < w.heap.size) (hj : j < n) (h63 : n ≤ 4611686018427387904)
    (hC : ∀ a ∈ xs, ∀ b ∈ xs, ∀ W, w.grownBy W (some g) → Calls Try.prog 9 #[a.val, b.val] W fun e w' => e = .returned (.int .i64 (C a b)) ∧ Below W.heap.size W w') :
    Calls Try.prog 57 #[.iface 93 (.pointer (some pa)), .int .i64 j] w fun e w' => e = .returned (.tuple #[]) ∧ Pl w' g cap (upL C (j + 1) xs j) ∧ w.grownBy w' (some g) := by
  obtain ⟨T, hT⟩ : ∃ T, upL C (j + 1) xs j = T := ⟨_, rfl⟩
  rw [hT]
  have H0 := Lib.hid (show Pl w g cap xs ∧ xs.length = n ∧ upL C (j + 1) xs j = T ∧ (∀ a ∈ xs, a ∈ xs) ∧ w.grownBy w (some g) from ⟨hp, hn, hT, fun _ h => h, grown_of_below (Below.refl _ _) g⟩)
  have HC := Lib.hid hC
  have HP := Lib.hid hc
  clear hp hn hC hT hc
  go_enter Try.func57, Try.ntmps57
  go_wp2_with fail
  go_loopw [1] (fun jv wr => ∃ (k f : Nat) (ys : List El), jv = .int .i64 (k : Int) ∧ k < n ∧ k < f ∧ Hid (Pl wr g cap ys ∧ ys.length = n ∧ upL C f ys k = T ∧ (∀ a ∈ ys, a ∈ xs) ∧ w.grownBy wr (some g))) (fun jv _ => (intOf jv).toNat)
  case atStart => exact ⟨j, j + 1, xs, rfl, hj, by omega, H0⟩
  case round =>
    obtain ⟨k, f, ys, rfl, hk, hf, hh⟩ := hrel
    have hcell := (grown_cell hh.out.2.2.2.2 hpa hpg).trans HP.out
    by_cases k0 : k = 0
    · subst k0
      obtain ⟨f, rfl⟩ : ∃ f', f = f' + 1 := ⟨f - 1, by omega⟩
      have HE := Lib.hid (upL_stop (C := C) (f := f) (xs := ys) (j := 0) (.inl rfl))
      go_wp2_with fail
      go_end0
      exact ⟨rfl, by rw [← hh.out.2.2.1, HE.out]; exact hh.out.1, hh.out.2.2.2.2⟩
    · obtain ⟨f, rfl⟩ : ∃ f', f = f' + 1 := ⟨f - 1, by omega⟩
      obtain ⟨i, hi⟩ : ∃ i, (k - 1) / 2 = i := ⟨_, rfl⟩
      have hik : i < k := by omega
      have hin : i < n := by omega
      obtain ⟨a, ha⟩ := get_some (xs := ys) (i := k) (by have := hh.out.2.1; omega)
      obtain ⟨b, hb⟩ := get_some (xs := ys) (i := i) (by have := hh.out.2.1; omega)
      have hq : ((k : Int) - 1).tdiv 2 = (i : Int) := by
        rw [show (k : Int) - 1 = ((k - 1 : Nat) : Int) by omega, ← hi]
        rfl
      have hne : ((i : Int) == (k : Int)) = false := by simp; omega
      have HI := Lib.hid hi
      have HAB := Lib.hid (And.intro ha hb)
      have hless := method_val (fuel := 265) m_less pa _ _ _ wr hcell
      clear hi ha hb
      go_wp2_with fail
      refine (less_any g cap n k i ys a b (C a b) wr hh.out.1 HAB.out.1 HAB.out.2 hk hin (fun W hW => HC.out a (hh.out.2.2.2.1 a (List.mem_of_getElem? HAB.out.1)) b (hh.out.2.2.2.1 b (List.mem_of_getElem? HAB.out.2)) W (grown_trans hh.out.2.2.2.2 (grown_of_below hW g)))).mono ?_
      rintro e w1 ⟨rfl, hb1⟩
      have hl : ltAt C ys k ((k - 1) / 2) = decide (C a b < 0) := by rw [HI.out]; simp [ltAt, HAB.out.1, HAB.out.2]
      have hcell1 := (hb1.cell (Nat.lt_of_lt_of_le hpa hh.out.2.2.2.2.size)).trans hcell
      have HB1 := Lib.hid hb1
      clear hb1 hless hcell
      by_cases hz : C a b < 0
      · have HE := Lib.hid (upL_go (C := C) (f := f) (xs := ys) (j := k) (by omega) (by rw [hl]; simpa using hz))
        have hswap := method_val (fuel := 265) m_swap pa _ _ _ w1 hcell1
        have hz' : decide (C a b < 0) = true := by simpa using hz
        clear hl
        go_wp2_with fail
        refine (swap_any g cap n i k ys b a w1 (hh.out.1.below HB1.out) hh.out.2.1 HAB.out.2 HAB.out.1 hin hk).mono ?_
        rintro e w2 ⟨rfl, hp2, hg2⟩
        have HP2 := Lib.hid (And.intro hp2 (grown_trans (grown_trans hh.out.2.2.2.2 (grown_of_below HB1.out g)) hg2))
        clear hp2 hg2 hswap hcell1
        go_wp2_with fail
        go_roundw
        case rel => exact ⟨i, f, sw ys i k, rfl, hin, by omega, Lib.hid ⟨by rw [sw_eq HAB.out.2 HAB.out.1]; exact HP2.out.1, by rw [sw_len]; exact hh.out.2.1, by rw [← hh.out.2.2.1, HE.out, HI.out], fun e he => hh.out.2.2.2.1 e (sw_mem he), HP2.out.2⟩⟩
        case measure => simp [intOf]; omega
      · have HE := Lib.hid (upL_stop (C := C) (f := f) (xs := ys) (j := k) (.inr (by rw [hl]; simpa using hz)))
        have hz' : decide (C a b < 0) = false := by simpa using hz
        clear hl
        go_wp2_with fail
        go_end0
        exact ⟨rfl, by rw [← hh.out.2.2.1, HE.out]; exact hh.out.1.below HB1.out, grown_trans hh.out.2.2.2.2 (grown_of_below HB1.out g)⟩
end Go.Proofs.Ytebacmmfjadalaa
