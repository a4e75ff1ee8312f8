/- Contract of the heap's Push over the program's own pile. -/
import Derived.Test.YtebacmmfjadalaaJ8
namespace Go.Proofs.Ytebacmmfjadalaa
open Go Go.RowKit

theorem len_any (v : Option Addr) (n c : Nat) (w : World) : Calls Try.prog 102 #[.slice v n c] w fun e w' => e = .returned (.int .i64 n) ∧ w = w' := by
  go_enter Try.func102, Try.ntmps102
  go_wp2_with fail
  go_ret
  exact ⟨rfl, rfl⟩

theorem Fr.grown {w w1 w2 : World} {o : Option Nat} {pa : Addr} {g : Nat} (h : Fr w w1 o pa) (k : w1.grownBy w2 (some g)) (hg : some g = o ∨ w.heap.size ≤ g) (hgp : pa.block ≠ g) (hpa : pa.block < w.heap.size) : Fr w w2 o pa := by
  refine ⟨k.os.trans h.os, k.tape.trans h.tape, k.output.trans h.output, Nat.le_trans h.size k.size, fun i h1 h2 h3 => ?_, fun a h1 h2 => ?_, fun a h1 => ?_⟩
  · rw [k.block i (Nat.lt_of_lt_of_le h1 h.size) (by
      intro e
      injection e with e
      subst e
      rcases hg with hg | hg
      · exact h3 hg
      · omega), h.block i h1 h2 h3]
  · rw [grown_cell k (by rw [h1]; exact Nat.lt_of_lt_of_le hpa h.size) (by rw [h1]; exact hgp), h.cell a h1 h2]
  · rw [World.frozen?_of_block (k.block a.block (by rw [h1]; exact Nat.lt_of_lt_of_le hpa h.size) (by rw [h1]; intro e; injection e with e; exact hgp e)), h.frozen a h1]
theorem Row.pl {B : Nat} {w : World} {v : Value} {xs : List El} (h : Row B w v xs) (hx : 0 < xs.length) : ∃ g cap, v = .slice (some ⟨g, 0, none⟩) xs.length cap ∧ B ≤ g ∧ Pl w g cap xs := by
  rcases h.2 with ⟨hn, h0⟩ | ⟨g, cap, cur, hv, h1, h2⟩
  · omega
  · subst hv
    exact ⟨g, cap, rfl, h1, h.1, .inr ⟨g, cap, cur, rfl, Nat.zero_le _, h2⟩⟩
theorem Pl.row {B : Nat} {w : World} {g cap : Nat} {xs : List El} (h : Pl w g cap xs) (hB : B ≤ g) : Row B w (.slice (some ⟨g, 0, none⟩) xs.length cap) xs := by
  refine ⟨h.1, ?_⟩
  rcases h.2 with ⟨h', _⟩ | ⟨g', cap', cur, h', h1, h2⟩
  · simp at h'
  · have e1 : g = g' := by injection h' with e1; injection e1 with e1; injection e1
    subst e1
    exact .inr ⟨g, cap', cur, h', hB, h2⟩
theorem upL_len (C : El → El → Int) : ∀ (f : Nat) (xs : List El) (j : Nat), (upL C f xs j).length = xs.length
  | 0, _, _ => rfl
  | f + 1, xs, j => by
    rw [upL]
    split
    · rfl
    · rw [upL_len, sw_len]
theorem upL_mem (C : El → El → Int) : ∀ (f : Nat) (xs : List El) (j : Nat) (e : El), e ∈ upL C f xs j → e ∈ xs
  | 0, _, _, _, h => h
  | f + 1, xs, j, e, h => by
    rw [upL] at h
    split at h
    · exact h
    · exact sw_mem (upL_mem C f _ _ e h)

set_option maxRecDepth 8000 in
set_option maxHeartbeats 2000000 in
theorem hpush_any (C : El → El → Int) (B : Nat) (pa : Addr) (v : Value) (xs : List El) (n : Nat) (e : El) (w : World) (hr : Row B w v xs) (hn : xs.length = n) (hB : B ≤ w.heap.size) (hc : w.cell? pa = some v) (hf : w.frozen? pa = false) (hpB : pa.block < B) (hlen : n ≤ 1099511627776)
    (hC : ∀ a ∈ xs ++ [e], ∀ b ∈ xs ++ [e], ∀ W, Fr w W v.ownBlock pa → Calls Try.prog 9 #[a.val, b.val] W fun e w' => e = .returned (.int .i64 (C a b)) ∧ Below W.heap.size W w') :
    Calls Try.prog 41 #[.iface 93 (.pointer (some pa)), .iface 32 e.val] w fun e' w' => e' = .returned (.tuple #[]) ∧ (∃ v', Row B w' v' (upL C (n + 1) (xs ++ [e]) n) ∧ w'.cell? pa = some v' ∧ At v' v w) ∧ Fr w w' v.ownBlock pa := by
  have hpa : pa.block < w.heap.size := by omega
  have HP := Lib.hid (push_any B pa v xs e w hr hB hc hf hpB (by omega))
  have HC := Lib.hid hC
  have hpush := method_ptr (fuel := 265) m_push pa w
  obtain ⟨ev, hev⟩ : ∃ x, e.val = x := ⟨_, rfl⟩
  rw [hev] at HP ⊢
  clear hr hC hc hf hev
  go_enter Try.func41, Try.ntmps41
  go_wp2_with fail
  refine HP.out.mono ?_
  rintro e1 w1 ⟨rfl, ⟨v1, hr1, hc1, ha1⟩, hF1⟩
  have hl1 : (xs ++ [e]).length = n + 1 := by rw [List.length_append, hn]; rfl
  obtain ⟨g, cap, rfl, hBg, hp1⟩ := hr1.pl (by omega)
  rw [hl1] at hc1 ha1
  have hgp : pa.block ≠ g := by omega
  have HA := Lib.hid ha1
  have HF := Lib.hid hF1
  have HL := Lib.hid hp1
  have hlenm := method_val (fuel := 265) m_len pa _ _ _ w1 hc1
  have hg0 : some g = v.ownBlock ∨ w.heap.size ≤ g := by
    rcases ha1 with h | ⟨g', h, h'⟩
    · exact .inl h
    · injection h with h
      subst h
      exact .inr h'
  have HU := Lib.hid (up_any C pa g cap (n + 1) n (xs ++ [e]) w1 hp1 hl1 hc1 hgp (Nat.lt_of_lt_of_le hpa hF1.size) (by omega) (by omega) (fun a ha b hb W hW => HC.out a ha b hb W (hF1.grown hW hg0 hgp hpa)))
  have HC1 := Lib.hid hc1
  clear hr1 hc1 ha1 hF1 hp1 HP hpush HC
  go_wp2_with fail
  refine (len_any _ _ _ _).mono ?_
  rintro e1 w2 ⟨rfl, rfl⟩
  clear hlenm
  have hw1 : IntKind.i64.wrap (((n + 1 : Nat) : Int) - 1) = (n : Int) := by rw [IntWalk.i64_in _ (by omega)]; omega
  go_wp2_with fail
  refine HU.out.mono ?_
  rintro e1 w3 ⟨rfl, hp3, hg3⟩
  have HP3 := Lib.hid (And.intro hp3 hg3)
  clear hp3 hg3 HU
  go_wp2_with fail
  go_end0
  have hr3 := HP3.out.1.row hBg
  rw [upL_len, hl1] at hr3
  exact ⟨rfl, ⟨_, hr3, (grown_cell HP3.out.2 (Nat.lt_of_lt_of_le hpa HF.out.size) hgp).trans HC1.out, HA.out⟩, HF.out.grown HP3.out.2 hg0 hgp hpa⟩
end Go.Proofs.Ytebacmmfjadalaa
