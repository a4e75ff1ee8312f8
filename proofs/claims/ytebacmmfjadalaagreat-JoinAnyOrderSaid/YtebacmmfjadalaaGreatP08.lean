/- J10 J11 in one text. -/
import Derived.Test.YtebacmmfjadalaaGreatP07

namespace Go.Proofs.YtebacmmfjadalaaGreat
open Go Go.RowKit

theorem Pl.take {w : World} {g cap : Nat} {xs ys : List El} (h : Pl w g cap (xs ++ ys)) : Pl w g cap xs := by
  refine ⟨flat_len xs, ?_⟩
  rcases h.2 with ⟨h', _⟩ | ⟨g', cap', cur, h', h1, h2, h3, h4, h5, h6⟩
  · simp at h'
  · have e1 : g = g' := by injection h' with e1; injection e1 with e1; injection e1
    have e2 : cap = cap' := by injection h'
    subst e1 e2
    refine .inr ⟨g, cap, cur, rfl, h1, h2, ?_, h4, h5, ?_⟩
    · rw [List.length_append] at h3; omega
    · have h7 := congrArg (List.take (xs.length * 5)) h6
      rw [flat_app, List.take_take, List.length_append, Nat.min_eq_left (by omega), List.take_left' (flat_len xs)] at h7
      exact h7
theorem Fr.of_below {w w' : World} (h : Below w.heap.size w w') (o : Option Nat) {pa : Addr} (hpa : pa.block < w.heap.size) : Fr w w' o pa :=
  ⟨h.os, h.tape, h.output, h.size, fun k hk _ _ => h.block k hk, fun a ha _ => h.cell (by rw [ha]; exact hpa), fun a ha => h.frozen (by rw [ha]; exact hpa)⟩
theorem Fr.set {w w' : World} {o : Option Nat} {pa : Addr} (h : Fr w w' o pa) (u : Value) : Fr w (w'.setCell pa u) o pa := by
  refine ⟨h.os, h.tape, h.output, by simp [World.setCell]; exact h.size, fun k h1 h2 h3 => ?_, fun a h1 h2 => ?_, fun a h1 => ?_⟩
  · rw [← h.block k h1 h2 h3]
    simp only [World.setCell, Array.getElem?_modify]
    rw [if_neg (fun e => h2 e.symm)]
  · rw [World.cell?_setCell_other _ _ _ _ (fun e => h2 e.symm), h.cell a h1 h2]
  · rw [show (w'.setCell pa u).frozen? a = w'.frozen? a by simp [go_sem], h.frozen a h1]
theorem Pl.setCell {w : World} {g cap : Nat} {xs : List El} (h : Pl w g cap xs) {p : Addr} (hp : p.block ≠ g) (u : Value) : Pl (w.setCell p u) g cap xs := by
  refine ⟨h.1, ?_⟩
  rcases h.2 with ⟨h', _⟩ | ⟨g', cap', cur, h', h1, h2, h3⟩
  · simp at h'
  · have e1 : g = g' := by injection h' with e1; injection e1 with e1; injection e1
    subst e1
    refine .inr ⟨g, cap', cur, h', h1, ?_, h3⟩
    rw [← h2]
    simp only [World.setCell, Array.getElem?_modify]
    rw [if_neg hp]

theorem box_kept (w : World) (pa : Addr) (u : Value) (a b c d : Int) (v : Option Addr) (n k : Nat) (T : TypeId) (hpa : pa.block < w.heap.size) :
    ((w.alloc (.cells #[.int .i64 a, .int .i64 b, .int .u32 c, .int .u32 d, .slice v n k] T)).setCell pa u).cell? ⟨w.heap.size, 0, none⟩ = some (.int .i64 a) ∧ ((w.alloc (.cells #[.int .i64 a, .int .i64 b, .int .u32 c, .int .u32 d, .slice v n k] T)).setCell pa u).cell? ⟨w.heap.size, 1, none⟩ = some (.int .i64 b) ∧
    ((w.alloc (.cells #[.int .i64 a, .int .i64 b, .int .u32 c, .int .u32 d, .slice v n k] T)).setCell pa u).cell? ⟨w.heap.size, 2, none⟩ = some (.int .u32 c) ∧ ((w.alloc (.cells #[.int .i64 a, .int .i64 b, .int .u32 c, .int .u32 d, .slice v n k] T)).setCell pa u).cell? ⟨w.heap.size, 3, none⟩ = some (.int .u32 d) ∧
    ((w.alloc (.cells #[.int .i64 a, .int .i64 b, .int .u32 c, .int .u32 d, .slice v n k] T)).setCell pa u).cell? ⟨w.heap.size, 4, none⟩ = some (.slice v n k) := by
  have h : ∀ i, ((w.alloc (.cells #[.int .i64 a, .int .i64 b, .int .u32 c, .int .u32 d, .slice v n k] T)).setCell pa u).cell? ⟨w.heap.size, i, none⟩ = (w.alloc (.cells #[.int .i64 a, .int .i64 b, .int .u32 c, .int .u32 d, .slice v n k] T)).cell? ⟨w.heap.size, i, none⟩ :=
    fun i => World.cell?_setCell_other _ _ _ _ (by rintro rfl; simp at hpa)
  refine ⟨(h 0).trans ?_, (h 1).trans ?_, (h 2).trans ?_, (h 3).trans ?_, (h 4).trans ?_⟩ <;> simp [go_sem]

set_option maxRecDepth 8000 in
set_option maxHeartbeats 2000000 in
theorem pop_any (pa : Addr) (g cap n : Nat) (ys : List El) (e : El) (w : World) (hp : Pl w g cap (ys ++ [e])) (hn : ys.length = n) (hc : w.cell? pa = some (.slice (some ⟨g, 0, none⟩) (n + 1) cap)) (hf : w.frozen? pa = false) (hpg : pa.block ≠ g) (hpa : pa.block < w.heap.size) (h63 : n ≤ 1099511627776) (hcap : n + 1 ≤ cap) :
    Calls Tryz.prog 150 #[.pointer (some pa)] w fun e' w' => e' = .returned (.iface 63 e.val) ∧ Pl w' g cap ys ∧ w'.cell? pa = some (.slice (some ⟨g, 0, none⟩) n cap) ∧ Fr w w' none pa := by
  have he : (ys ++ [e])[n]? = some e := by rw [← hn, List.getElem?_append_right (Nat.le_refl _)]; simp
  obtain ⟨a0, a1, a2, a3, a4⟩ := hp.cells he
  have hg := hp.lt
  obtain ⟨at_, se, sq, st, v, vn, vc, vb⟩ := e
  simp only at a0 a1 a2 a3 a4
  unfold El.val
  simp only
  have HP := Lib.hid (And.intro hp hn)
  have i0 : (0 : Int) ≤ (n : Int) := by omega
  have i1 : (n : Int) < ((n + 1 : Nat) : Int) := by omega
  have w1 : IntKind.i64.wrap (((n + 1 : Nat) : Int) - 1) = (n : Int) := by rw [IntWalk.i64_in _ (by omega)]; omega
  have i2 : (n : Int) ≤ (cap : Int) := by omega
  obtain ⟨c0, c1, c2, c3, c4⟩ := box_kept w pa (.slice (some ⟨g, 0, none⟩) n cap) at_ se sq st v vn vc 63 hpa
  have f1 : (w.alloc (.cells #[.int .i64 at_, .int .i64 se, .int .u32 sq, .int .u32 st, .slice v vn vc] 63)).frozen? pa = false := (((Below.refl w.heap.size w).alloc (Nat.le_refl _) _).frozen hpa).trans hf
  clear hp hn he
  go_enter Tryz.func150, Tryz.ntmps150
  go_wp2_with fail
  go_ret
  have hB := (Below.refl w.heap.size w).alloc (Nat.le_refl _) (.cells #[.int .i64 at_, .int .i64 se, .int .u32 sq, .int .u32 st, .slice v vn vc] 63)
  exact ⟨rfl, ((HP.out.1.take).below hB).setCell hpg _, by simp [go_sem, World.cell?_alloc_lt, hpa, hc], (Fr.of_below hB _ hpa).set _⟩

theorem kid_lt {C : El → El → Int} {xs : List El} {i m : Nat} (h : ¬ m ≤ 2 * i + 1) : i < kid C xs i m ∧ kid C xs i m < m := by
  unfold kid
  split <;> omega
theorem downL_len (C : El → El → Int) : ∀ (f : Nat) (xs : List El) (i m : Nat), (downL C f xs i m).length = xs.length
  | 0, _, _, _ => rfl
  | f + 1, xs, i, m => by
    rw [downL]
    split
    · rfl
    · rw [downL_len, sw_len]
theorem downL_mem (C : El → El → Int) : ∀ (f : Nat) (xs : List El) (i m : Nat) (e : El), e ∈ downL C f xs i m → e ∈ xs
  | 0, _, _, _, _, h => h
  | f + 1, xs, i, m, e, h => by
    rw [downL] at h
    split at h
    · exact h
    · exact sw_mem (downL_mem C f _ _ _ e h)
theorem sw_at {xs : List El} {i k j : Nat} (h1 : j ≠ i) (h2 : j ≠ k) : (sw xs i k)[j]? = xs[j]? := by
  unfold sw
  split
  · rw [List.getElem?_set_ne (fun e => h2 e.symm), List.getElem?_set_ne (fun e => h1 e.symm)]
  · rfl
theorem downL_at (C : El → El → Int) : ∀ (f : Nat) (xs : List El) (i m k : Nat), m ≤ k → (downL C f xs i m)[k]? = xs[k]?
  | 0, _, _, _, _, _ => rfl
  | f + 1, xs, i, m, k, h => by
    rw [downL]
    split
    · rfl
    · rename_i hn
      have hk := kid_lt (C := C) (xs := xs) (i := i) (m := m) (fun h => hn (.inl h))
      rw [downL_at C f _ _ m k h, sw_at (by omega) (by omega)]
theorem popL_len {C : El → El → Int} {xs : List El} {n : Nat} (h : xs.length = n + 1) : (popL C xs n).length = n := by
  unfold popL
  rw [List.length_take, downL_len, sw_len]
  omega
theorem popL_mem {C : El → El → Int} {xs : List El} {n : Nat} {e : El} (h : e ∈ popL C xs n) : e ∈ xs := sw_mem (downL_mem C _ _ _ _ e (List.mem_of_mem_take h))
theorem sw_last {xs : List El} {n : Nat} {a : El} (hn : xs.length = n + 1) (ha : xs[0]? = some a) : (sw xs 0 n)[n]? = some a := by
  obtain ⟨b, hb⟩ := get_some (xs := xs) (i := n) (by omega)
  rw [sw_eq ha hb, List.getElem?_set_self (by rw [List.length_set]; omega)]
theorem popL_eq {C : El → El → Int} {xs : List El} {n : Nat} {a : El} (hn : xs.length = n + 1) (ha : xs[0]? = some a) : downL C (n + 1) (sw xs 0 n) 0 n = popL C xs n ++ [a] := by
  have h1 := (downL_at C (n + 1) (sw xs 0 n) 0 n n (Nat.le_refl _)).trans (sw_last hn ha)
  have h2 : (downL C (n + 1) (sw xs 0 n) 0 n).length = n + 1 := by rw [downL_len, sw_len, hn]
  unfold popL
  generalize downL C (n + 1) (sw xs 0 n) 0 n = zs at *
  have h3 : zs.drop n = [a] := by
    have h4 : n < zs.length := by omega
    rw [List.drop_eq_getElem_cons h4, List.drop_eq_nil_of_le (by omega)]
    rw [List.getElem?_eq_getElem h4] at h1
    injection h1 with h1
    rw [h1]
  rw [← h3, List.take_append_drop]
theorem Pl.cap {w : World} {g cap : Nat} {xs : List El} (h : Pl w g cap xs) : xs.length ≤ cap := by
  rcases h.2 with ⟨h', _⟩ | ⟨g', cap', cur, h', h1, h2, h3, _⟩
  · simp at h'
  · have e2 : cap = cap' := by injection h'
    omega
theorem Fr.refl (w : World) (o : Option Nat) (pa : Addr) : Fr w w o pa := ⟨rfl, rfl, rfl, Nat.le_refl _, fun _ _ _ _ => rfl, fun _ _ _ => rfl, fun _ _ => rfl⟩
theorem Fr.trans {w w1 w2 : World} {o : Option Nat} {pa : Addr} (h : Fr w w1 o pa) (k : Fr w1 w2 o pa) : Fr w w2 o pa :=
  ⟨k.os.trans h.os, k.tape.trans h.tape, k.output.trans h.output, Nat.le_trans h.size k.size, fun i h1 h2 h3 => (k.block i (Nat.lt_of_lt_of_le h1 h.size) h2 h3).trans (h.block i h1 h2 h3),
    fun a h1 h2 => (k.cell a h1 h2).trans (h.cell a h1 h2), fun a h1 => (k.frozen a h1).trans (h.frozen a h1)⟩
theorem Fr.of_none {w w' : World} {o : Option Nat} {pa : Addr} (h : Fr w w' none pa) : Fr w w' o pa := ⟨h.os, h.tape, h.output, h.size, fun k h1 h2 _ => h.block k h1 h2 (by simp), h.cell, h.frozen⟩

set_option maxRecDepth 8000 in
set_option maxHeartbeats 4000000 in
theorem hpop_any (C : El → El → Int) (pa : Addr) (g cap n : Nat) (xs : List El) (a : El) (w : World) (hp : Pl w g cap xs) (hn : xs.length = n + 1) (ha : xs[0]? = some a) (hc : w.cell? pa = some (.slice (some ⟨g, 0, none⟩) (n + 1) cap)) (hf : w.frozen? pa = false) (hpg : pa.block ≠ g) (hpa : pa.block < w.heap.size) (h63 : n ≤ 1099511627776)
    (hC : ∀ a ∈ xs, ∀ b ∈ xs, ∀ W, Fr w W (some g) pa → Calls Tryz.prog 81 #[a.val, b.val] W fun e w' => e = .returned (.int .i64 (C a b)) ∧ Below W.heap.size W w') :
    Calls Tryz.prog 60 #[.iface 101 (.pointer (some pa))] w fun e' w' => e' = .returned (.iface 63 a.val) ∧ Pl w' g cap (popL C xs n) ∧ w'.cell? pa = some (.slice (some ⟨g, 0, none⟩) n cap) ∧ Fr w w' (some g) pa := by
  obtain ⟨b, hb⟩ := get_some (xs := xs) (i := n) (by omega)
  have HS := Lib.hid (swap_any g cap (n + 1) 0 n xs a b w hp hn ha hb (by omega) (by omega))
  have HAB := Lib.hid (And.intro ha hb)
  have hcap := hp.cap
  have HC := Lib.hid hC
  have HC0 := Lib.hid hc
  have HN := Lib.hid hn
  obtain ⟨av, hav⟩ : ∃ x, a.val = x := ⟨_, rfl⟩
  have hlenm := method_val (fuel := 309) m_len pa _ _ _ w hc
  have hswap := method_val (fuel := 309) m_swap pa _ _ _ w hc
  have hw1 : IntKind.i64.wrap (((n + 1 : Nat) : Int) - 1) = (n : Int) := by rw [IntWalk.i64_in _ (by omega)]; omega
  rw [hav]
  clear hC ha hb hn hc
  go_enter Tryz.func60, Tryz.ntmps60
  go_wp2_with fail
  refine (len_any _ _ _ _).mono ?_
  rintro e1 w1 ⟨rfl, rfl⟩
  go_wp2_with fail
  refine HS.out.mono ?_
  rintro e1 w1 ⟨rfl, hp1, hg1⟩
  rw [← sw_eq HAB.out.1 HAB.out.2] at hp1
  have hF1 := (Fr.refl w (some g) pa).grown hg1 (.inl rfl) hpg hpa
  have hc1 := (grown_cell hg1 hpa hpg).trans HC0.out
  have HD := Lib.hid (down_any C pa g cap (n + 1) n (sw xs 0 n) w1 hp1 (by rw [sw_len, HN.out]) hc1 hpg (Nat.lt_of_lt_of_le hpa hF1.size) (by omega) (by omega) (fun a ha b hb W hW => HC.out a (sw_mem ha) b (sw_mem hb) W (hF1.grown hW (.inl rfl) hpg hpa)))
  have HF1 := Lib.hid hF1
  have HC1 := Lib.hid hc1
  clear hp1 hg1 hF1 hc1 HS hlenm hswap
  go_wp2_with fail
  refine HD.out.mono ?_
  rintro e1 w2 ⟨⟨t, rfl⟩, hp2, hg2⟩
  rw [popL_eq HN.out HAB.out.1] at hp2
  have hF2 := HF1.out.grown hg2 (.inl rfl) hpg hpa
  have hc2 := (grown_cell hg2 (Nat.lt_of_lt_of_le hpa HF1.out.size) hpg).trans HC1.out
  have HP := Lib.hid (pop_any pa g cap n (popL C xs n) a w2 hp2 (popL_len HN.out) hc2 (by rw [hF2.frozen pa rfl]; exact hf) hpg (Nat.lt_of_lt_of_le hpa hF2.size) h63 (by have := HN.out; omega))
  have hpopm := method_ptr (fuel := 309) m_pop pa w2
  have HF2 := Lib.hid hF2
  rw [hav] at HP
  clear hp2 hg2 hF2 hc2 HD HC1 HF1
  go_wp2_with fail
  refine HP.out.mono ?_
  rintro e1 w3 ⟨rfl, hp3, hc3, hF3⟩
  have HP3 := Lib.hid (And.intro hp3 (And.intro hc3 hF3))
  clear hp3 hc3 hF3 hpopm
  go_wp2_with fail
  go_ret
  exact ⟨rfl, HP3.out.1, HP3.out.2.1, HF2.out.trans HP3.out.2.2.of_none⟩
end Go.Proofs.YtebacmmfjadalaaGreat

namespace Go.Proofs.YtebacmmfjadalaaGreat
open Go Go.RowKit

/-- what is known of a sensor -/
structure Sn where
  o : Int
  n : Int
  d : Int
  last : Int
  some : Bool
  most : Int
  taken : Int
def SnAt (w : World) (b off : Nat) (s : Sn) : Prop :=
  w.cell? ⟨b, off, none⟩ = some (.int .i64 s.o) ∧ w.cell? ⟨b, off + 1, none⟩ = some (.int .i64 s.n) ∧ w.cell? ⟨b, off + 2, none⟩ = some (.int .i64 s.d) ∧ w.cell? ⟨b, off + 3, none⟩ = some (.int .i64 s.last) ∧
  w.cell? ⟨b, off + 4, none⟩ = some (.bool s.some) ∧ w.cell? ⟨b, off + 5, none⟩ = some (.int .u32 s.most) ∧ w.cell? ⟨b, off + 6, none⟩ = some (.int .u64 s.taken)

set_option maxRecDepth 8000 in
set_option maxHeartbeats 1000000 in
theorem age_any (b off : Nat) (s : Sn) (q : Int) (w : World) (hs : SnAt w b off s) :
    Calls Tryz.prog 33 #[.pointer (some ⟨b, off, none⟩), .int .u32 q] w fun e w' => e = .returned (.tuple #[.int .u32 ((s.most - q) % 4294967296), .bool (s.some && decide (q ≤ s.most))]) ∧ w' = w.drew := by
  obtain ⟨o, n, d, last, sm, most, taken⟩ := s
  obtain ⟨-, -, -, -, h4, h5, -⟩ := hs
  simp only at h4 h5 ⊢
  cases sm
  · go_enter Tryz.func33, Tryz.ntmps33
    go_wp2_with fail
    go_region
    all_goals go_wp2_with fail
    all_goals go_ret2
    all_goals exact ⟨rfl, rfl⟩
  · go_enter Tryz.func33, Tryz.ntmps33
    go_wp2_with fail
    go_region
    all_goals go_wp2_with fail
    all_goals go_ret2
    all_goals exact ⟨by simp, rfl⟩

/-- what a call may turn: block row, the cells that ok names, new blocks -/
structure Ch (w w' : World) (row : Option Nat) (ok : Addr → Prop) : Prop where
  os : w'.os = w.os
  tape : w'.tape = w.tape
  output : w'.output = w.output
  size : w.heap.size ≤ w'.heap.size
  block : ∀ k, k < w.heap.size → some k ≠ row → (∀ i, ¬ ok ⟨k, i, none⟩) → w'.heap[k]? = w.heap[k]?
  cell : ∀ a : Addr, a.block < w.heap.size → some a.block ≠ row → ¬ ok a → w'.cell? a = w.cell? a
  frozen : ∀ a : Addr, a.block < w.heap.size → some a.block ≠ row → w'.frozen? a = w.frozen? a
theorem Ch.refl (w : World) (row : Option Nat) (ok : Addr → Prop) : Ch w w row ok := ⟨rfl, rfl, rfl, Nat.le_refl _, fun _ _ _ _ => rfl, fun _ _ _ _ => rfl, fun _ _ _ => rfl⟩
theorem Ch.drew {w w' : World} {row : Option Nat} {ok : Addr → Prop} (h : Ch w w' row ok) : Ch w w'.drew row ok := ⟨h.os, h.tape, h.output, h.size, h.block, h.cell, h.frozen⟩
theorem Ch.trans {w w1 w2 : World} {row : Option Nat} {ok : Addr → Prop} (h : Ch w w1 row ok) (k : Ch w1 w2 row ok) : Ch w w2 row ok :=
  ⟨k.os.trans h.os, k.tape.trans h.tape, k.output.trans h.output, Nat.le_trans h.size k.size, fun i h1 h2 h3 => (k.block i (Nat.lt_of_lt_of_le h1 h.size) h2 h3).trans (h.block i h1 h2 h3),
    fun a h1 h2 h3 => (k.cell a (Nat.lt_of_lt_of_le h1 h.size) h2 h3).trans (h.cell a h1 h2 h3), fun a h1 h2 => (k.frozen a (Nat.lt_of_lt_of_le h1 h.size) h2).trans (h.frozen a h1 h2)⟩
theorem Ch.mono {w w' : World} {row row' : Option Nat} {ok ok' : Addr → Prop} (h : Ch w w' row ok) (hr : row = row' ∨ row = none) (ho : ∀ a, ok a → ok' a) : Ch w w' row' ok' := by
  have hr' : ∀ k, some k ≠ row' → some k ≠ row := fun k hk e => by
    rcases hr with hr | hr
    · exact hk (e.trans hr)
    · rw [hr] at e; cases e
  exact ⟨h.os, h.tape, h.output, h.size, fun k h1 h2 h3 => h.block k h1 (hr' k h2) (fun i hi => h3 i (ho _ hi)), fun a h1 h2 h3 => h.cell a h1 (hr' _ h2) (fun hi => h3 (ho _ hi)), fun a h1 h2 => h.frozen a h1 (hr' _ h2)⟩
theorem Ch.set {w w' : World} {row : Option Nat} {ok : Addr → Prop} (h : Ch w w' row ok) {b i : Nat} (hp : ok ⟨b, i, none⟩) (u : Value) : Ch w (w'.setCell ⟨b, i, none⟩ u) row ok := by
  refine ⟨h.os, h.tape, h.output, by simp [World.setCell]; exact h.size, fun k h1 h2 h3 => ?_, fun a h1 h2 h3 => ?_, fun a h1 h2 => ?_⟩
  · rw [← h.block k h1 h2 h3]
    simp only [World.setCell, Array.getElem?_modify]
    rw [if_neg (by rintro rfl; exact h3 i hp)]
  · rw [World.cell?_setCell_other _ _ _ _ (by rintro rfl; exact h3 hp), h.cell a h1 h2 h3]
  · rw [show (w'.setCell ⟨b, i, none⟩ u).frozen? a = w'.frozen? a by simp [go_sem], h.frozen a h1 h2]
theorem Ch.of_below {w w' : World} (h : Below w.heap.size w w') (row : Option Nat) (ok : Addr → Prop) : Ch w w' row ok :=
  ⟨h.os, h.tape, h.output, h.size, fun k hk _ _ => h.block k hk, fun _ ha _ _ => h.cell ha, fun _ ha _ => h.frozen ha⟩
theorem Ch.of_fr {w w' : World} {o : Option Nat} {b i : Nat} (h : Fr w w' o ⟨b, i, none⟩) : Ch w w' o (fun a => a = ⟨b, i, none⟩) := by
  refine ⟨h.os, h.tape, h.output, h.size, fun k h1 h2 h3 => h.block k h1 (fun e => h3 i (by have e' : k = b := e; rw [e'])) h2, fun a h1 h2 h3 => ?_, fun a h1 h2 => ?_⟩
  · by_cases e : a.block = b
    · exact h.cell a e h3
    · exact World.cell?_of_block (h.block _ h1 e h2)
  · by_cases e : a.block = b
    · exact h.frozen a e
    · exact World.frozen?_of_block (h.block _ h1 e h2)

/-- a number noted -/
def tk (s : Sn) (q : Int) : Sn :=
  if s.some = true ∧ q ≤ s.most then { s with taken := bits .or .u64 s.taken (IntKind.u64.wrap (2 ^ (s.most - q).toNat)) }
  else { s with some := true, most := q, taken := bits .or .u64 (if s.some = false ∨ 64 ≤ (q - s.most) % 4294967296 then 0 else IntKind.u64.wrap (s.taken * 2 ^ (q - s.most).toNat)) 1 }

set_option maxRecDepth 8000 in
set_option maxHeartbeats 2000000 in
theorem take_any (b off : Nat) (s : Sn) (q : Int) (w : World) (hs : SnAt w b off s) (hz : ∀ i, w.frozen? ⟨b, i, none⟩ = false) (q0 : 0 ≤ q) (q1 : q < 4294967296) (m0 : 0 ≤ s.most) (m1 : s.most < 4294967296) (hn : s.some = true → q ≤ s.most → s.most - q < 64) :
    Calls Tryz.prog 34 #[.pointer (some ⟨b, off, none⟩), .int .u32 q] w fun e w' => e = .returned (.tuple #[]) ∧ SnAt w' b off (tk s q) ∧ Ch w w' none (fun a => a = ⟨b, off + 4, none⟩ ∨ a = ⟨b, off + 5, none⟩ ∨ a = ⟨b, off + 6, none⟩) := by
  have HA := Lib.hid (age_any b off s q w hs)
  have HS := Lib.hid hs
  obtain ⟨o, n, d, last, sm, most, taken⟩ := s
  obtain ⟨-, -, -, -, h4, h5, h6⟩ := hs
  simp only at h4 h5 h6 m0 m1 hn ⊢
  have HR := Lib.hid ((Ch.refl w none (fun a => a = (⟨b, off + 4, none⟩ : Addr) ∨ a = ⟨b, off + 5, none⟩ ∨ a = ⟨b, off + 6, none⟩)))
  cases sm
  · have HT := Lib.hid (show tk ⟨o, n, d, last, false, most, taken⟩ q = ⟨o, n, d, last, true, q, bits .or .u64 0 1⟩ by simp [tk])
    clear hn
    go_enter Tryz.func34, Tryz.ntmps34
    go_wp2_with fail
    refine HA.out.mono ?_
    rintro e w1 ⟨rfl, rfl⟩
    go_wp2_with fail
    go_end0
    refine ⟨rfl, ?_, (((((HR.out.set (.inr (.inr rfl)) _).set (.inr (.inr rfl)) _).set (.inr (.inl rfl)) _).set (.inl rfl) _).drew)⟩
    rw [HT.out]
    obtain ⟨g0, g1, g2, g3, g4, g5, g6⟩ := HS.out
    simp only at g0 g1 g2 g3 g4 g5 g6
    simp [SnAt, go_sem, g0, g1, g2, g3, g4, g5, g6]
  · by_cases c : q ≤ most
    · have hc := hn rfl c
      have HT := Lib.hid (show tk ⟨o, n, d, last, true, most, taken⟩ q = ⟨o, n, d, last, true, most, bits .or .u64 taken (IntKind.u64.wrap (2 ^ (most - q).toNat))⟩ by simp [tk, c])
      have hm : (most - q) % 4294967296 = most - q := by omega
      rw [hm] at HA
      have c1 : most - q < 64 := hc
      have c2 : 0 ≤ most - q := by omega
      clear hn hm
      go_enter Tryz.func34, Tryz.ntmps34
      go_wp2_with fail
      refine HA.out.mono ?_
      rintro e w1 ⟨rfl, rfl⟩
      go_wp2_with fail
      refine bodyPost_ret (results_none rfl _ _ _) rfl ?_
      refine ⟨rfl, ?_, (HR.out.set (.inr (.inr rfl)) _).drew⟩
      rw [HT.out]
      obtain ⟨g0, g1, g2, g3, g4, g5, g6⟩ := HS.out
      simp only at g0 g1 g2 g3 g4 g5 g6
      simp [SnAt, go_sem, g0, g1, g2, g3, g4, g5, g6]
    · have c3 : decide (q ≤ most) = false := by simpa using c
      have hu : (q - most) % 4294967296 = q - most := by omega
      rw [show (true && decide (q ≤ most)) = false by rw [c3]; rfl] at HA
      by_cases c2 : 64 ≤ q - most
      · have HT := Lib.hid (show tk ⟨o, n, d, last, true, most, taken⟩ q = ⟨o, n, d, last, true, q, bits .or .u64 0 1⟩ by simp [tk, c, hu, c2])
        clear hn hu c3
        go_enter Tryz.func34, Tryz.ntmps34
        go_wp2_with fail
        refine HA.out.mono ?_
        rintro e w1 ⟨rfl, rfl⟩
        go_wp2_with fail
        go_end0
        refine ⟨rfl, ?_, (((((HR.out.set (.inr (.inr rfl)) _).set (.inr (.inr rfl)) _).set (.inr (.inl rfl)) _).set (.inl rfl) _).drew)⟩
        rw [HT.out]
        obtain ⟨g0, g1, g2, g3, g4, g5, g6⟩ := HS.out
        simp only at g0 g1 g2 g3 g4 g5 g6
        simp [SnAt, go_sem, g0, g1, g2, g3, g4, g5, g6]
      · have HT := Lib.hid (show tk ⟨o, n, d, last, true, most, taken⟩ q = ⟨o, n, d, last, true, q, bits .or .u64 (IntKind.u64.wrap (taken * 2 ^ (q - most).toNat)) 1⟩ by simp [tk, c, hu, c2])
        clear hn hu c3
        go_enter Tryz.func34, Tryz.ntmps34
        go_wp2_with fail
        refine HA.out.mono ?_
        rintro e w1 ⟨rfl, rfl⟩
        go_wp2_with fail
        go_end0
        refine ⟨rfl, ?_, (((((HR.out.set (.inr (.inr rfl)) _).set (.inr (.inr rfl)) _).set (.inr (.inl rfl)) _).set (.inl rfl) _).drew)⟩
        rw [HT.out]
        obtain ⟨g0, g1, g2, g3, g4, g5, g6⟩ := HS.out
        simp only at g0 g1 g2 g3 g4 g5 g6
        simp [SnAt, go_sem, g0, g1, g2, g3, g4, g5, g6]
end Go.Proofs.YtebacmmfjadalaaGreat
