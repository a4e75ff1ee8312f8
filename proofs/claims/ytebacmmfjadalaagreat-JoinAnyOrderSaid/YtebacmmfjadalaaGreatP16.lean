/- K3 K4 in one text. -/
import Derived.Test.YtebacmmfjadalaaGreatP15

namespace Go.Proofs.YtebacmmfjadalaaGreat
open Go Go.RowKit Go.WideShapes

theorem own_fl {w : World} {B n : Nat} {v : Value} {bs : List Nat} (h : w.ownsRow B 114 1 v n (bs.map fun b => .float .f64 b)) (hn : bs.length = n) : ∃ A c, v = .slice A n c ∧ FlAt w A n bs ∧ (A = none ∨ ∃ b, A = some ⟨b, 0, none⟩ ∧ B ≤ b ∧ b < w.heap.size) := by
  have h0 := h
  rcases h.2 with ⟨h1, h2⟩ | ⟨g, cap, cur, h1, h2, h3, -⟩
  · subst h2
    exact ⟨none, 0, h1, ⟨hn, .inl ⟨rfl, rfl⟩⟩, .inl rfl⟩
  · subst h1
    have hg := (Array.getElem?_eq_some_iff.1 h3).1
    refine ⟨_, cap, rfl, ⟨hn, .inr ⟨g, 0, rfl, hg, fun i hi => ?_⟩⟩, .inr ⟨g, rfl, h2, hg⟩⟩
    have := h0.cellAt i (by simp; omega)
    rw [Nat.zero_add, this]
    rw [List.getElem?_map, List.getD_eq_getElem?_getD, List.getElem?_eq_getElem (by omega)]
    rfl

set_option maxRecDepth 8000 in
set_option maxHeartbeats 2000000 in
theorem of64_fl (A : Option Addr) (n c : Nat) (ts : List Int) (w : World) (hn : ts.length = n) (hc : ∀ i, i < n → ∃ b off, A = some ⟨b, off, none⟩ ∧ b < w.heap.size ∧ w.cell? ⟨b, off + i, none⟩ = some (.int .u64 (ts.getD i 0))) (hl : n * 8 ≤ 140737488355328) :
    Calls Tryz.prog 24 #[.slice A n c] w fun e w' => (∃ v, e = .returned v ∧ w'.ownsRow w.heap.size 114 1 v n ((ts.map Int.toNat).map fun b => .float .f64 b)) ∧ Below w.heap.size w w' := by
  have HC := Lib.hid hc
  have HN := Lib.hid hn
  clear hc hn
  go_enter Tryz.func24, Tryz.ntmps24
  go_wp2_with fail
  go_loopw [3, 8] (fun ov iv wr => ∃ (k : Nat), k ≤ n ∧ iv = .int .i64 (k : Int) ∧ Hid (wr.ownsRow w.heap.size 114 1 ov k (((ts.take k).map Int.toNat).map fun b => .float .f64 b) ∧ Below w.heap.size w wr)) (fun _ iv _ => n - (intOf iv).toNat)
  case atStart => exact ⟨0, by omega, rfl, Lib.hid ⟨World.ownsRow_nil _ _ _ _, Below.refl _ _⟩⟩
  case round =>
    obtain ⟨k, hk, rfl, hh⟩ := hrel
    by_cases hlt : k < n
    · obtain ⟨b, off, rfl, hb, hcell⟩ := HC.out k hlt
      obtain ⟨y, hy⟩ : ∃ y, ts.getD k 0 = y := ⟨_, rfl⟩
      rw [hy] at hcell
      have HY := Lib.hid hy
      have hcr := (hh.out.2.cell (p := ⟨b, off + k, none⟩) hb).trans hcell
      have hki : (k : Int) < (n : Int) := by omega
      clear hcell hy
      have hfb := run_frombits y
      obtain ⟨i0, hi0, hz0, hz1, hz2⟩ := info_parts infoF
      have HBX := Lib.hid ((Below.refl wr.heap.size wr).alloc (Nat.le_refl _) (.cells #[.float .f64 y.toNat] 114))
      have HRX := Lib.hid (ownsRow_below hh.out.1 HBX.out)
      have hwr := hh.out.2.size
      go_wp2_with (at_builtin; refine wpList_append_own _ rfl _ _ 36 rfl w.heap.size 114 i0 _ 1 8 Tryz.underlying36 hi0 hz0 hz1 hz2 rfl (by omega) u3 k _ rfl HRX.out ⟨wr.heap.size, 0, none⟩ 1 1 [.float .f64 y.toNat] rfl rfl (float_new _ _ _) (by simp [Value.oneCell']) (by simp only [maxLen]; omega) (by omega) (Nat.le_trans hwr HBX.out.size) ?_; intro v' w3 hr3 hg3 ha3; have HR3 := Lib.hid (And.intro hr3 hg3); clear hr3 hg3 ha3)
      go_roundw
      case rel =>
        refine ⟨k + 1, by omega, by go_num, Lib.hid ⟨?_, (hh.out.2.trans (HBX.out.mono hwr)).grown HR3.out.2 (Nat.le_trans hwr HBX.out.size) (ownsRow_base hh.out.1)⟩⟩
        have h1 := HR3.out.1
        have e1 : ts.take (k + 1) = ts.take k ++ [y] := by
          have hkl : k < ts.length := by have := HN.out; omega
          have hy := HY.out
          rw [List.getD_eq_getElem?_getD, List.getElem?_eq_getElem hkl] at hy
          rw [List.take_add_one, List.getElem?_eq_getElem hkl]
          have hy' : ts[k] = y := hy
          rw [hy']
          rfl
        rw [e1, List.map_append, List.map_append]
        exact h1
      case measure => simp [intOf]; omega
    · have hkn : k = n := by omega
      subst hkn
      have hsl : ∃ A' c', u3 = .slice A' k c' := by
        rcases hh.out.1.2 with ⟨h1, h2⟩ | ⟨g, cap, cur, h1, -⟩
        · exact ⟨none, 0, by rw [h1, h2]⟩
        · exact ⟨_, _, h1⟩
      obtain ⟨A', c', rfl⟩ := hsl
      go_wp2_with fail
      go_ret
      have h1 := hh.out.1
      rw [List.take_of_length_le (by have := HN.out; omega)] at h1
      exact ⟨⟨_, rfl, h1⟩, hh.out.2⟩
theorem FlAt.set {w : World} {A : Option Addr} {n : Nat} {bs : List Nat} (h : FlAt w A n bs) {p : Addr} (hp : ∀ b off, A = some ⟨b, off, none⟩ → p.block ≠ b) (u : Value) : FlAt (w.setCell p u) A n bs := by
  refine ⟨h.1, ?_⟩
  rcases h.2 with h2 | ⟨b, off, h1, h2, h3⟩
  · exact .inl h2
  · exact .inr ⟨b, off, h1, by simpa [World.setCell] using h2, fun i hi => (World.cell?_setCell_other _ _ _ _ (by
      intro e
      subst e
      exact hp b off h1 rfl)).trans (h3 i hi)⟩
theorem FlAt.four {w : World} {A : Option Addr} {n g : Nat} {bs : List Nat} (h : FlAt w A n bs) (hA : A = none ∨ ∃ b, A = some ⟨b, 0, none⟩ ∧ g < b ∧ b < w.heap.size) (i j k l : Nat) (x y z u : Value) :
    FlAt ((((w.setCell ⟨g, i, none⟩ x).setCell ⟨g, j, none⟩ y).setCell ⟨g, k, none⟩ z).setCell ⟨g, l, none⟩ u) A n bs := by
  have hp : ∀ m b off, A = some ⟨b, off, none⟩ → (⟨g, m, none⟩ : Addr).block ≠ b := by
    intro m b off e
    rcases hA with h1 | ⟨b', h1, h2, -⟩
    · rw [h1] at e; cases e
    · rw [h1] at e
      injection e with e
      injection e with e
      subst e
      exact Nat.ne_of_lt h2
  exact (((h.set (hp i) x).set (hp j) y).set (hp k) z).set (hp l) u

set_option maxRecDepth 8000 in
set_option maxHeartbeats 2000000 in
theorem of_fl (se sq st : Int) (A : Option Addr) (n c : Nat) (ts : List Int) (w : World) (hn : ts.length = n) (hc : ∀ i, i < n → ∃ b off, A = some ⟨b, off, none⟩ ∧ b < w.heap.size ∧ w.cell? ⟨b, off + i, none⟩ = some (.int .u64 (ts.getD i 0))) (hl : n * 8 ≤ 140737488355328) :
    Calls Tryz.prog 9 #[.agg #[.int .i64 se, .int .u32 sq, .int .u32 st, .slice A n c]] w fun e w' => (∃ B k, e = .returned (.agg #[.int .i64 se, .int .u32 sq, .int .u32 st, .slice B n k]) ∧ FlAt w' B n (ts.map Int.toNat) ∧ (B = none ∨ ∃ b, B = some ⟨b, 0, none⟩ ∧ w.heap.size ≤ b ∧ b < w'.heap.size)) ∧ Below w.heap.size w w' := by
  have hb := ((Below.refl w.heap.size w).alloc (Nat.le_refl _) (.cells #[.int .i64 se, .int .u32 sq, .int .u32 st, .slice A n c] 35)).alloc (by simp) (.cells #[.int .i64 0, .int .u32 0, .int .u32 0, .slice none 0 0] 38)
  have HO := Lib.hid (fun W (hW : Below w.heap.size w W) => of64_fl A n c ts W hn (fun i hi => by
    obtain ⟨b, off, h1, h2, h3⟩ := hc i hi
    exact ⟨b, off, h1, Nat.lt_of_lt_of_le h2 hW.size, (hW.cell (p := ⟨b, off + i, none⟩) h2).trans h3⟩) hl)
  have HB := Lib.hid hb
  have HTS := Lib.hid hn
  clear hb hc hn
  go_enter Tryz.func9, Tryz.ntmps9
  go_wp2_with fail
  have HC := Lib.hid (show ((w.alloc (.cells #[.int .i64 se, .int .u32 sq, .int .u32 st, .slice A n c] 35)).alloc (.cells #[.int .i64 0, .int .u32 0, .int .u32 0, .slice none 0 0] 38)).drew.cell? ⟨w.heap.size, 0, none⟩ = some (.int .i64 se) ∧ ((w.alloc (.cells #[.int .i64 se, .int .u32 sq, .int .u32 st, .slice A n c] 35)).alloc (.cells #[.int .i64 0, .int .u32 0, .int .u32 0, .slice none 0 0] 38)).drew.cell? ⟨w.heap.size, 1, none⟩ = some (.int .u32 sq) ∧ ((w.alloc (.cells #[.int .i64 se, .int .u32 sq, .int .u32 st, .slice A n c] 35)).alloc (.cells #[.int .i64 0, .int .u32 0, .int .u32 0, .slice none 0 0] 38)).drew.cell? ⟨w.heap.size, 2, none⟩ = some (.int .u32 st) ∧ ((w.alloc (.cells #[.int .i64 se, .int .u32 sq, .int .u32 st, .slice A n c] 35)).alloc (.cells #[.int .i64 0, .int .u32 0, .int .u32 0, .slice none 0 0] 38)).drew.cell? ⟨w.heap.size, 3, none⟩ = some (.slice A n c) from by simp [go_sem])
  have hz : ∀ i, ((w.alloc (.cells #[.int .i64 se, .int .u32 sq, .int .u32 st, .slice A n c] 35)).alloc (.cells #[.int .i64 0, .int .u32 0, .int .u32 0, .slice none 0 0] 38)).frozen? ⟨w.heap.size + 1, i, none⟩ = false := fun i => by simp [go_sem]
  have hr : ((w.alloc (.cells #[.int .i64 se, .int .u32 sq, .int .u32 st, .slice A n c] 35)).alloc (.cells #[.int .i64 0, .int .u32 0, .int .u32 0, .slice none 0 0] 38)).cell? ⟨w.heap.size + 1, 0, none⟩ = some (.int .i64 0) ∧ ((w.alloc (.cells #[.int .i64 se, .int .u32 sq, .int .u32 st, .slice A n c] 35)).alloc (.cells #[.int .i64 0, .int .u32 0, .int .u32 0, .slice none 0 0] 38)).cell? ⟨w.heap.size + 1, 1, none⟩ = some (.int .u32 0) ∧ ((w.alloc (.cells #[.int .i64 se, .int .u32 sq, .int .u32 st, .slice A n c] 35)).alloc (.cells #[.int .i64 0, .int .u32 0, .int .u32 0, .slice none 0 0] 38)).cell? ⟨w.heap.size + 1, 2, none⟩ = some (.int .u32 0) ∧ ((w.alloc (.cells #[.int .i64 se, .int .u32 sq, .int .u32 st, .slice A n c] 35)).alloc (.cells #[.int .i64 0, .int .u32 0, .int .u32 0, .slice none 0 0] 38)).cell? ⟨w.heap.size + 1, 3, none⟩ = some (.slice none 0 0) := by simp [go_sem]
  have hsz : w.heap.size + 1 < ((w.alloc (.cells #[.int .i64 se, .int .u32 sq, .int .u32 st, .slice A n c] 35)).alloc (.cells #[.int .i64 0, .int .u32 0, .int .u32 0, .slice none 0 0] 38)).heap.size := by simp
  generalize (w.alloc (.cells #[.int .i64 se, .int .u32 sq, .int .u32 st, .slice A n c] 35)).alloc (.cells #[.int .i64 0, .int .u32 0, .int .u32 0, .slice none 0 0] 38) = W0 at *
  have HR := Lib.hid (And.intro hz (And.intro hr hsz))
  clear hz hr hsz
  go_region_held3 (fun w' => w'.cell? ⟨w.heap.size, 0, none⟩ = some (.int .i64 se) ∧ w'.cell? ⟨w.heap.size, 1, none⟩ = some (.int .u32 sq) ∧ w'.cell? ⟨w.heap.size, 2, none⟩ = some (.int .u32 st) ∧ w'.cell? ⟨w.heap.size, 3, none⟩ = some (.slice A n c))
    (first | exact HC.out | exact ⟨(hk 0).trans HC.out.1, (hk 1).trans HC.out.2.1, (hk 2).trans HC.out.2.2.1, (hk 3).trans HC.out.2.2.2⟩ | exact ⟨(hks 0).trans HC.out.1, (hks 1).trans HC.out.2.1, (hks 2).trans HC.out.2.2.1, (hks 3).trans HC.out.2.2.2⟩)
    (first | (go_at_call 24; refine (HO.out _ HB.out.drew).mono ?_; rintro e w1 ⟨⟨v1, rfl, hv1⟩, hb1⟩; obtain ⟨B, k, rfl, hf1, hn1⟩ := own_fl hv1 (by rw [List.length_map]; exact HTS.out); have HFL := Lib.hid (And.intro hf1 hn1); clear hv1 hf1 hn1; have hk : ∀ i, w1.cell? ⟨w.heap.size, i, none⟩ = W0.drew.cell? ⟨w.heap.size, i, none⟩ := (fun i => hb1.cell (p := ⟨w.heap.size, i, none⟩) (Nat.lt_of_succ_lt HR.out.2.2)); have y0 := (hb1.cell (p := ⟨w.heap.size + 1, 0, none⟩) HR.out.2.2).trans HR.out.2.1.1; have y1 := (hb1.cell (p := ⟨w.heap.size + 1, 1, none⟩) HR.out.2.2).trans HR.out.2.1.2.1; have y2 := (hb1.cell (p := ⟨w.heap.size + 1, 2, none⟩) HR.out.2.2).trans HR.out.2.1.2.2.1; have y3 := (hb1.cell (p := ⟨w.heap.size + 1, 3, none⟩) HR.out.2.2).trans HR.out.2.1.2.2.2; have yz := (fun i => (hb1.frozen (p := ⟨w.heap.size + 1, i, none⟩) HR.out.2.2).trans (HR.out.1 i)); have hks := four_kept (w := w1) (b := w.heap.size) (v0 := .int .i64 se) (v1 := .int .u32 sq) (v2 := .int .u32 st) (v3 := .slice B n k); have hks := (fun i => (hks i).trans (hk i))))
  have hB1 : Below w.heap.size w w1 := HB.out.drew.trans (hb1.mono HB.out.size)
  have HE := Lib.hid ((((hB1.setCell (p := ⟨w.heap.size + 1, 0, none⟩) (Nat.le_succ _) (.int .i64 se)).setCell (p := ⟨w.heap.size + 1, 1, none⟩) (Nat.le_succ _) (.int .u32 sq)).setCell (p := ⟨w.heap.size + 1, 2, none⟩) (Nat.le_succ _) (.int .u32 st)).setCell (p := ⟨w.heap.size + 1, 3, none⟩) (Nat.le_succ _) (.slice B n k))
  have hA := HFL.out.2
  have hs1 : w.heap.size + 1 < W0.drew.heap.size := HR.out.2.2
  have HA := Lib.hid (show FlAt ((((w1.setCell ⟨w.heap.size + 1, 0, none⟩ (.int .i64 se)).setCell ⟨w.heap.size + 1, 1, none⟩ (.int .u32 sq)).setCell ⟨w.heap.size + 1, 2, none⟩ (.int .u32 st)).setCell ⟨w.heap.size + 1, 3, none⟩ (.slice B n k)) B n (ts.map Int.toNat) from HFL.out.1.four (by
    rcases hA with h1 | ⟨b, h1, h2, h3⟩
    · exact .inl h1
    · exact .inr ⟨b, h1, by omega, h3⟩) 0 1 2 3 _ _ _ _)
  have HN := Lib.hid (show B = none ∨ ∃ b, B = some ⟨b, 0, none⟩ ∧ w.heap.size ≤ b ∧ b < w1.heap.size by
    rcases hA with h1 | ⟨b, h1, h2, h3⟩
    · exact .inl h1
    · exact .inr ⟨b, h1, by omega, h3⟩)
  clear hA hs1 HFL HTS
  clear hk hks yz hb1 hB1 HR HC HB HO
  go_wp2_with fail
  exact bodyPost_ret (by simp only [results, Tryz.results9]; simp [go_sem, y0, y1, y2, y3]; try rfl) rfl ⟨⟨B, k, rfl, HA.out, by simpa [World.setCell] using HN.out⟩, HE.out⟩
end Go.Proofs.YtebacmmfjadalaaGreat

namespace Go.Proofs.YtebacmmfjadalaaGreat
open Go Go.RowKit Go.WideShapes

/-- nil, or in a block from B on -/
def NewAt (w : World) (B : Nat) (A : Option Addr) : Prop := A = none ∨ ∃ b, A = some ⟨b, 0, none⟩ ∧ B ≤ b ∧ b < w.heap.size
theorem NewAt.setN {w : World} {A : Option Addr} {n B : Nat} {bs : List Nat} (h : FlAt w A n bs ∧ NewAt w B A) {p : Addr} (hp : p.block < B) (u : Value) : FlAt (w.setCell p u) A n bs ∧ NewAt (w.setCell p u) B A := by
  refine ⟨h.1.set (fun b off e => ?_) u, h.2.imp id (fun ⟨b, h1, h2, h3⟩ => ⟨b, h1, h2, by simpa [World.setCell] using h3⟩)⟩
  rcases h.2 with h1 | ⟨b', h1, h2, -⟩
  · rw [h1] at e; cases e
  · rw [h1] at e
    injection e with e
    injection e with e
    subst e
    omega
theorem NewAt.mono {w : World} {B B' : Nat} {A : Option Addr} (h : NewAt w B A) (hb : B' ≤ B) : NewAt w B' A := h.imp id (fun ⟨b, h1, h2, h3⟩ => ⟨b, h1, Nat.le_trans hb h2, h3⟩)
theorem size_alloc2 (w : World) (o o' : Obj) : ((w.alloc o).alloc o').heap.size = w.heap.size + 2 := by simp
theorem sizeF (w : World) : (Go.sizeOf 114).run Tryz.prog w = .ok 1 w := by kernel_rfl
theorem clone_fl (A : Option Addr) (n c : Nat) (bs : List Nat) (w : World) (h : FlAt w A n bs) (hl : n * 8 ≤ 140737488355328) :
    Calls Tryz.prog 59 #[.slice A n c] w fun e w' => ∃ B k, e = .returned (.slice B n k) ∧ FlAt w' B n bs ∧ NewAt w' w.heap.size B ∧ Below w.heap.size w w' := by
  rcases h.2 with ⟨rfl, rfl⟩ | ⟨b, off, rfl, h2, h3⟩
  · refine (Tryz.slices_Clone_nil 0 c w).mono ?_
    rintro e w1 ⟨rfl, rfl⟩
    exact ⟨none, 0, rfl, ⟨h.1, .inl ⟨rfl, rfl⟩⟩, .inl rfl, Below.refl _ _⟩
  · obtain ⟨i0, hi0, hz0, hz1, hz2⟩ := info_parts infoF
    refine (Tryz.slices_Clone i0 _ 1 8 hi0 hz0 hz1 hz2 rfl (by omega) sizeF b off n c (bs.map fun b => .float .f64 b) w (by rw [List.length_map, h.1, Nat.mul_one]) (by simp only [maxLen]; omega) hl (fun j u hj => ?_) (fun u hu => ?_)).mono ?_
    · have hj' := (List.getElem?_eq_some_iff.1 hj).1
      rw [List.length_map, h.1] at hj'
      rw [h3 j hj', ← hj, List.getElem?_map, List.getD_eq_getElem?_getD, List.getElem?_eq_getElem (by rw [h.1]; exact hj')]
      rfl
    · obtain ⟨y, -, rfl⟩ := List.mem_map.1 hu
      rfl
    · rintro e w1 ⟨v', rfl, hv, -, hb⟩
      obtain ⟨B, k, rfl, hf, hn⟩ := own_fl hv h.1
      exact ⟨B, k, rfl, hf, hn, hb⟩

set_option maxRecDepth 8000 in
set_option maxHeartbeats 2000000 in
theorem copied_any (at_ se sq st : Int) (A : Option Addr) (n c : Nat) (bs : List Nat) (w : World) (h : FlAt w A n bs) (hl : n * 8 ≤ 140737488355328) :
    Calls Tryz.prog 36 #[.agg #[.int .i64 at_, .int .i64 se, .int .u32 sq, .int .u32 st, .slice A n c]] w fun e w' => ∃ B k, e = .returned (.agg #[.int .i64 at_, .int .i64 se, .int .u32 sq, .int .u32 st, .slice B n k]) ∧ FlAt w' B n bs ∧ NewAt w' w.heap.size B ∧ Below w.heap.size w w' := by
  have hb := ((Below.refl w.heap.size w).alloc (Nat.le_refl _) (.cells #[.int .i64 at_, .int .i64 se, .int .u32 sq, .int .u32 st, .slice A n c] 63)).alloc (by simp) (.cells #[.int .i64 0, .int .i64 0, .int .u32 0, .int .u32 0, .slice none 0 0] 63)
  have HO := Lib.hid (fun W (hW : Below w.heap.size w W) => clone_fl A n c bs W (h.below hW) hl)
  have HB := Lib.hid hb
  clear hb h
  go_enter Tryz.func36, Tryz.ntmps36
  go_wp2_with fail
  refine (HO.out _ HB.out).mono ?_
  rintro e w1 ⟨B, k, rfl, hf, hn, hb1⟩
  have y := fun i (hi : w.heap.size + i < w.heap.size + 2) j => (hb1.cell (p := ⟨w.heap.size + i, j, none⟩) (by simp; omega))
  have yz := fun i (hi : w.heap.size + i < w.heap.size + 2) j => (hb1.frozen (p := ⟨w.heap.size + i, j, none⟩) (by simp; omega))
  have a0 := (y 0 (by omega) 0).trans (by simp [go_sem] : _ = some (.int .i64 at_))
  have a1 := (y 0 (by omega) 1).trans (by simp [go_sem] : _ = some (.int .i64 se))
  have a2 := (y 0 (by omega) 2).trans (by simp [go_sem] : _ = some (.int .u32 sq))
  have a3 := (y 0 (by omega) 3).trans (by simp [go_sem] : _ = some (.int .u32 st))
  have a4 := (y 0 (by omega) 4).trans (by simp [go_sem] : _ = some (.slice A n c))
  have b0 := (y 1 (by omega) 0).trans (by simp [go_sem] : _ = some (.int .i64 0))
  have b1 := (y 1 (by omega) 1).trans (by simp [go_sem] : _ = some (.int .i64 0))
  have b2 := (y 1 (by omega) 2).trans (by simp [go_sem] : _ = some (.int .u32 0))
  have b3 := (y 1 (by omega) 3).trans (by simp [go_sem] : _ = some (.int .u32 0))
  have b4 := (y 1 (by omega) 4).trans (by simp [go_sem] : _ = some (.slice none 0 0))
  have za := fun j => (yz 0 (by omega) j).trans (by simp [go_sem] : _ = false)
  have zb := fun j => (yz 1 (by omega) j).trans (by simp [go_sem] : _ = false)
  rw [Nat.add_zero] at a0 a1 a2 a3 a4 za
  have HB1 := Lib.hid (HB.out.trans (hb1.mono HB.out.size))
  have hsz := HB1.out.size
  have hs2 : w.heap.size + 2 ≤ w1.heap.size := by have := hb1.size; simp at this; omega
  have HF := Lib.hid (And.intro hf hn)
  clear y yz hb1 hf hn HO HB
  go_wp2_with fail
  have H0 := HF.out
  rw [size_alloc2] at H0
  have H6 := NewAt.setN (NewAt.setN (NewAt.setN (NewAt.setN (NewAt.setN (NewAt.setN H0 (p := ⟨w.heap.size, 4, none⟩) (by show w.heap.size < _; omega) (.slice B n k)) (p := ⟨w.heap.size + 1, 0, none⟩) (by show w.heap.size + 1 < _; omega) (.int .i64 at_)) (p := ⟨w.heap.size + 1, 1, none⟩) (by show w.heap.size + 1 < _; omega) (.int .i64 se)) (p := ⟨w.heap.size + 1, 2, none⟩) (by show w.heap.size + 1 < _; omega) (.int .u32 sq)) (p := ⟨w.heap.size + 1, 3, none⟩) (by show w.heap.size + 1 < _; omega) (.int .u32 st)) (p := ⟨w.heap.size + 1, 4, none⟩) (by show w.heap.size + 1 < _; omega) (.slice B n k)
  have HB6 := Lib.hid ((((((HB1.out.setCell (p := ⟨w.heap.size, 4, none⟩) (Nat.le_refl _) (.slice B n k)).setCell (p := ⟨w.heap.size + 1, 0, none⟩) (Nat.le_succ _) (.int .i64 at_)).setCell (p := ⟨w.heap.size + 1, 1, none⟩) (Nat.le_succ _) (.int .i64 se)).setCell (p := ⟨w.heap.size + 1, 2, none⟩) (Nat.le_succ _) (.int .u32 sq)).setCell (p := ⟨w.heap.size + 1, 3, none⟩) (Nat.le_succ _) (.int .u32 st)).setCell (p := ⟨w.heap.size + 1, 4, none⟩) (Nat.le_succ _) (.slice B n k))
  have HA := Lib.hid (And.intro H6.1 (H6.2.mono (B' := w.heap.size) (by omega)))
  clear H0 H6 HF HB1 za zb
  exact bodyPost_ret (by simp only [results, Tryz.results36]; simp [go_sem, b0, b1, b2, b3, b4]; try rfl) rfl ⟨B, k, rfl, HA.out.1, HA.out.2, HB6.out⟩
end Go.Proofs.YtebacmmfjadalaaGreat
