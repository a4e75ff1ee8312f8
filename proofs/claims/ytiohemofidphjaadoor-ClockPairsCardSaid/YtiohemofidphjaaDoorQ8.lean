/- Contracts of the reference's whole numbers: plus, minus, times, short. Conditions: lengths of at most 2 to the 30th words; minus: the second is not above the first; short: the divisor is above 0. -/
import Derived.Test.YtiohemofidphjaaDoorQ7
import Derived.Test.YtiohemofidphjaaDoorQ5
namespace Go.Proofs.YtiohemofidphjaaDoor.Bg
open Go Go.RowKit

/-- what a list of words offers the walk: each word's cell, under its bound -/
theorem Mag.open {w : World} {v : Value} {ws : List Nat} (h : Mag w v ws) : ∃ (A : Option Addr) (c : Nat), v = .slice A ws.length c ∧ ws.length ≤ c ∧ c ≤ 9223372036854775807 := by
  obtain ⟨A, c, h1, h2, h3, -⟩ := h
  exact ⟨A, c, h1, h2, h3⟩
theorem Mag.at {w : World} {A : Option Addr} {n c : Nat} {ws : List Nat} (h : Mag w (.slice A n c) ws) {j : Nat} (hj : j < n) :
    ∃ b off, A = some ⟨b, off, none⟩ ∧ b < w.heap.size ∧ w.cell? ⟨b, off + j, none⟩ = some (.int .u32 (ws.getD j 0 : Nat)) := by
  obtain ⟨A', c', h1, -, -, -, h5⟩ := h
  injection h1 with h1 h2 _
  subst h1 h2
  obtain ⟨b, off, e, hb, hc⟩ := h5 (by omega)
  exact ⟨b, off, e, hb, hc j hj⟩
theorem Mag.len {w : World} {A : Option Addr} {n c : Nat} {ws : List Nat} (h : Mag w (.slice A n c) ws) : n = ws.length := by
  obtain ⟨A', c', h1, -⟩ := h
  injection h1 with _ h1 _

theorem blk_end {w : World} {g k y : Nat} {ws : List Nat} {x : Int} (h : Blk w g ws) (hx : x = (y : Int)) : Blk (w.setCell ⟨g, k, none⟩ (.int .u32 x)) g (ws.set k y) := by
  rw [hx]; exact h.set k y

def PlusSt (w : World) (g n : Nat) (a b : List Nat) (i c : Nat) (wr : World) : Prop :=
  ∃ os, Blk wr g os ∧ os.length = n + 1 ∧ W32 os ∧ SumSt a b os i c ∧ Below g w wr

set_option maxHeartbeats 2000000 in
theorem plus_core (A B : Option Addr) (n m ca cb : Nat) (a b : List Nat) (w : World) (ha : Mag w (.slice A n ca) a) (hb : Mag w (.slice B m cb) b) (hl : n ≤ 1073741824) (hm : m ≤ 1073741824) :
    Calls Tryd.prog 57 #[.slice A n ca, .slice B m cb] w fun e w' => ∃ v L, e = .returned v ∧ MagN w' v (val a + val b) L ∧ L ≤ n + m + 1 ∧ L ≤ (max n m) + 1 ∧ Below w.heap.size w w' := by
  have hla := ha.len
  have hlb := hb.len
  have HA := Lib.hid ha
  have HB := Lib.hid hb
  have HL := Lib.hid (And.intro hla hlb)
  have hmk := fun (k : Nat) (h : k ≤ 1073741825) => run_make_row' (P := Tryd.prog) 66 73 (.int .u32 0) 4 Tryd.underlying66 infoW rfl .i64 .i64 k (by omega) (by omega)
  clear ha hb hla hlb
  by_cases c : n < m
  · have hmk1 := hmk (m + 1) (by omega)
    rw [show (((m + 1 : Nat)) : Int) = (m : Int) + 1 from by omega] at hmk1
    clear hmk
    go_enter Tryd.func57, Tryd.ntmps57
    go_wp2_with fail
    clear hmk1
    have H0 := Lib.hid (show PlusSt w w.heap.size m b a 0 0 (w.alloc (.cells (madeCells #[.int .u32 0] (m + 1)) 73)) from ⟨_, Blk.made w (m + 1), by simp, W32.rep _, by simp [SumSt, val], (Below.refl _ _).alloc (Nat.le_refl _) _⟩)
    go_loopw [7, 8] (fun cy i wr => ∃ k cc : Nat, k ≤ m ∧ i = .int .i64 k ∧ cy = .int .u64 cc ∧ cc ≤ 1 ∧ Hid (PlusSt w w.heap.size m b a k cc wr)) (fun _ i _ => m - (intOf i).toNat)
    case atStart => exact ⟨0, 0, Nat.zero_le _, rfl, rfl, by omega, H0⟩
    case round =>
      obtain ⟨k, cc, hk, rfl, rfl, hcc, hp⟩ := hrel
      by_cases hlt : k < m
      · obtain ⟨os, hbk, hlen, hw, hst, hbel⟩ := hp.out
        have HO := Lib.hid (And.intro hbk (And.intro hlen (And.intro hw (And.intro hst hbel))))
        have hfr : wr.frozen? ⟨w.heap.size, k, none⟩ = false := hbk.frozen k
        obtain ⟨o, ho⟩ : ∃ o, os.getD k 0 = o := ⟨_, rfl⟩
        have hco : wr.cell? ⟨w.heap.size, k, none⟩ = some (.int .u32 (o : Nat)) := by rw [← ho]; exact hbk.cell (by omega)
        obtain ⟨b1, o1, e1, hb1, hc1⟩ := HB.out.at hlt
        subst e1
        have hx := (hbel.cell (p := ⟨b1, o1 + k, none⟩) hb1).trans hc1
        obtain ⟨x, ex⟩ : ∃ x, b.getD k 0 = x := ⟨_, rfl⟩
        have wx := HB.out.w32.get k
        rw [ex] at hx wx
        have EX := Lib.hid ex
        clear hbk hlen hw hst hbel hc1 ex ho hb1
        by_cases hlt2 : k < n
        · obtain ⟨b2, o2, e2, hb2, hc2⟩ := HA.out.at hlt2
          subst e2
          have hbel := HO.out.2.2.2.2
          have hy := (hbel.cell (p := ⟨b2, o2 + k, none⟩) hb2).trans hc2
          obtain ⟨y, ey⟩ : ∃ y, a.getD k 0 = y := ⟨_, rfl⟩
          have wy := HA.out.w32.get k
          rw [ey] at hy wy
          have EY := Lib.hid ey
          clear hbel hc2 ey hb2
          go_wp2_with fail
          go_roundw
          case rel => exact ⟨k + 1, (x + cc + y) / 4294967296, by omega, by go_num, int_eq (by omega), by omega, os.set k ((x + cc + y) % 4294967296), blk_end HO.out.1 (by omega), by rw [List.length_set]; exact HO.out.2.1, HO.out.2.2.1.set (by omega), sum_step HO.out.2.2.2.1 (by have := HO.out.2.1; omega) (by rw [EX.out, EY.out]), HO.out.2.2.2.2.setCell (p := ⟨w.heap.size, k, none⟩) (Nat.le_refl _) _⟩
          case measure => simp [intOf]; omega
        · have hy0 : a.getD k 0 = 0 := by rw [List.getD_eq_getElem?_getD, List.getElem?_eq_none (by have := HL.out.1; omega)]; rfl
          have EY := Lib.hid hy0
          clear hy0
          go_wp2_with fail
          go_roundw
          case rel => exact ⟨k + 1, (x + cc) / 4294967296, by omega, by go_num, int_eq (by omega), by omega, os.set k ((x + cc) % 4294967296), blk_end HO.out.1 (by omega), by rw [List.length_set]; exact HO.out.2.1, HO.out.2.2.1.set (by omega), sum_step HO.out.2.2.2.1 (by have := HO.out.2.1; omega) (by rw [EX.out, EY.out]; omega), HO.out.2.2.2.2.setCell (p := ⟨w.heap.size, k, none⟩) (Nat.le_refl _) _⟩
          case measure => simp [intOf]; omega
      · obtain rfl : k = m := by omega
        obtain ⟨os, hbk, hlen, hw, hst, hbel⟩ := hp.out
        have HO := Lib.hid (And.intro hbk (And.intro hlen (And.intro hw (And.intro hst hbel))))
        have hfr : wr.frozen? ⟨w.heap.size, k, none⟩ = false := hbk.frozen k
        obtain ⟨o, ho⟩ : ∃ o, os.getD k 0 = o := ⟨_, rfl⟩
        have hco : wr.cell? ⟨w.heap.size, k, none⟩ = some (.int .u32 (o : Nat)) := by rw [← ho]; exact hbk.cell (by omega)
        clear hbk hlen hw hst hbel ho
        go_wp2_with fail
        have hms := ((blk_end (k := k) (y := cc) HO.out.1 rfl).mag (HO.out.2.2.1.set (by omega)) (by rw [List.length_set, HO.out.2.1]; omega))
        rw [List.length_set, HO.out.2.1] at hms
        refine (cut_any _ _ _ hms).mono ?_
        rintro e w2 ⟨A2, k2, c2, -, rfl, hm2, rfl⟩
        rw [sum_end HO.out.2.2.2.1 (by have := HL.out.2; omega) (by have := HL.out.1; omega) HO.out.2.1] at hm2
        have HF := Lib.hid (show MagN _ _ _ (k + 1) from hm2.more (by rw [List.length_set, HO.out.2.1]; omega))
        clear hm2 hms
        go_wp2_with fail
        go_ret
        exact ⟨_, k + 1, rfl, (by have h9 := HF.out; rw [Nat.add_comm (val b) (val a)] at h9; exact h9), by omega, by omega, HO.out.2.2.2.2.setCell (p := ⟨w.heap.size, k, none⟩) (Nat.le_refl _) _⟩
  · have hmk1 := hmk (n + 1) (by omega)
    rw [show (((n + 1 : Nat)) : Int) = (n : Int) + 1 from by omega] at hmk1
    clear hmk
    go_enter Tryd.func57, Tryd.ntmps57
    go_wp2_with fail
    clear hmk1
    have H0 := Lib.hid (show PlusSt w w.heap.size n a b 0 0 (w.alloc (.cells (madeCells #[.int .u32 0] (n + 1)) 73)) from ⟨_, Blk.made w (n + 1), by simp, W32.rep _, by simp [SumSt, val], (Below.refl _ _).alloc (Nat.le_refl _) _⟩)
    go_loopw [7, 8] (fun cy i wr => ∃ k cc : Nat, k ≤ n ∧ i = .int .i64 k ∧ cy = .int .u64 cc ∧ cc ≤ 1 ∧ Hid (PlusSt w w.heap.size n a b k cc wr)) (fun _ i _ => n - (intOf i).toNat)
    case atStart => exact ⟨0, 0, Nat.zero_le _, rfl, rfl, by omega, H0⟩
    case round =>
      obtain ⟨k, cc, hk, rfl, rfl, hcc, hp⟩ := hrel
      by_cases hlt : k < n
      · obtain ⟨os, hbk, hlen, hw, hst, hbel⟩ := hp.out
        have HO := Lib.hid (And.intro hbk (And.intro hlen (And.intro hw (And.intro hst hbel))))
        have hfr : wr.frozen? ⟨w.heap.size, k, none⟩ = false := hbk.frozen k
        obtain ⟨o, ho⟩ : ∃ o, os.getD k 0 = o := ⟨_, rfl⟩
        have hco : wr.cell? ⟨w.heap.size, k, none⟩ = some (.int .u32 (o : Nat)) := by rw [← ho]; exact hbk.cell (by omega)
        obtain ⟨b1, o1, e1, hb1, hc1⟩ := HA.out.at hlt
        subst e1
        have hx := (hbel.cell (p := ⟨b1, o1 + k, none⟩) hb1).trans hc1
        obtain ⟨x, ex⟩ : ∃ x, a.getD k 0 = x := ⟨_, rfl⟩
        have wx := HA.out.w32.get k
        rw [ex] at hx wx
        have EX := Lib.hid ex
        clear hbk hlen hw hst hbel hc1 ex ho hb1
        by_cases hlt2 : k < m
        · obtain ⟨b2, o2, e2, hb2, hc2⟩ := HB.out.at hlt2
          subst e2
          have hbel := HO.out.2.2.2.2
          have hy := (hbel.cell (p := ⟨b2, o2 + k, none⟩) hb2).trans hc2
          obtain ⟨y, ey⟩ : ∃ y, b.getD k 0 = y := ⟨_, rfl⟩
          have wy := HB.out.w32.get k
          rw [ey] at hy wy
          have EY := Lib.hid ey
          clear hbel hc2 ey hb2
          go_wp2_with fail
          go_roundw
          case rel => exact ⟨k + 1, (x + cc + y) / 4294967296, by omega, by go_num, int_eq (by omega), by omega, os.set k ((x + cc + y) % 4294967296), blk_end HO.out.1 (by omega), by rw [List.length_set]; exact HO.out.2.1, HO.out.2.2.1.set (by omega), sum_step HO.out.2.2.2.1 (by have := HO.out.2.1; omega) (by rw [EX.out, EY.out]), HO.out.2.2.2.2.setCell (p := ⟨w.heap.size, k, none⟩) (Nat.le_refl _) _⟩
          case measure => simp [intOf]; omega
        · have hy0 : b.getD k 0 = 0 := by rw [List.getD_eq_getElem?_getD, List.getElem?_eq_none (by have := HL.out.2; omega)]; rfl
          have EY := Lib.hid hy0
          clear hy0
          go_wp2_with fail
          go_roundw
          case rel => exact ⟨k + 1, (x + cc) / 4294967296, by omega, by go_num, int_eq (by omega), by omega, os.set k ((x + cc) % 4294967296), blk_end HO.out.1 (by omega), by rw [List.length_set]; exact HO.out.2.1, HO.out.2.2.1.set (by omega), sum_step HO.out.2.2.2.1 (by have := HO.out.2.1; omega) (by rw [EX.out, EY.out]; omega), HO.out.2.2.2.2.setCell (p := ⟨w.heap.size, k, none⟩) (Nat.le_refl _) _⟩
          case measure => simp [intOf]; omega
      · obtain rfl : k = n := by omega
        obtain ⟨os, hbk, hlen, hw, hst, hbel⟩ := hp.out
        have HO := Lib.hid (And.intro hbk (And.intro hlen (And.intro hw (And.intro hst hbel))))
        have hfr : wr.frozen? ⟨w.heap.size, k, none⟩ = false := hbk.frozen k
        obtain ⟨o, ho⟩ : ∃ o, os.getD k 0 = o := ⟨_, rfl⟩
        have hco : wr.cell? ⟨w.heap.size, k, none⟩ = some (.int .u32 (o : Nat)) := by rw [← ho]; exact hbk.cell (by omega)
        clear hbk hlen hw hst hbel ho
        go_wp2_with fail
        have hms := ((blk_end (k := k) (y := cc) HO.out.1 rfl).mag (HO.out.2.2.1.set (by omega)) (by rw [List.length_set, HO.out.2.1]; omega))
        rw [List.length_set, HO.out.2.1] at hms
        refine (cut_any _ _ _ hms).mono ?_
        rintro e w2 ⟨A2, k2, c2, -, rfl, hm2, rfl⟩
        rw [sum_end HO.out.2.2.2.1 (by have := HL.out.1; omega) (by have := HL.out.2; omega) HO.out.2.1] at hm2
        have HF := Lib.hid (show MagN _ _ _ (k + 1) from hm2.more (by rw [List.length_set, HO.out.2.1]; omega))
        clear hm2 hms
        go_wp2_with fail
        go_ret
        exact ⟨_, k + 1, rfl, HF.out, by omega, by omega, HO.out.2.2.2.2.setCell (p := ⟨w.heap.size, k, none⟩) (Nat.le_refl _) _⟩

/-- plus: of two magnitudes -/
theorem plus_any (u v : Value) (m n L : Nat) (w : World) (hu : MagN w u m L) (hv : MagN w v n L) (hL : L ≤ 1073741824) :
    Calls Tryd.prog 57 #[u, v] w fun e w' => ∃ x, e = .returned x ∧ MagN w' x (m + n) (L + 1) ∧ Below w.heap.size w w' := by
  obtain ⟨a, h1, h2, rfl, h4⟩ := hu
  obtain ⟨b, g1, g2, rfl, g4⟩ := hv
  have h1' := h1
  have g1' := g1
  obtain ⟨A, ca, rfl, -⟩ := h1
  obtain ⟨B, cb, rfl, -⟩ := g1
  exact (plus_core A B a.length b.length ca cb a b w h1' g1' (by omega) (by omega)).mono fun e w' ⟨x, L', he, hx, _, hL', hb⟩ => ⟨x, he, hx.more (by omega), hb⟩
end Go.Proofs.YtiohemofidphjaaDoor.Bg
