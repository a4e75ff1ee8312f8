/- Contracts of the reference's whole numbers: minus, short. Conditions: lengths of at most 2 to the 30th words; minus: the second is not above the first; short: the divisor is above 0. -/
import Derived.Test.YtiohemofidphjaaDoorQ8
namespace Go.Proofs.YtiohemofidphjaaDoor.Bg
open Go Go.RowKit

def MinusSt (w : World) (g n : Nat) (a b : List Nat) (i c : Nat) (wr : World) : Prop :=
  ∃ os, Blk wr g os ∧ os.length = n ∧ W32 os ∧ DifSt a b os i c ∧ Below g w wr

set_option maxHeartbeats 2000000 in
theorem minus_core (A B : Option Addr) (n m ca cb : Nat) (a b : List Nat) (w : World) (ha : Mag w (.slice A n ca) a) (hb : Mag w (.slice B m cb) b) (hl : n ≤ 1073741824) (hm : m ≤ n) (hle : val b ≤ val a) :
    Calls Tryd.prog 62 #[.slice A n ca, .slice B m cb] w fun e w' => ∃ v, e = .returned v ∧ MagN w' v (val a - val b) n ∧ Below w.heap.size w w' := by
  have hla := ha.len
  have hlb := hb.len
  have HA := Lib.hid ha
  have HB := Lib.hid hb
  have HL := Lib.hid (And.intro hla hlb)
  have HLE := Lib.hid hle
  have hmk := run_make_row' (P := Tryd.prog) 66 73 (.int .u32 0) 4 Tryd.underlying66 infoW rfl .i64 .i64 n (by omega) (by omega)
  clear ha hb hla hlb hle
  go_enter Tryd.func62, Tryd.ntmps62
  go_wp2_with fail
  clear hmk
  have H0 := Lib.hid (show MinusSt w w.heap.size n a b 0 0 (w.alloc (.cells (madeCells #[.int .u32 0] n) 73)) from ⟨_, Blk.made w n, by simp, W32.rep _, by simp [DifSt, val], (Below.refl _ _).alloc (Nat.le_refl _) _⟩)
  go_loopw [6, 7] (fun cy i wr => ∃ k cc : Nat, k ≤ n ∧ i = .int .i64 k ∧ cy = .int .u64 cc ∧ cc ≤ 1 ∧ Hid (MinusSt w w.heap.size n a b k cc wr)) (fun _ i _ => n - (intOf i).toNat)
  case atStart => exact ⟨0, 0, Nat.zero_le _, rfl, rfl, by omega, H0⟩
  case round =>
    obtain ⟨k, cc, hk, rfl, rfl, hcc, hp⟩ := hrel
    by_cases hlt : k < n
    · obtain ⟨os, hbk, hlen, hw, hst, hbel⟩ := hp.out
      have HO := Lib.hid (And.intro hbk (And.intro hlen (And.intro hw (And.intro hst hbel))))
      have hfr : wr.frozen? ⟨w.heap.size, k, none⟩ = false := hbk.frozen k
      obtain ⟨o, ho⟩ : ∃ o, os.getD k 0 = o := ⟨_, rfl⟩
      have hco : wr.cell? ⟨w.heap.size, k, none⟩ = some (.int .u32 (o : Nat)) := by rw [← ho]; exact hbk.cell (by omega)
      obtain ⟨b1, o1, e1, hb1, hc1⟩ := HA.out.at hlt
      subst e1
      have hx := (hbel.cell (p := ⟨b1, o1 + k, none⟩) hb1).trans hc1
      obtain ⟨x, ex⟩ : ∃ x, a.getD k 0 = x := ⟨_, rfl⟩
      have wx := HA.out.w32.get k
      rw [ex] at hx wx
      have EX := Lib.hid ex
      clear hbk hlen hw hst hc1 ex ho hb1
      by_cases hlt2 : k < m
      · obtain ⟨b2, o2, e2, hb2, hc2⟩ := HB.out.at hlt2
        subst e2
        have hy := (hbel.cell (p := ⟨b2, o2 + k, none⟩) hb2).trans hc2
        obtain ⟨y, ey⟩ : ∃ y, b.getD k 0 = y := ⟨_, rfl⟩
        have wy := HB.out.w32.get k
        rw [ey] at hy wy
        have EY := Lib.hid ey
        clear hbel hc2 ey hb2
        by_cases hxy : x < cc + y
        · go_wp2_with fail
          go_roundw
          case rel => exact ⟨k + 1, 1, by omega, by go_num, rfl, by omega, os.set k (x + 4294967296 - (cc + y)), blk_end HO.out.1 (by omega), by rw [List.length_set]; exact HO.out.2.1, HO.out.2.2.1.set (by omega), by have h9 := dif_yes HO.out.2.2.2.1 (by have := HO.out.2.1; omega) (by rw [EX.out, EY.out]; exact hxy) (by rw [EX.out, EY.out]; omega); rwa [EX.out, EY.out] at h9, HO.out.2.2.2.2.setCell (p := ⟨w.heap.size, k, none⟩) (Nat.le_refl _) _⟩
          case measure => simp [intOf]; omega
        · go_wp2_with fail
          go_roundw
          case rel => exact ⟨k + 1, 0, by omega, by go_num, rfl, by omega, os.set k (x - (cc + y)), blk_end HO.out.1 (by omega), by rw [List.length_set]; exact HO.out.2.1, HO.out.2.2.1.set (by omega), by have h9 := dif_no HO.out.2.2.2.1 (by have := HO.out.2.1; omega) (by rw [EX.out, EY.out]; omega); rwa [EX.out, EY.out] at h9, HO.out.2.2.2.2.setCell (p := ⟨w.heap.size, k, none⟩) (Nat.le_refl _) _⟩
          case measure => simp [intOf]; omega
      · have hy0 : b.getD k 0 = 0 := by rw [List.getD_eq_getElem?_getD, List.getElem?_eq_none (by have := HL.out.2; omega)]; rfl
        have EY := Lib.hid hy0
        clear hy0 hbel
        by_cases hxy : x < cc
        · go_wp2_with fail
          go_roundw
          case rel => exact ⟨k + 1, 1, by omega, by go_num, rfl, by omega, os.set k (x + 4294967296 - (cc + 0)), blk_end HO.out.1 (by omega), by rw [List.length_set]; exact HO.out.2.1, HO.out.2.2.1.set (by omega), by have h9 := dif_yes HO.out.2.2.2.1 (by have := HO.out.2.1; omega) (by rw [EX.out, EY.out]; exact hxy) (by rw [EX.out, EY.out]; omega); rwa [EX.out, EY.out] at h9, HO.out.2.2.2.2.setCell (p := ⟨w.heap.size, k, none⟩) (Nat.le_refl _) _⟩
          case measure => simp [intOf]; omega
        · go_wp2_with fail
          go_roundw
          case rel => exact ⟨k + 1, 0, by omega, by go_num, rfl, by omega, os.set k (x - (cc + 0)), blk_end HO.out.1 (by omega), by rw [List.length_set]; exact HO.out.2.1, HO.out.2.2.1.set (by omega), by have h9 := dif_no HO.out.2.2.2.1 (by have := HO.out.2.1; omega) (by rw [EX.out, EY.out]; omega); rwa [EX.out, EY.out] at h9, HO.out.2.2.2.2.setCell (p := ⟨w.heap.size, k, none⟩) (Nat.le_refl _) _⟩
          case measure => simp [intOf]; omega
    · obtain rfl : k = n := by omega
      obtain ⟨os, hbk, hlen, hw, hst, hbel⟩ := hp.out
      have HO := Lib.hid (And.intro hbk (And.intro hlen (And.intro hw (And.intro hst hbel))))
      clear hbk hlen hw hst hbel
      go_wp2_with fail
      have hms := HO.out.1.mag HO.out.2.2.1 (by rw [HO.out.2.1]; omega)
      rw [HO.out.2.1] at hms
      refine (cut_any _ _ _ hms).mono ?_
      rintro e w2 ⟨A2, k2, c2, -, rfl, hm2, rfl⟩
      rw [dif_end HO.out.2.2.2.1 (by have := HL.out; omega) (by have := HL.out; omega) HO.out.2.1 HO.out.2.2.1 HLE.out, HO.out.2.1] at hm2
      have HF := Lib.hid hm2
      clear hm2 hms
      go_wp2_with fail
      go_ret
      exact ⟨_, rfl, HF.out, HO.out.2.2.2.2⟩

/-- minus: of two magnitudes, the second not above the first -/
theorem minus_any (u v : Value) (m n L L' : Nat) (w : World) (hu : MagN w u m L) (hv : MagN w v n L') (hL : L ≤ 1073741824) (hle : n ≤ m) :
    Calls Tryd.prog 62 #[u, v] w fun e w' => ∃ x, e = .returned x ∧ MagN w' x (m - n) L ∧ Below w.heap.size w w' := by
  obtain ⟨a, h1, h2, rfl, h4⟩ := hu
  obtain ⟨b, g1, g2, rfl, g4⟩ := hv
  have hlen : b.length ≤ a.length := by
    refine Nat.not_lt.1 fun hlt => ?_
    have := norm_len_lt h1.w32 g2 hlt
    omega
  have h1' := h1
  have g1' := g1
  obtain ⟨A, ca, rfl, -⟩ := h1
  obtain ⟨B, cb, rfl, -⟩ := g1
  exact (minus_core A B a.length b.length ca cb a b w h1' g1' (by omega) hlen hle).mono fun e w' ⟨x, he, hx, hb⟩ => ⟨x, he, hx.more (by omega), hb⟩

theorem or_high {r d x : Nat} (hr : r < d) (hd : d < 4294967296) (hx : x < 4294967296) : bits .or .u64 ((r : Int) * 4294967296) (x : Int) = (r : Int) * 4294967296 + (x : Int) := by
  have e : ((r : Int) * 4294967296) = ((r * 4294967296 : Nat) : Int) := by omega
  rw [e, u64_or_nat _ x (by omega) (by omega)]
  rw [show r * 4294967296 = r <<< 32 by rw [Nat.shiftLeft_eq], ← Nat.shiftLeft_add_eq_or_of_lt (by omega : x < 2 ^ 32), Nat.shiftLeft_eq]
  omega
theorem short_step {m os : List Nat} {d k r t x q r' : Nat} (hk : ¬ k = 0) (hm : k ≤ m.length) (ho : k ≤ os.length) (hd : 0 < d) (h : QuoSt m os d k r) (hx : m.getD (k - 1) 0 = x) (ht : r * 4294967296 + x = t) (hq : t / d = q) (hr : t % d = r') :
    QuoSt m (os.set (k - 1) q) d (k - 1) r' := by
  subst hq hr ht hx
  exact quo_step (i := k - 1) (by rw [show k - 1 + 1 = k by omega]; exact h) (by omega) (by omega) hd rfl

def ShortSt (w : World) (g n : Nat) (m : List Nat) (d i r : Nat) (wr : World) : Prop :=
  ∃ os, Blk wr g os ∧ os.length = n ∧ W32 os ∧ QuoSt m os d i r ∧ Below g w wr

set_option maxHeartbeats 2000000 in
theorem short_core (A : Option Addr) (n ca d : Nat) (m : List Nat) (w : World) (hm : Mag w (.slice A n ca) m) (hl : n ≤ 1073741824) (hd : 0 < d) (hd' : d < 4294967296) :
    Calls Tryd.prog 67 #[.slice A n ca, .int .u32 d] w fun e w' => ∃ v, e = .returned (.tuple #[v, .int .u32 (val m % d : Nat)]) ∧ MagN w' v (val m / d) n ∧ Below w.heap.size w w' := by
  have hla := hm.len
  have HA := Lib.hid hm
  have HL := Lib.hid hla
  have hmk := run_make_row' (P := Tryd.prog) 66 73 (.int .u32 0) 4 Tryd.underlying66 infoW rfl .i64 .i64 n (by omega) (by omega)
  clear hm hla
  have hd1 : (1 : Int) ≤ (d : Int) := by omega
  have hd0 : ¬ (d : Int) = 0 := by omega
  go_enter Tryd.func67, Tryd.ntmps67
  go_wp2_with fail
  clear hmk
  have H0 := Lib.hid (show ShortSt w w.heap.size n m d n 0 (w.alloc (.cells (madeCells #[.int .u32 0] n) 73)) from ⟨_, Blk.made w n, by simp, W32.rep _, quo_start m d n (by have := HL.out; omega) hd, (Below.refl _ _).alloc (Nat.le_refl _) _⟩)
  go_loopw [7, 8] (fun r i wr => ∃ k rr : Nat, k ≤ n ∧ i = .int .i64 ((k : Int) - 1) ∧ r = .int .u64 rr ∧ rr < d ∧ Hid (ShortSt w w.heap.size n m d k rr wr)) (fun _ i _ => (intOf i + 1).toNat)
  case atStart => exact ⟨n, 0, Nat.le_refl _, rfl, rfl, hd, H0⟩
  case round =>
    obtain ⟨k, rr, hk, rfl, rfl, hrr, hp⟩ := hrel
    obtain ⟨os, hbk, hlen, hw, hst, hbel⟩ := hp.out
    have HO := Lib.hid (And.intro hbk (And.intro hlen (And.intro hw (And.intro hst hbel))))
    by_cases hlt : k = 0
    · subst hlt
      clear hbk hlen hw hst hbel
      go_wp2_with fail
      have hms := HO.out.1.mag HO.out.2.2.1 (by rw [HO.out.2.1]; omega)
      rw [HO.out.2.1] at hms
      refine (cut_any _ _ _ hms).mono ?_
      rintro e w2 ⟨A2, k2, c2, -, rfl, hm2, rfl⟩
      have hq := quo_end HO.out.2.2.2.1 hd
      rw [hq.1, HO.out.2.1] at hm2
      have HF := Lib.hid (And.intro hm2 hq.2)
      clear hm2 hms hq
      go_wp2_with fail
      go_ret2
      exact ⟨_, congrArg (fun z => Ending.returned (.tuple #[Value.slice A2 k2 c2, z])) (int_eq (by rw [← HF.out.2])), HF.out.1, HO.out.2.2.2.2⟩
    · have hfr : wr.frozen? ⟨w.heap.size, k - 1, none⟩ = false := hbk.frozen (k - 1)
      obtain ⟨o, ho⟩ : ∃ o, os.getD (k - 1) 0 = o := ⟨_, rfl⟩
      have hco : wr.cell? ⟨w.heap.size, k - 1, none⟩ = some (.int .u32 (o : Nat)) := by rw [← ho]; exact hbk.cell (by omega)
      obtain ⟨b1, o1, e1, hb1, hc1⟩ := HA.out.at (j := k - 1) (by omega)
      subst e1
      have hx := (hbel.cell (p := ⟨b1, o1 + (k - 1), none⟩) hb1).trans hc1
      obtain ⟨x, ex⟩ : ∃ x, m.getD (k - 1) 0 = x := ⟨_, rfl⟩
      have wx := HA.out.w32.get (k - 1)
      rw [ex] at hx wx
      have EX := Lib.hid ex
      clear hbk hlen hw hst hc1 ex ho hb1 hbel
      have hk0 : (0 : Int) ≤ (k : Int) - 1 := by omega
      have hkn : (k : Int) - 1 < (n : Int) := by omega
      have hix : ((k : Int) - 1).toNat = k - 1 := by omega
      obtain ⟨t, ht⟩ : ∃ t : Nat, rr * 4294967296 + x = t := ⟨_, rfl⟩
      have hor : bits .or .u64 ((rr : Int) * 4294967296) (x : Int) = (t : Int) := by rw [or_high hrr hd' wx, ← ht]; omega
      obtain ⟨t1, t2⟩ := quo_word hrr hd' wx
      rw [ht] at t1 t2
      obtain ⟨q, hq⟩ : ∃ q : Nat, t / d = q := ⟨_, rfl⟩
      obtain ⟨r, hr⟩ : ∃ r : Nat, t % d = r := ⟨_, rfl⟩
      have hqi : (t : Int) / (d : Int) = (q : Int) := by rw [← hq]; rfl
      have hri : (t : Int) % (d : Int) = (r : Int) := by rw [← hr]; rfl
      have hrd : r < d := by rw [← hr]; exact Nat.mod_lt _ hd
      rw [hq] at t2
      have HT := Lib.hid (And.intro ht (And.intro hq hr))
      clear ht hq hr
      go_wp2_with fail
      go_roundw
      case rel => exact ⟨k - 1, r, by omega, int_eq (by omega), int_eq hri, hrd, os.set (k - 1) q, blk_end HO.out.1 rfl, by rw [List.length_set]; exact HO.out.2.1, HO.out.2.2.1.set t2, short_step hlt (by have := HL.out; omega) (by have := HO.out.2.1; omega) hd HO.out.2.2.2.1 EX.out HT.out.1 HT.out.2.1 HT.out.2.2, HO.out.2.2.2.2.setCell (p := ⟨w.heap.size, k - 1, none⟩) (Nat.le_refl _) _⟩
      case measure => simp [intOf]; omega
end Go.Proofs.YtiohemofidphjaaDoor.Bg
