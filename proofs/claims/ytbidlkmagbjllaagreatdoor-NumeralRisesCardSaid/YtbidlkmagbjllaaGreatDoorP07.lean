/- Y6 Y8 Q9 Q10 in one text. -/
import Derived.Test.YtbidlkmagbjllaaGreatDoorP05
import Derived.Test.YtbidlkmagbjllaaGreatDoorP06
import Derived.Shelf.Spec.BitsCarry

namespace Go.Proofs.YtbidlkmagbjllaaGreatDoor.Nb
open Go Go.RowKit

theorem add_run (x y c : Nat) (hc : c ≤ 1) (w : World) : (callFunc 197 #[.int .u64 (x : Int), .int .u64 (y : Int), .int .u64 (c : Int)]).run Tryz.prog w =
    .ok (.value (.tuple #[.int .u64 (((x + y + c) % 18446744073709551616 : Nat) : Int), .int .u64 (((x + y + c) / 18446744073709551616 : Nat) : Int)])) w := by
  rw [run_callFunc_extern Tryz.func197 (by kernel_rfl) (by kernel_rfl) (by kernel_rfl) (e := add64Entry) (by kernel_rfl), run_add64 (x : Int) (y : Int) (c : Int) (by omega) (by omega) (by omega) (by omega)]
  simp only [Result.andThen]
  congr 5 <;> omega
theorem add_run0 (x y : Nat) (w : World) : (callFunc 197 #[.int .u64 (x : Int), .int .u64 (y : Int), .int .u64 0]).run Tryz.prog w =
    .ok (.value (.tuple #[.int .u64 (((x + y) % 18446744073709551616 : Nat) : Int), .int .u64 (((x + y) / 18446744073709551616 : Nat) : Int)])) w := add_run x y 0 (by omega) w
theorem sub_run (x y b : Nat) (hb : b ≤ 1) (w : World) : (callFunc 196 #[.int .u64 (x : Int), .int .u64 (y : Int), .int .u64 (b : Int)]).run Tryz.prog w =
    .ok (.value (.tuple #[.int .u64 (((x + 18446744073709551616 - y - b) % 18446744073709551616 : Nat) : Int), .int .u64 ((if x < y + b then 1 else 0 : Nat) : Int)])) w := by
  rw [run_callFunc_extern Tryz.func196 (by kernel_rfl) (by kernel_rfl) (by kernel_rfl) (e := sub64Entry) (by kernel_rfl), run_sub64 x y b hb]
  rfl
set_option maxRecDepth 8000 in
set_option maxHeartbeats 1000000 in
theorem fold_any (a b c d : Nat) (w : World) (ha : a < 18446744073709551616) (hb : b < 18446744073709551616) (hc : c < 18446744073709551616) (hd : d < 18446744073709551616) :
    Calls Tryz.prog 179 #[.int .u64 (a : Int), .int .u64 (b : Int), .int .u64 (c : Int), .int .u64 (d : Int)] w fun e w' => e = .returned (.tuple #[.int .u64 (((a * b + c + d) / 18446744073709551616 : Nat) : Int), .int .u64 (((a * b + c + d) % 18446744073709551616 : Nat) : Int)]) ∧ w' = w := by
  have hM := Tryz.bits_Mul64 a b ha hb w
  have hp : a * b ≤ 18446744073709551615 * 18446744073709551615 := Nat.mul_le_mul (by omega) (by omega)
  obtain ⟨p, hpe⟩ : ∃ p, a * b = p := ⟨_, rfl⟩
  rw [hpe] at hM hp ⊢
  obtain ⟨hi, hhi⟩ : ∃ h, p / 18446744073709551616 = h := ⟨_, rfl⟩
  obtain ⟨lo, hlo⟩ : ∃ l, p % 18446744073709551616 = l := ⟨_, rfl⟩
  rw [hhi, hlo] at hM
  have h1 := add_run0 lo c
  obtain ⟨l2, hl2⟩ : ∃ l, (lo + c) % 18446744073709551616 = l := ⟨_, rfl⟩
  obtain ⟨c2, hc2⟩ : ∃ l, (lo + c) / 18446744073709551616 = l := ⟨_, rfl⟩
  rw [hl2, hc2] at h1
  have h2 := add_run0 l2 d
  obtain ⟨l3, hl3⟩ : ∃ l, (l2 + d) % 18446744073709551616 = l := ⟨_, rfl⟩
  obtain ⟨c3, hc3⟩ : ∃ l, (l2 + d) / 18446744073709551616 = l := ⟨_, rfl⟩
  rw [hl3, hc3] at h2
  have e1 : (p + c + d) / 18446744073709551616 = hi + c2 + c3 := by omega
  have e2 : (p + c + d) % 18446744073709551616 = l3 := by omega
  have b1 : hi + c2 + c3 < 18446744073709551616 := by omega
  rw [e1, e2]
  have w1 : IntKind.u64.wrap ((hi : Int) + (c2 : Int)) = (hi : Int) + (c2 : Int) := IntWalk.u64_in _ ⟨by omega, by omega⟩
  have w2 : IntKind.u64.wrap ((hi : Int) + (c2 : Int) + (c3 : Int)) = (hi : Int) + (c2 : Int) + (c3 : Int) := IntWalk.u64_in _ ⟨by omega, by omega⟩
  have HM := Lib.hid hM
  clear hM hp hpe hhi hlo hl2 hc2 hl3 hc3 e1 e2 ha hb hc hd b1
  go_enter Tryz.func179, Tryz.ntmps179
  go_wp2_with fail
  refine HM.out.mono ?_
  rintro e w9 ⟨rfl, rfl⟩
  go_wp2_with fail
  go_ret2
  exact ⟨by simp, rfl⟩
end Go.Proofs.YtbidlkmagbjllaaGreatDoor.Nb

namespace Go.Proofs.YtbidlkmagbjllaaGreatDoor.Nb
open Go Go.RowKit

theorem blk_end {w : World} {g k y : Nat} {ws : List Nat} {x : Int} (h : Blk w g ws) (hx : x = (y : Int)) : Blk (w.setCell ⟨g, k, none⟩ (.int .u64 x)) g (ws.set k y) := by
  rw [hx]; exact h.set k y
theorem Mag.lenN {w : World} {A : Option Addr} {n c : Nat} {ws : List Nat} (h : Mag w (.slice A n c) ws) : n = ws.length := by
  obtain ⟨A', c', h1, -⟩ := h
  injection h1 with _ h2 _
theorem Mag.at {w : World} {A : Option Addr} {n c : Nat} {ws : List Nat} (h : Mag w (.slice A n c) ws) {j : Nat} (hj : j < n) : ∃ b off, A = some ⟨b, off, none⟩ ∧ b < w.heap.size ∧ w.cell? ⟨b, off + j, none⟩ = some (.int .u64 (ws.getD j 0 : Nat)) := by
  have hl := h.lenN
  obtain ⟨A', c', h1, -, -, -, h5⟩ := h
  injection h1 with h1 _ _
  subst h1
  obtain ⟨b, off, e, hb, hc⟩ := h5 (by omega)
  exact ⟨b, off, e, hb, hc j (by omega)⟩

theorem below_dN {B : Nat} {a w : World} (h : Below B a w) (n : Nat) : Below B a (w.drewN n) := ⟨h.os, h.tape, h.output, h.size, h.block⟩

def TimesSt (w : World) (g n : Nat) (a b : List Nat) (i k c j : Nat) (wr : World) : Prop :=
  ∃ os, Blk wr g os ∧ os.length = n ∧ W64 os ∧ ProSt a b os i k c ∧ Clear os j ∧ Below g w wr

set_option maxRecDepth 8000 in
set_option maxHeartbeats 4000000 in
theorem times_core (A B : Option Addr) (n m ca cb : Nat) (a b : List Nat) (w : World) (ha : Mag w (.slice A n ca) a) (hb : Mag w (.slice B m cb) b) (hl : n ≤ 536870912) (hm : m ≤ 536870912) :
    Calls Tryz.prog 134 #[.slice A n ca, .slice B m cb] w fun e w' => ∃ v, e = .returned v ∧ MagN w' v (val a * val b) (n + m) ∧ Below w.heap.size w w' := by
  have hla := ha.lenN
  have hlb := hb.lenN
  have HA := Lib.hid ha
  have HB := Lib.hid hb
  have HL := Lib.hid (And.intro hla hlb)
  have hmk := run_make_row' (P := Tryz.prog) 100 74 (.int .u64 0) 8 Tryz.underlying100 infoW rfl .i64 .i64 (n + m) (by omega) (by omega)
  rw [show ((n + m : Nat) : Int) = (n : Int) + (m : Int) from by omega] at hmk
  clear ha hb hla hlb
  by_cases hz : n = 0 ∨ m = 0
  · have HZ : Hid (val a * val b = 0) := Lib.hid (by
      rcases hz with h | h
      · rw [List.length_eq_zero_iff.1 (HL.out.1.symm.trans h)]; simp [val]
      · rw [List.length_eq_zero_iff.1 (HL.out.2.symm.trans h)]; simp [val])
    have HR : Hid (MagN w (.slice none 0 0) (val a * val b) (n + m)) := Lib.hid (by rw [HZ.out]; exact ⟨[], Mag.nil w none 0 (by omega), .inl rfl, rfl, by simp⟩)
    rcases hz with h | h
    · subst h
      go_enter Tryz.func134, Tryz.ntmps134
      go_wp2_with fail
      go_ret
      exact ⟨_, rfl, HR.out, Below.refl _ _⟩
    · subst h
      by_cases h2 : n = 0
      · subst h2
        go_enter Tryz.func134, Tryz.ntmps134
        go_wp2_with fail
        go_ret
        exact ⟨_, rfl, HR.out, Below.refl _ _⟩
      · have h3 : ((n : Int) == 0) = false := by simp; omega
        go_enter Tryz.func134, Tryz.ntmps134
        go_wp2_with fail
        go_ret
        exact ⟨_, rfl, HR.out, Below.refl _ _⟩
  have hn0 : ((n : Int) == 0) = false := by simp; omega
  have hm0 : ((m : Int) == 0) = false := by simp; omega
  go_enter Tryz.func134, Tryz.ntmps134
  go_wp2_with fail
  clear hmk
  have H0 := Lib.hid (show TimesSt w w.heap.size (n + m) a b 0 0 0 m (w.alloc (.cells (madeCells #[.int .u64 0] (n + m)) 74)) from ⟨_, Blk.made w (n + m), by simp, W64.rep _, pro_start a b _, Clear.rep _ _, (Below.refl _ _).alloc (Nat.le_refl _) _⟩)
  go_loopw [27] (fun i wr => ∃ k : Nat, k ≤ n ∧ i = .int .i64 k ∧ Hid (TimesSt w w.heap.size (n + m) a b k 0 0 (k + m) wr)) (fun i _ => n - (intOf i).toNat)
  case atStart => exact ⟨0, Nat.zero_le _, rfl, by rw [Nat.zero_add]; exact H0⟩
  case round =>
    obtain ⟨i, hi, rfl, hp⟩ := hrel
    by_cases hlt : i < n
    · obtain ⟨os0, -, -, -, -, -, hbel0⟩ := hp.out
      obtain ⟨b1, o1, e1, hb1, hc1⟩ := HA.out.at hlt
      subst e1
      have hx := (hbel0.cell (p := ⟨b1, o1 + i, none⟩) hb1).trans hc1
      obtain ⟨x, ex⟩ : ∃ x, a.getD i 0 = x := ⟨_, rfl⟩
      have wx := HA.out.w32.get i
      rw [ex] at hx wx
      have EXA := Lib.hid ex
      have qi0 : (0 : Int) ≤ (i : Int) := by omega
      have qi1 : (i : Int) < (n : Int) := by omega
      clear hc1 ex hb1 hbel0
      obtain ⟨wo, rfl⟩ : ∃ wo : World, wo = wr := ⟨_, rfl⟩
      go_wp2_with fail
      go_loopw [8, 34] (fun cy k wr => ∃ kk cc : Nat, kk ≤ m ∧ k = .int .i64 kk ∧ cy = .int .u64 cc ∧ cc < 18446744073709551616 ∧ Hid (TimesSt w w.heap.size (n + m) a b i kk cc (i + m) wr)) (fun _ k _ => m - (intOf k).toNat)
      case atStart => exact ⟨0, 0, Nat.zero_le _, rfl, rfl, by omega, hp⟩
      case round =>
        obtain ⟨k, cc, hk, rfl, rfl, hcc, hq⟩ := hrel
        obtain ⟨os, hbk, hlen, hw, hst, hcl, hbel⟩ := hq.out
        have HO := Lib.hid (And.intro hbk (And.intro hlen (And.intro hw (And.intro hst (And.intro hcl hbel)))))
        by_cases hlt2 : k < m
        · have hfr : wr.frozen? ⟨w.heap.size, i + k, none⟩ = false := hbk.frozen (i + k)
          obtain ⟨o, ho⟩ : ∃ o, os.getD (i + k) 0 = o := ⟨_, rfl⟩
          have hco : wr.cell? ⟨w.heap.size, i + k, none⟩ = some (.int .u64 (o : Nat)) := by rw [← ho]; exact hbk.cell (by omega)
          have wo' := hw.get (i + k)
          rw [ho] at wo'
          obtain ⟨b2, o2, e2, hb2, hc2⟩ := HB.out.at hlt2
          subst e2
          have hy := (hbel.cell (p := ⟨b2, o2 + k, none⟩) hb2).trans hc2
          obtain ⟨y, ey⟩ : ∃ y, b.getD k 0 = y := ⟨_, rfl⟩
          have wy := HB.out.w32.get k
          rw [ey] at hy wy
          have EX := Lib.hid (And.intro EXA.out (And.intro ey ho))
          have HFO := Lib.hid (fun W => fold_any x y o cc W wx wy wo' hcc)
          obtain ⟨t, ht⟩ : ∃ t, x * y + o + cc = t := ⟨_, rfl⟩
          have htw := pro_word wx wy wo' hcc
          rw [ht] at HFO htw
          have HT := Lib.hid ht
          obtain ⟨thi, hthi⟩ : ∃ h, t / 18446744073709551616 = h := ⟨_, rfl⟩
          obtain ⟨tlo, htlo⟩ : ∃ h, t % 18446744073709551616 = h := ⟨_, rfl⟩
          rw [hthi, htlo] at HFO
          have HTT := Lib.hid (And.intro hthi (And.intro htlo htw))
          clear hbk hlen hw hst hcl hc2 ey ho hb2 hbel ht hthi htlo htw
          have q0 : (0 : Int) ≤ (i : Int) + (k : Int) := by omega
          have q1 : (i : Int) + (k : Int) < (n : Int) + (m : Int) := by omega
          have qk0 : (0 : Int) ≤ (k : Int) := by omega
          have qk1 : (k : Int) < (m : Int) := by omega
          have e1 : IntKind.i64.wrap ((i : Int) + (k : Int)) = (i : Int) + (k : Int) := IntWalk.i64_in _ ⟨by omega, by omega⟩
          have e2 : ((i : Int) + (k : Int)).toNat = i + k := by omega
          go_wp2_with fail
          refine (HFO.out _).mono ?_
          rintro e w9 ⟨rfl, rfl⟩
          go_wp2_with fail
          go_roundw
          case rel => exact ⟨k + 1, thi, by omega, by go_num, rfl, by have := HTT.out; omega, Lib.hid ⟨os.set (i + k) tlo, blk_end HO.out.1 (by omega), by rw [List.length_set]; exact HO.out.2.1, HO.out.2.2.1.set (by have := HTT.out; omega), by
            have h := pro_step (t := t) HO.out.2.2.2.1 (by have := HO.out.2.1; omega) (by rw [EX.out.1, EX.out.2.1, EX.out.2.2, HT.out])
            rw [HTT.out.1, HTT.out.2.1] at h
            exact h, HO.out.2.2.2.2.1.set (by omega), HO.out.2.2.2.2.2.setCell (p := ⟨w.heap.size, i + k, none⟩) (Nat.le_refl _) _⟩⟩
          case measure => simp [intOf]; omega
        · obtain rfl : k = m := by omega
          have hfr : wr.frozen? ⟨w.heap.size, i + k, none⟩ = false := hbk.frozen (i + k)
          obtain ⟨o, ho⟩ : ∃ o, os.getD (i + k) 0 = o := ⟨_, rfl⟩
          have hco : wr.cell? ⟨w.heap.size, i + k, none⟩ = some (.int .u64 (o : Nat)) := by rw [← ho]; exact hbk.cell (by omega)
          clear hbk hlen hw hst hcl hbel ho
          have e2 : ((i : Int) + (k : Int)).toNat = i + k := by omega
          go_wp2_with fail
          go_roundw
          case rel =>
            have hlb : k = b.length := HL.out.2
            refine ⟨i + 1, by omega, by go_num, Lib.hid ⟨os.set (i + k) cc, blk_end HO.out.1 (by omega), by rw [List.length_set]; exact HO.out.2.1, HO.out.2.2.1.set hcc, ?_, by rw [show i + 1 + k = i + k + 1 by omega]; exact HO.out.2.2.2.2.1.step, HO.out.2.2.2.2.2.setCell (p := ⟨w.heap.size, i + k, none⟩) (Nat.le_refl _) _⟩⟩
            have h1 := HO.out.2.2.2.1
            have h2 := HO.out.2.2.2.2.1
            have h3 := HO.out.2.1
            rw [hlb] at h1 h2 ⊢
            exact pro_next h1 h2 (by omega)
          case measure => simp [intOf]; omega
    · obtain rfl : i = n := by omega
      obtain ⟨os, hbk, hlen, hw, hst, hcl, hbel⟩ := hp.out
      have HO := Lib.hid (And.intro hbk (And.intro hlen (And.intro hw (And.intro hst hbel))))
      clear hbk hlen hw hst hcl hbel
      go_wp2_with fail
      have hms := HO.out.1.mag HO.out.2.2.1 (by rw [HO.out.2.1]; omega)
      rw [HO.out.2.1] at hms
      refine (norm_any _ _ _ hms).mono ?_
      rintro e w2 ⟨A2, k2, c2, -, rfl, hm2, rfl⟩
      rw [pro_end HO.out.2.2.2.1 (by have := HL.out; omega), HO.out.2.1] at hm2
      have HF := Lib.hid hm2
      clear hm2 hms
      go_wp2_with fail
      go_ret
      exact ⟨_, rfl, HF.out, HO.out.2.2.2.2⟩

/-- times: of two magnitudes -/
theorem times_mag (u v : Value) (m n L L' : Nat) (w : World) (hu : MagN w u m L) (hv : MagN w v n L') (hL : L ≤ 536870912) (hL' : L' ≤ 536870912) :
    Calls Tryz.prog 134 #[u, v] w fun e w' => ∃ x, e = .returned x ∧ MagN w' x (m * n) (L + L') ∧ Below w.heap.size w w' := by
  obtain ⟨a, h1, h2, rfl, h4⟩ := hu
  obtain ⟨b, g1, g2, rfl, g4⟩ := hv
  have h1' := h1
  have g1' := g1
  obtain ⟨A, ca, rfl, -⟩ := h1
  obtain ⟨B, cb, rfl, -⟩ := g1
  exact (times_core A B a.length b.length ca cb a b w h1' g1' (by omega) (by omega)).mono fun e w' ⟨x, he, hx, hb⟩ => ⟨x, he, hx.more (by omega), hb⟩
end Go.Proofs.YtbidlkmagbjllaaGreatDoor.Nb

namespace Go.Proofs.YtbidlkmagbjllaaGreatDoor.Bg
open Go Go.RowKit

def MinusSt (w : World) (g n : Nat) (a b : List Nat) (i c : Nat) (wr : World) : Prop :=
  ∃ os, Blk wr g os ∧ os.length = n ∧ W32 os ∧ DifSt a b os i c ∧ Below g w wr

set_option maxHeartbeats 2000000 in
theorem minus_core (A B : Option Addr) (n m ca cb : Nat) (a b : List Nat) (w : World) (ha : Mag w (.slice A n ca) a) (hb : Mag w (.slice B m cb) b) (hl : n ≤ 1073741824) (hm : m ≤ n) (hle : val b ≤ val a) :
    Calls Tryz.prog 165 #[.slice A n ca, .slice B m cb] w fun e w' => ∃ v, e = .returned v ∧ MagN w' v (val a - val b) n ∧ Below w.heap.size w w' := by
  have hla := ha.len
  have hlb := hb.len
  have HA := Lib.hid ha
  have HB := Lib.hid hb
  have HL := Lib.hid (And.intro hla hlb)
  have HLE := Lib.hid hle
  have hmk := run_make_row' (P := Tryz.prog) 39 88 (.int .u32 0) 4 Tryz.underlying39 infoW rfl .i64 .i64 n (by omega) (by omega)
  clear ha hb hla hlb hle
  go_enter Tryz.func165, Tryz.ntmps165
  go_wp2_with fail
  clear hmk
  have H0 := Lib.hid (show MinusSt w w.heap.size n a b 0 0 (w.alloc (.cells (madeCells #[.int .u32 0] n) 88)) from ⟨_, Blk.made w n, by simp, W32.rep _, by simp [DifSt, val], (Below.refl _ _).alloc (Nat.le_refl _) _⟩)
  go_loopw [6, 7] (fun cy i wr => ∃ k cc : Nat, k ≤ n ∧ i = .int .i64 k ∧ cy = .int .u64 cc ∧ cc ≤ 1 ∧ Hid (MinusSt w w.heap.size n a b k cc wr)) (fun _ i _ => n - (intOf i).toNat)
  case atStart => exact ⟨0, 0, Nat.zero_le _, rfl, rfl, by omega, H0⟩
  case round =>
    obtain ⟨k, cc, hk, rfl, rfl, hcc, hp⟩ := hrel
    by_cases hlt : k < n
    · obtain ⟨os, hbk, hlen, hw, hst, hbel⟩ := hp.out
      have HO := Lib.hid (And.intro hbk (And.intro hlen (And.intro hw (And.intro hst hbel))))
      have hfr : wr.frozen? ⟨w.heap.size, k, none⟩ = false := hbk.frozen k
      obtain ⟨o, ho⟩ : ∃ o, os.getD k 0 = o := ⟨_, rfl⟩
      have hco : wr.cell? ⟨w.heap.size, k, none⟩ = some (.int .u32 (o : Nat)) := by rw [← ho]; exact hbk.cell (by omega)
      obtain ⟨b1, o1, e1, hb1, hc1⟩ := HA.out.at hlt
      subst e1
      have hx := (hbel.cell (p := ⟨b1, o1 + k, none⟩) hb1).trans hc1
      obtain ⟨x, ex⟩ : ∃ x, a.getD k 0 = x := ⟨_, rfl⟩
      have wx := HA.out.w32.get k
      rw [ex] at hx wx
      have EX := Lib.hid ex
      clear hbk hlen hw hst hc1 ex ho hb1
      by_cases hlt2 : k < m
      · obtain ⟨b2, o2, e2, hb2, hc2⟩ := HB.out.at hlt2
        subst e2
        have hy := (hbel.cell (p := ⟨b2, o2 + k, none⟩) hb2).trans hc2
        obtain ⟨y, ey⟩ : ∃ y, b.getD k 0 = y := ⟨_, rfl⟩
        have wy := HB.out.w32.get k
        rw [ey] at hy wy
        have EY := Lib.hid ey
        clear hbel hc2 ey hb2
        by_cases hxy : x < cc + y
        · go_wp2_with fail
          go_roundw
          case rel => exact ⟨k + 1, 1, by omega, by go_num, rfl, by omega, os.set k (x + 4294967296 - (cc + y)), blk_end HO.out.1 (by omega), by rw [List.length_set]; exact HO.out.2.1, HO.out.2.2.1.set (by omega), by have h9 := dif_yes HO.out.2.2.2.1 (by have := HO.out.2.1; omega) (by rw [EX.out, EY.out]; exact hxy) (by rw [EX.out, EY.out]; omega); rwa [EX.out, EY.out] at h9, HO.out.2.2.2.2.setCell (p := ⟨w.heap.size, k, none⟩) (Nat.le_refl _) _⟩
          case measure => simp [intOf]; omega
        · go_wp2_with fail
          go_roundw
          case rel => exact ⟨k + 1, 0, by omega, by go_num, rfl, by omega, os.set k (x - (cc + y)), blk_end HO.out.1 (by omega), by rw [List.length_set]; exact HO.out.2.1, HO.out.2.2.1.set (by omega), by have h9 := dif_no HO.out.2.2.2.1 (by have := HO.out.2.1; omega) (by rw [EX.out, EY.out]; omega); rwa [EX.out, EY.out] at h9, HO.out.2.2.2.2.setCell (p := ⟨w.heap.size, k, none⟩) (Nat.le_refl _) _⟩
          case measure => simp [intOf]; omega
      · have hy0 : b.getD k 0 = 0 := by rw [List.getD_eq_getElem?_getD, List.getElem?_eq_none (by have := HL.out.2; omega)]; rfl
        have EY := Lib.hid hy0
        clear hy0 hbel
        by_cases hxy : x < cc
        · go_wp2_with fail
          go_roundw
          case rel => exact ⟨k + 1, 1, by omega, by go_num, rfl, by omega, os.set k (x + 4294967296 - (cc + 0)), blk_end HO.out.1 (by omega), by rw [List.length_set]; exact HO.out.2.1, HO.out.2.2.1.set (by omega), by have h9 := dif_yes HO.out.2.2.2.1 (by have := HO.out.2.1; omega) (by rw [EX.out, EY.out]; exact hxy) (by rw [EX.out, EY.out]; omega); rwa [EX.out, EY.out] at h9, HO.out.2.2.2.2.setCell (p := ⟨w.heap.size, k, none⟩) (Nat.le_refl _) _⟩
          case measure => simp [intOf]; omega
        · go_wp2_with fail
          go_roundw
          case rel => exact ⟨k + 1, 0, by omega, by go_num, rfl, by omega, os.set k (x - (cc + 0)), blk_end HO.out.1 (by omega), by rw [List.length_set]; exact HO.out.2.1, HO.out.2.2.1.set (by omega), by have h9 := dif_no HO.out.2.2.2.1 (by have := HO.out.2.1; omega) (by rw [EX.out, EY.out]; omega); rwa [EX.out, EY.out] at h9, HO.out.2.2.2.2.setCell (p := ⟨w.heap.size, k, none⟩) (Nat.le_refl _) _⟩
          case measure => simp [intOf]; omega
    · obtain rfl : k = n := by omega
      obtain ⟨os, hbk, hlen, hw, hst, hbel⟩ := hp.out
      have HO := Lib.hid (And.intro hbk (And.intro hlen (And.intro hw (And.intro hst hbel))))
      clear hbk hlen hw hst hbel
      go_wp2_with fail
      have hms := HO.out.1.mag HO.out.2.2.1 (by rw [HO.out.2.1]; omega)
      rw [HO.out.2.1] at hms
      refine (cut_any _ _ _ hms).mono ?_
      rintro e w2 ⟨A2, k2, c2, -, rfl, hm2, rfl⟩
      rw [dif_end HO.out.2.2.2.1 (by have := HL.out; omega) (by have := HL.out; omega) HO.out.2.1 HO.out.2.2.1 HLE.out, HO.out.2.1] at hm2
      have HF := Lib.hid hm2
      clear hm2 hms
      go_wp2_with fail
      go_ret
      exact ⟨_, rfl, HF.out, HO.out.2.2.2.2⟩

/-- minus: of two magnitudes, the second not above the first -/
theorem minus_any (u v : Value) (m n L L' : Nat) (w : World) (hu : MagN w u m L) (hv : MagN w v n L') (hL : L ≤ 1073741824) (hle : n ≤ m) :
    Calls Tryz.prog 165 #[u, v] w fun e w' => ∃ x, e = .returned x ∧ MagN w' x (m - n) L ∧ Below w.heap.size w w' := by
  obtain ⟨a, h1, h2, rfl, h4⟩ := hu
  obtain ⟨b, g1, g2, rfl, g4⟩ := hv
  have hlen : b.length ≤ a.length := by
    refine Nat.not_lt.1 fun hlt => ?_
    have := norm_len_lt h1.w32 g2 hlt
    omega
  have h1' := h1
  have g1' := g1
  obtain ⟨A, ca, rfl, -⟩ := h1
  obtain ⟨B, cb, rfl, -⟩ := g1
  exact (minus_core A B a.length b.length ca cb a b w h1' g1' (by omega) hlen hle).mono fun e w' ⟨x, he, hx, hb⟩ => ⟨x, he, hx.more (by omega), hb⟩

theorem or_high {r d x : Nat} (hr : r < d) (hd : d < 4294967296) (hx : x < 4294967296) : bits .or .u64 ((r : Int) * 4294967296) (x : Int) = (r : Int) * 4294967296 + (x : Int) := by
  have e : ((r : Int) * 4294967296) = ((r * 4294967296 : Nat) : Int) := by omega
  rw [e, u64_or_nat _ x (by omega) (by omega)]
  rw [show r * 4294967296 = r <<< 32 by rw [Nat.shiftLeft_eq], ← Nat.shiftLeft_add_eq_or_of_lt (by omega : x < 2 ^ 32), Nat.shiftLeft_eq]
  omega
theorem short_step {m os : List Nat} {d k r t x q r' : Nat} (hk : ¬ k = 0) (hm : k ≤ m.length) (ho : k ≤ os.length) (hd : 0 < d) (h : QuoSt m os d k r) (hx : m.getD (k - 1) 0 = x) (ht : r * 4294967296 + x = t) (hq : t / d = q) (hr : t % d = r') :
    QuoSt m (os.set (k - 1) q) d (k - 1) r' := by
  subst hq hr ht hx
  exact quo_step (i := k - 1) (by rw [show k - 1 + 1 = k by omega]; exact h) (by omega) (by omega) hd rfl

def ShortSt (w : World) (g n : Nat) (m : List Nat) (d i r : Nat) (wr : World) : Prop :=
  ∃ os, Blk wr g os ∧ os.length = n ∧ W32 os ∧ QuoSt m os d i r ∧ Below g w wr

set_option maxHeartbeats 2000000 in
theorem short_core (A : Option Addr) (n ca d : Nat) (m : List Nat) (w : World) (hm : Mag w (.slice A n ca) m) (hl : n ≤ 1073741824) (hd : 0 < d) (hd' : d < 4294967296) :
    Calls Tryz.prog 167 #[.slice A n ca, .int .u32 d] w fun e w' => ∃ v, e = .returned (.tuple #[v, .int .u32 (val m % d : Nat)]) ∧ MagN w' v (val m / d) n ∧ Below w.heap.size w w' := by
  have hla := hm.len
  have HA := Lib.hid hm
  have HL := Lib.hid hla
  have hmk := run_make_row' (P := Tryz.prog) 39 88 (.int .u32 0) 4 Tryz.underlying39 infoW rfl .i64 .i64 n (by omega) (by omega)
  clear hm hla
  have hd1 : (1 : Int) ≤ (d : Int) := by omega
  have hd0 : ¬ (d : Int) = 0 := by omega
  go_enter Tryz.func167, Tryz.ntmps167
  go_wp2_with fail
  clear hmk
  have H0 := Lib.hid (show ShortSt w w.heap.size n m d n 0 (w.alloc (.cells (madeCells #[.int .u32 0] n) 88)) from ⟨_, Blk.made w n, by simp, W32.rep _, quo_start m d n (by have := HL.out; omega) hd, (Below.refl _ _).alloc (Nat.le_refl _) _⟩)
  go_loopw [7, 8] (fun r i wr => ∃ k rr : Nat, k ≤ n ∧ i = .int .i64 ((k : Int) - 1) ∧ r = .int .u64 rr ∧ rr < d ∧ Hid (ShortSt w w.heap.size n m d k rr wr)) (fun _ i _ => (intOf i + 1).toNat)
  case atStart => exact ⟨n, 0, Nat.le_refl _, rfl, rfl, hd, H0⟩
  case round =>
    obtain ⟨k, rr, hk, rfl, rfl, hrr, hp⟩ := hrel
    obtain ⟨os, hbk, hlen, hw, hst, hbel⟩ := hp.out
    have HO := Lib.hid (And.intro hbk (And.intro hlen (And.intro hw (And.intro hst hbel))))
    by_cases hlt : k = 0
    · subst hlt
      clear hbk hlen hw hst hbel
      go_wp2_with fail
      have hms := HO.out.1.mag HO.out.2.2.1 (by rw [HO.out.2.1]; omega)
      rw [HO.out.2.1] at hms
      refine (cut_any _ _ _ hms).mono ?_
      rintro e w2 ⟨A2, k2, c2, -, rfl, hm2, rfl⟩
      have hq := quo_end HO.out.2.2.2.1 hd
      rw [hq.1, HO.out.2.1] at hm2
      have HF := Lib.hid (And.intro hm2 hq.2)
      clear hm2 hms hq
      go_wp2_with fail
      go_ret2
      exact ⟨_, congrArg (fun z => Ending.returned (.tuple #[Value.slice A2 k2 c2, z])) (int_eq (by rw [← HF.out.2])), HF.out.1, HO.out.2.2.2.2⟩
    · have hfr : wr.frozen? ⟨w.heap.size, k - 1, none⟩ = false := hbk.frozen (k - 1)
      obtain ⟨o, ho⟩ : ∃ o, os.getD (k - 1) 0 = o := ⟨_, rfl⟩
      have hco : wr.cell? ⟨w.heap.size, k - 1, none⟩ = some (.int .u32 (o : Nat)) := by rw [← ho]; exact hbk.cell (by omega)
      obtain ⟨b1, o1, e1, hb1, hc1⟩ := HA.out.at (j := k - 1) (by omega)
      subst e1
      have hx := (hbel.cell (p := ⟨b1, o1 + (k - 1), none⟩) hb1).trans hc1
      obtain ⟨x, ex⟩ : ∃ x, m.getD (k - 1) 0 = x := ⟨_, rfl⟩
      have wx := HA.out.w32.get (k - 1)
      rw [ex] at hx wx
      have EX := Lib.hid ex
      clear hbk hlen hw hst hc1 ex ho hb1 hbel
      have hk0 : (0 : Int) ≤ (k : Int) - 1 := by omega
      have hkn : (k : Int) - 1 < (n : Int) := by omega
      have hix : ((k : Int) - 1).toNat = k - 1 := by omega
      obtain ⟨t, ht⟩ : ∃ t : Nat, rr * 4294967296 + x = t := ⟨_, rfl⟩
      have hor : bits .or .u64 ((rr : Int) * 4294967296) (x : Int) = (t : Int) := by rw [or_high hrr hd' wx, ← ht]; omega
      obtain ⟨t1, t2⟩ := quo_word hrr hd' wx
      rw [ht] at t1 t2
      obtain ⟨q, hq⟩ : ∃ q : Nat, t / d = q := ⟨_, rfl⟩
      obtain ⟨r, hr⟩ : ∃ r : Nat, t % d = r := ⟨_, rfl⟩
      have hqi : (t : Int) / (d : Int) = (q : Int) := by rw [← hq]; rfl
      have hri : (t : Int) % (d : Int) = (r : Int) := by rw [← hr]; rfl
      have hrd : r < d := by rw [← hr]; exact Nat.mod_lt _ hd
      rw [hq] at t2
      have HT := Lib.hid (And.intro ht (And.intro hq hr))
      clear ht hq hr
      go_wp2_with fail
      go_roundw
      case rel => exact ⟨k - 1, r, by omega, int_eq (by omega), int_eq hri, hrd, os.set (k - 1) q, blk_end HO.out.1 rfl, by rw [List.length_set]; exact HO.out.2.1, HO.out.2.2.1.set t2, short_step hlt (by have := HL.out; omega) (by have := HO.out.2.1; omega) hd HO.out.2.2.2.1 EX.out HT.out.1 HT.out.2.1 HT.out.2.2, HO.out.2.2.2.2.setCell (p := ⟨w.heap.size, k - 1, none⟩) (Nat.le_refl _) _⟩
      case measure => simp [intOf]; omega
end Go.Proofs.YtbidlkmagbjllaaGreatDoor.Bg

namespace Go.Proofs.YtbidlkmagbjllaaGreatDoor.Bg
open Go Go.RowKit

theorem below_dN {B : Nat} {a w : World} (h : Below B a w) (n : Nat) : Below B a (w.drewN n) := ⟨h.os, h.tape, h.output, h.size, h.block⟩

def TimesSt (w : World) (g n : Nat) (a b : List Nat) (i k c j : Nat) (wr : World) : Prop :=
  ∃ os, Blk wr g os ∧ os.length = n ∧ W32 os ∧ ProSt a b os i k c ∧ Clear os j ∧ Below g w wr

set_option maxHeartbeats 4000000 in
theorem times_core (A B : Option Addr) (n m ca cb : Nat) (a b : List Nat) (w : World) (ha : Mag w (.slice A n ca) a) (hb : Mag w (.slice B m cb) b) (hl : n ≤ 536870912) (hm : m ≤ 536870912) :
    Calls Tryz.prog 37 #[.slice A n ca, .slice B m cb] w fun e w' => ∃ v, e = .returned v ∧ MagN w' v (val a * val b) (n + m) ∧ Below w.heap.size w w' := by
  have hla := ha.len
  have hlb := hb.len
  have HA := Lib.hid ha
  have HB := Lib.hid hb
  have HL := Lib.hid (And.intro hla hlb)
  have hmk := run_make_row' (P := Tryz.prog) 39 88 (.int .u32 0) 4 Tryz.underlying39 infoW rfl .i64 .i64 (n + m) (by omega) (by omega)
  rw [show ((n + m : Nat) : Int) = (n : Int) + (m : Int) from by omega] at hmk
  clear ha hb hla hlb
  go_enter Tryz.func37, Tryz.ntmps37
  go_wp2_with fail
  clear hmk
  have H0 := Lib.hid (show TimesSt w w.heap.size (n + m) a b 0 0 0 m (w.alloc (.cells (madeCells #[.int .u32 0] (n + m)) 88)) from ⟨_, Blk.made w (n + m), by simp, W32.rep _, pro_start a b _, Clear.rep _ _, (Below.refl _ _).alloc (Nat.le_refl _) _⟩)
  go_loopw [6] (fun i wr => ∃ k : Nat, k ≤ n ∧ i = .int .i64 k ∧ Hid (TimesSt w w.heap.size (n + m) a b k 0 0 (k + m) wr)) (fun i _ => n - (intOf i).toNat)
  case atStart => exact ⟨0, Nat.zero_le _, rfl, by rw [Nat.zero_add]; exact H0⟩
  case round =>
    obtain ⟨i, hi, rfl, hp⟩ := hrel
    by_cases hlt : i < n
    · obtain ⟨wo, rfl⟩ : ∃ wo : World, wo = wr := ⟨_, rfl⟩
      go_wp2_with fail
      go_loopw [7, 8] (fun cy k wr => ∃ kk cc : Nat, kk ≤ m ∧ k = .int .i64 kk ∧ cy = .int .u64 cc ∧ cc < 4294967296 ∧ Hid (TimesSt w w.heap.size (n + m) a b i kk cc (i + m) wr)) (fun _ k _ => m - (intOf k).toNat)
      case atStart => exact ⟨0, 0, Nat.zero_le _, rfl, rfl, by omega, hp⟩
      case round =>
        obtain ⟨k, cc, hk, rfl, rfl, hcc, hq⟩ := hrel
        obtain ⟨os, hbk, hlen, hw, hst, hcl, hbel⟩ := hq.out
        have HO := Lib.hid (And.intro hbk (And.intro hlen (And.intro hw (And.intro hst (And.intro hcl hbel)))))
        by_cases hlt2 : k < m
        · have hfr : wr.frozen? ⟨w.heap.size, i + k, none⟩ = false := hbk.frozen (i + k)
          obtain ⟨o, ho⟩ : ∃ o, os.getD (i + k) 0 = o := ⟨_, rfl⟩
          have hco : wr.cell? ⟨w.heap.size, i + k, none⟩ = some (.int .u32 (o : Nat)) := by rw [← ho]; exact hbk.cell (by omega)
          have wo' := hw.get (i + k)
          rw [ho] at wo'
          obtain ⟨b1, o1, e1, hb1, hc1⟩ := HA.out.at hlt
          subst e1
          have hx := (hbel.cell (p := ⟨b1, o1 + i, none⟩) hb1).trans hc1
          obtain ⟨x, ex⟩ : ∃ x, a.getD i 0 = x := ⟨_, rfl⟩
          have wx := HA.out.w32.get i
          rw [ex] at hx wx
          obtain ⟨b2, o2, e2, hb2, hc2⟩ := HB.out.at hlt2
          subst e2
          have hy := (hbel.cell (p := ⟨b2, o2 + k, none⟩) hb2).trans hc2
          obtain ⟨y, ey⟩ : ∃ y, b.getD k 0 = y := ⟨_, rfl⟩
          have wy := HB.out.w32.get k
          rw [ey] at hy wy
          have htw := pro_word wx wy wo' hcc
          obtain ⟨p, hpd⟩ : ∃ p : Nat, x * y = p := ⟨_, rfl⟩
          have hpi : (x : Int) * (y : Int) = (p : Int) := by rw [← hpd]; rfl
          rw [hpd] at htw
          have EX := Lib.hid (And.intro ex (And.intro ey (And.intro ho hpd)))
          clear hbk hlen hw hst hcl hc1 hc2 ex ey ho hpd hb1 hb2 hbel
          have q0 : (0 : Int) ≤ (i : Int) + (k : Int) := by omega
          have q1 : (i : Int) + (k : Int) < (n : Int) + (m : Int) := by omega
          have qi0 : (0 : Int) ≤ (i : Int) := by omega
          have qi1 : (i : Int) < (n : Int) := by omega
          have qk0 : (0 : Int) ≤ (k : Int) := by omega
          have qk1 : (k : Int) < (m : Int) := by omega
          have e1 : IntKind.i64.wrap ((i : Int) + (k : Int)) = (i : Int) + (k : Int) := IntWalk.i64_in _ ⟨by omega, by omega⟩
          have e2 : ((i : Int) + (k : Int)).toNat = i + k := by omega
          have e3 : IntKind.u64.wrap (p : Int) = (p : Int) := IntWalk.u64_in _ ⟨by omega, by omega⟩
          have e4 : IntKind.u64.wrap ((p : Int) + (o : Int)) = (p : Int) + (o : Int) := IntWalk.u64_in _ ⟨by omega, by omega⟩
          have e5 : IntKind.u64.wrap ((p : Int) + (o : Int) + (cc : Int)) = (p : Int) + (o : Int) + (cc : Int) := IntWalk.u64_in _ ⟨by omega, by omega⟩
          go_wp2_with fail
          go_quiet (fail)
          go_wp2_with fail
          go_roundw
          case rel => exact ⟨k + 1, (p + o + cc) / 4294967296, by omega, by go_num, int_eq (by omega), by omega, os.set (i + k) ((p + o + cc) % 4294967296), blk_end (HO.out.1.drewN _) (by omega), by rw [List.length_set]; exact HO.out.2.1, HO.out.2.2.1.set (by omega), pro_step HO.out.2.2.2.1 (by have := HO.out.2.1; omega) (by rw [EX.out.1, EX.out.2.1, EX.out.2.2.1, EX.out.2.2.2]), HO.out.2.2.2.2.1.set (by omega), (below_dN HO.out.2.2.2.2.2 _).setCell (p := ⟨w.heap.size, i + k, none⟩) (Nat.le_refl _) _⟩
          case measure => simp [intOf]; omega
        · obtain rfl : k = m := by omega
          have hfr : wr.frozen? ⟨w.heap.size, i + k, none⟩ = false := hbk.frozen (i + k)
          obtain ⟨o, ho⟩ : ∃ o, os.getD (i + k) 0 = o := ⟨_, rfl⟩
          have hco : wr.cell? ⟨w.heap.size, i + k, none⟩ = some (.int .u32 (o : Nat)) := by rw [← ho]; exact hbk.cell (by omega)
          clear hbk hlen hw hst hcl hbel ho
          have e2 : ((i : Int) + (k : Int)).toNat = i + k := by omega
          go_wp2_with fail
          go_roundw
          case rel =>
            have hlb : k = b.length := HL.out.2
            refine ⟨i + 1, by omega, by go_num, os.set (i + k) cc, blk_end HO.out.1 (by omega), by rw [List.length_set]; exact HO.out.2.1, HO.out.2.2.1.set hcc, ?_, by rw [show i + 1 + k = i + k + 1 by omega]; exact HO.out.2.2.2.2.1.step, HO.out.2.2.2.2.2.setCell (p := ⟨w.heap.size, i + k, none⟩) (Nat.le_refl _) _⟩
            have h1 := HO.out.2.2.2.1
            have h2 := HO.out.2.2.2.2.1
            have h3 := HO.out.2.1
            rw [hlb] at h1 h2 ⊢
            exact pro_next h1 h2 (by omega)
          case measure => simp [intOf]; omega
    · obtain rfl : i = n := by omega
      obtain ⟨os, hbk, hlen, hw, hst, hcl, hbel⟩ := hp.out
      have HO := Lib.hid (And.intro hbk (And.intro hlen (And.intro hw (And.intro hst hbel))))
      clear hbk hlen hw hst hcl hbel
      go_wp2_with fail
      have hms := HO.out.1.mag HO.out.2.2.1 (by rw [HO.out.2.1]; omega)
      rw [HO.out.2.1] at hms
      refine (cut_any _ _ _ hms).mono ?_
      rintro e w2 ⟨A2, k2, c2, -, rfl, hm2, rfl⟩
      rw [pro_end HO.out.2.2.2.1 (by have := HL.out; omega), HO.out.2.1] at hm2
      have HF := Lib.hid hm2
      clear hm2 hms
      go_wp2_with fail
      go_ret
      exact ⟨_, rfl, HF.out, HO.out.2.2.2.2⟩

/-- times: of two magnitudes -/
theorem times_mag (u v : Value) (m n L L' : Nat) (w : World) (hu : MagN w u m L) (hv : MagN w v n L') (hL : L ≤ 536870912) (hL' : L' ≤ 536870912) :
    Calls Tryz.prog 37 #[u, v] w fun e w' => ∃ x, e = .returned x ∧ MagN w' x (m * n) (L + L') ∧ Below w.heap.size w w' := by
  obtain ⟨a, h1, h2, rfl, h4⟩ := hu
  obtain ⟨b, g1, g2, rfl, g4⟩ := hv
  have h1' := h1
  have g1' := g1
  obtain ⟨A, ca, rfl, -⟩ := h1
  obtain ⟨B, cb, rfl, -⟩ := g1
  exact (times_core A B a.length b.length ca cb a b w h1' g1' (by omega) (by omega)).mono fun e w' ⟨x, he, hx, hb⟩ => ⟨x, he, hx.more (by omega), hb⟩
end Go.Proofs.YtbidlkmagbjllaaGreatDoor.Bg
