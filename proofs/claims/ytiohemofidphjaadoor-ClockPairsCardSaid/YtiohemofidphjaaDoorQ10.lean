/- Contract of the reference's times: the product of two word lists. Conditions: lengths of at most 2 to the 29th words. -/
import Derived.Test.YtiohemofidphjaaDoorQ9
namespace Go.Proofs.YtiohemofidphjaaDoor.Bg
open Go Go.RowKit

theorem below_dN {B : Nat} {a w : World} (h : Below B a w) (n : Nat) : Below B a (w.drewN n) := ⟨h.os, h.tape, h.output, h.size, h.block⟩

def TimesSt (w : World) (g n : Nat) (a b : List Nat) (i k c j : Nat) (wr : World) : Prop :=
  ∃ os, Blk wr g os ∧ os.length = n ∧ W32 os ∧ ProSt a b os i k c ∧ Clear os j ∧ Below g w wr

set_option maxHeartbeats 4000000 in
theorem times_core (A B : Option Addr) (n m ca cb : Nat) (a b : List Nat) (w : World) (ha : Mag w (.slice A n ca) a) (hb : Mag w (.slice B m cb) b) (hl : n ≤ 536870912) (hm : m ≤ 536870912) :
    Calls Tryd.prog 54 #[.slice A n ca, .slice B m cb] w fun e w' => ∃ v, e = .returned v ∧ MagN w' v (val a * val b) (n + m) ∧ Below w.heap.size w w' := by
  have hla := ha.len
  have hlb := hb.len
  have HA := Lib.hid ha
  have HB := Lib.hid hb
  have HL := Lib.hid (And.intro hla hlb)
  have hmk := run_make_row' (P := Tryd.prog) 66 73 (.int .u32 0) 4 Tryd.underlying66 infoW rfl .i64 .i64 (n + m) (by omega) (by omega)
  rw [show ((n + m : Nat) : Int) = (n : Int) + (m : Int) from by omega] at hmk
  clear ha hb hla hlb
  go_enter Tryd.func54, Tryd.ntmps54
  go_wp2_with fail
  clear hmk
  have H0 := Lib.hid (show TimesSt w w.heap.size (n + m) a b 0 0 0 m (w.alloc (.cells (madeCells #[.int .u32 0] (n + m)) 73)) from ⟨_, Blk.made w (n + m), by simp, W32.rep _, pro_start a b _, Clear.rep _ _, (Below.refl _ _).alloc (Nat.le_refl _) _⟩)
  go_loopw [6] (fun i wr => ∃ k : Nat, k ≤ n ∧ i = .int .i64 k ∧ Hid (TimesSt w w.heap.size (n + m) a b k 0 0 (k + m) wr)) (fun i _ => n - (intOf i).toNat)
  case atStart => exact ⟨0, Nat.zero_le _, rfl, by rw [Nat.zero_add]; exact H0⟩
  case round =>
    obtain ⟨i, hi, rfl, hp⟩ := hrel
    by_cases hlt : i < n
    · obtain ⟨wo, rfl⟩ : ∃ wo : World, wo = wr := ⟨_, rfl⟩
      go_wp2_with fail
      go_loopw [7, 8] (fun cy k wr => ∃ kk cc : Nat, kk ≤ m ∧ k = .int .i64 kk ∧ cy = .int .u64 cc ∧ cc < 4294967296 ∧ Hid (TimesSt w w.heap.size (n + m) a b i kk cc (i + m) wr)) (fun _ k _ => m - (intOf k).toNat)
      case atStart => exact ⟨0, 0, Nat.zero_le _, rfl, rfl, by omega, hp⟩
      case round =>
        obtain ⟨k, cc, hk, rfl, rfl, hcc, hq⟩ := hrel
        obtain ⟨os, hbk, hlen, hw, hst, hcl, hbel⟩ := hq.out
        have HO := Lib.hid (And.intro hbk (And.intro hlen (And.intro hw (And.intro hst (And.intro hcl hbel)))))
        by_cases hlt2 : k < m
        · have hfr : wr.frozen? ⟨w.heap.size, i + k, none⟩ = false := hbk.frozen (i + k)
          obtain ⟨o, ho⟩ : ∃ o, os.getD (i + k) 0 = o := ⟨_, rfl⟩
          have hco : wr.cell? ⟨w.heap.size, i + k, none⟩ = some (.int .u32 (o : Nat)) := by rw [← ho]; exact hbk.cell (by omega)
          have wo' := hw.get (i + k)
          rw [ho] at wo'
          obtain ⟨b1, o1, e1, hb1, hc1⟩ := HA.out.at hlt
          subst e1
          have hx := (hbel.cell (p := ⟨b1, o1 + i, none⟩) hb1).trans hc1
          obtain ⟨x, ex⟩ : ∃ x, a.getD i 0 = x := ⟨_, rfl⟩
          have wx := HA.out.w32.get i
          rw [ex] at hx wx
          obtain ⟨b2, o2, e2, hb2, hc2⟩ := HB.out.at hlt2
          subst e2
          have hy := (hbel.cell (p := ⟨b2, o2 + k, none⟩) hb2).trans hc2
          obtain ⟨y, ey⟩ : ∃ y, b.getD k 0 = y := ⟨_, rfl⟩
          have wy := HB.out.w32.get k
          rw [ey] at hy wy
          have htw := pro_word wx wy wo' hcc
          obtain ⟨p, hpd⟩ : ∃ p : Nat, x * y = p := ⟨_, rfl⟩
          have hpi : (x : Int) * (y : Int) = (p : Int) := by rw [← hpd]; rfl
          rw [hpd] at htw
          have EX := Lib.hid (And.intro ex (And.intro ey (And.intro ho hpd)))
          clear hbk hlen hw hst hcl hc1 hc2 ex ey ho hpd hb1 hb2 hbel
          have q0 : (0 : Int) ≤ (i : Int) + (k : Int) := by omega
          have q1 : (i : Int) + (k : Int) < (n : Int) + (m : Int) := by omega
          have qi0 : (0 : Int) ≤ (i : Int) := by omega
          have qi1 : (i : Int) < (n : Int) := by omega
          have qk0 : (0 : Int) ≤ (k : Int) := by omega
          have qk1 : (k : Int) < (m : Int) := by omega
          have e1 : IntKind.i64.wrap ((i : Int) + (k : Int)) = (i : Int) + (k : Int) := IntWalk.i64_in _ ⟨by omega, by omega⟩
          have e2 : ((i : Int) + (k : Int)).toNat = i + k := by omega
          have e3 : IntKind.u64.wrap (p : Int) = (p : Int) := IntWalk.u64_in _ ⟨by omega, by omega⟩
          have e4 : IntKind.u64.wrap ((p : Int) + (o : Int)) = (p : Int) + (o : Int) := IntWalk.u64_in _ ⟨by omega, by omega⟩
          have e5 : IntKind.u64.wrap ((p : Int) + (o : Int) + (cc : Int)) = (p : Int) + (o : Int) + (cc : Int) := IntWalk.u64_in _ ⟨by omega, by omega⟩
          go_wp2_with fail
          go_quiet (fail)
          go_wp2_with fail
          go_roundw
          case rel => exact ⟨k + 1, (p + o + cc) / 4294967296, by omega, by go_num, int_eq (by omega), by omega, os.set (i + k) ((p + o + cc) % 4294967296), blk_end (HO.out.1.drewN _) (by omega), by rw [List.length_set]; exact HO.out.2.1, HO.out.2.2.1.set (by omega), pro_step HO.out.2.2.2.1 (by have := HO.out.2.1; omega) (by rw [EX.out.1, EX.out.2.1, EX.out.2.2.1, EX.out.2.2.2]), HO.out.2.2.2.2.1.set (by omega), (below_dN HO.out.2.2.2.2.2 _).setCell (p := ⟨w.heap.size, i + k, none⟩) (Nat.le_refl _) _⟩
          case measure => simp [intOf]; omega
        · obtain rfl : k = m := by omega
          have hfr : wr.frozen? ⟨w.heap.size, i + k, none⟩ = false := hbk.frozen (i + k)
          obtain ⟨o, ho⟩ : ∃ o, os.getD (i + k) 0 = o := ⟨_, rfl⟩
          have hco : wr.cell? ⟨w.heap.size, i + k, none⟩ = some (.int .u32 (o : Nat)) := by rw [← ho]; exact hbk.cell (by omega)
          clear hbk hlen hw hst hcl hbel ho
          have e2 : ((i : Int) + (k : Int)).toNat = i + k := by omega
          go_wp2_with fail
          go_roundw
          case rel =>
            have hlb : k = b.length := HL.out.2
            refine ⟨i + 1, by omega, by go_num, os.set (i + k) cc, blk_end HO.out.1 (by omega), by rw [List.length_set]; exact HO.out.2.1, HO.out.2.2.1.set hcc, ?_, by rw [show i + 1 + k = i + k + 1 by omega]; exact HO.out.2.2.2.2.1.step, HO.out.2.2.2.2.2.setCell (p := ⟨w.heap.size, i + k, none⟩) (Nat.le_refl _) _⟩
            have h1 := HO.out.2.2.2.1
            have h2 := HO.out.2.2.2.2.1
            have h3 := HO.out.2.1
            rw [hlb] at h1 h2 ⊢
            exact pro_next h1 h2 (by omega)
          case measure => simp [intOf]; omega
    · obtain rfl : i = n := by omega
      obtain ⟨os, hbk, hlen, hw, hst, hcl, hbel⟩ := hp.out
      have HO := Lib.hid (And.intro hbk (And.intro hlen (And.intro hw (And.intro hst hbel))))
      clear hbk hlen hw hst hcl hbel
      go_wp2_with fail
      have hms := HO.out.1.mag HO.out.2.2.1 (by rw [HO.out.2.1]; omega)
      rw [HO.out.2.1] at hms
      refine (cut_any _ _ _ hms).mono ?_
      rintro e w2 ⟨A2, k2, c2, -, rfl, hm2, rfl⟩
      rw [pro_end HO.out.2.2.2.1 (by have := HL.out; omega), HO.out.2.1] at hm2
      have HF := Lib.hid hm2
      clear hm2 hms
      go_wp2_with fail
      go_ret
      exact ⟨_, rfl, HF.out, HO.out.2.2.2.2⟩

/-- times: of two magnitudes -/
theorem times_mag (u v : Value) (m n L L' : Nat) (w : World) (hu : MagN w u m L) (hv : MagN w v n L') (hL : L ≤ 536870912) (hL' : L' ≤ 536870912) :
    Calls Tryd.prog 54 #[u, v] w fun e w' => ∃ x, e = .returned x ∧ MagN w' x (m * n) (L + L') ∧ Below w.heap.size w w' := by
  obtain ⟨a, h1, h2, rfl, h4⟩ := hu
  obtain ⟨b, g1, g2, rfl, g4⟩ := hv
  have h1' := h1
  have g1' := g1
  obtain ⟨A, ca, rfl, -⟩ := h1
  obtain ⟨B, cb, rfl, -⟩ := g1
  exact (times_core A B a.length b.length ca cb a b w h1' g1' (by omega) (by omega)).mono fun e w' ⟨x, he, hx, hb⟩ => ⟨x, he, hx.more (by omega), hb⟩
end Go.Proofs.YtiohemofidphjaaDoor.Bg
