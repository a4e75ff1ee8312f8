/- Y9 Y10 Y11 Y12 Y13 Y14 Y15 BN1 in one text. -/
import Derived.Test.YtgccfdfbnhldbaaGreatDoorP07
import Derived.Test.YtgccfdfbnhldbaaGreatDoorP10
import Derived.Test.YtgccfdfbnhldbaaGreatDoorP04
import Derived.Laws.BytesArg
import Derived.Lib.MinMax
import Derived.Test.YtgccfdfbnhldbaaGreatDoorP05

namespace Go.Proofs.YtgccfdfbnhldbaaGreatDoor.Nb
open Go Go.RowKit

theorem div_run (hi lo y : Nat) (w : World) (h1 : hi < y) (hy : y < 18446744073709551616) (l1 : lo < 18446744073709551616) :
    Calls Tryz.prog 199 #[.int .u64 (hi : Int), .int .u64 (lo : Int), .int .u64 (y : Int)] w fun e w' => e = .returned (.tuple #[.int .u64 (((hi * 18446744073709551616 + lo) / y : Nat) : Int), .int .u64 (((hi * 18446744073709551616 + lo) % y : Nat) : Int)]) ∧ ∃ n, w' = w.drewN n := by
  by_cases h : hi = 0
  · subst h
    refine (div64_small (lo : Int) (y : Int) w (by omega) (by omega) (by omega) (by omega)).mono ?_
    rintro e w' ⟨rfl, hd⟩
    exact ⟨by simp, hd⟩
  · refine (div64_big (hi : Int) (lo : Int) (y : Int) w (by omega) (by omega) (by omega) (by omega) (by omega)).mono ?_
    rintro e w' ⟨rfl, rfl⟩
    exact ⟨by simp, 0, rfl⟩
theorem short_step {m os : List Nat} {d k r t x q r' : Nat} (hk : ¬ k = 0) (hm : k ≤ m.length) (ho : k ≤ os.length) (hd : 0 < d) (h : QuoSt m os d k r) (hx : m.getD (k - 1) 0 = x) (ht : r * 18446744073709551616 + x = t) (hq : t / d = q) (hr : t % d = r') :
    QuoSt m (os.set (k - 1) q) d (k - 1) r' := by
  subst hq hr ht hx
  exact quo_step (i := k - 1) (by rw [show k - 1 + 1 = k by omega]; exact h) (by omega) (by omega) hd rfl

def ShortSt (w : World) (g n : Nat) (m : List Nat) (d i r : Nat) (wr : World) : Prop :=
  ∃ os, Blk wr g os ∧ os.length = n ∧ W64 os ∧ QuoSt m os d i r ∧ Below g w wr

set_option maxRecDepth 8000 in
set_option maxHeartbeats 2000000 in
theorem short_core (A : Option Addr) (n ca d : Nat) (m : List Nat) (w : World) (hm : Mag w (.slice A n ca) m) (hl : n ≤ 1073741824) (hd : 0 < d) (hd' : d < 18446744073709551616) :
    Calls Tryz.prog 159 #[.slice A n ca, .int .u64 (d : Int)] w fun e w' => ∃ A' k' c', e = .returned (.tuple #[.slice A' k' c', .int .u64 (val m % d : Nat)]) ∧ MagN w' (.slice A' k' c') (val m / d) n ∧ Below w.heap.size w w' := by
  have hla := hm.lenN
  have HA := Lib.hid hm
  have HL := Lib.hid hla
  have hmk := run_make_row' (P := Tryz.prog) 88 22 (.int .u64 0) 8 Tryz.underlying88 infoW rfl .i64 .i64 n (by omega) (by omega)
  clear hm hla
  go_enter Tryz.func159, Tryz.ntmps159
  go_wp2_with fail
  clear hmk
  have H0 := Lib.hid (show ShortSt w w.heap.size n m d n 0 (w.alloc (.cells (madeCells #[.int .u64 0] n) 22)) from ⟨_, Blk.made w n, by simp, W64.rep _, quo_start m d n (by have := HL.out; omega) hd, (Below.refl _ _).alloc (Nat.le_refl _) _⟩)
  go_loopw [7, 8] (fun r i wr => ∃ k rr : Nat, k ≤ n ∧ i = .int .i64 ((k : Int) - 1) ∧ r = .int .u64 (rr : Int) ∧ rr < d ∧ Hid (ShortSt w w.heap.size n m d k rr wr)) (fun _ i _ => (intOf i + 1).toNat)
  case atStart => exact ⟨n, 0, Nat.le_refl _, rfl, rfl, hd, H0⟩
  case round =>
    obtain ⟨k, rr, hk, rfl, rfl, hrr, hp⟩ := hrel
    obtain ⟨os, hbk, hlen, hw, hst, hbel⟩ := hp.out
    have HO := Lib.hid (And.intro hbk (And.intro hlen (And.intro hw (And.intro hst hbel))))
    by_cases hlt : k = 0
    · subst hlt
      clear hbk hlen hw hst hbel
      go_wp2_with fail
      have hms := HO.out.1.mag HO.out.2.2.1 (by rw [HO.out.2.1]; omega)
      rw [HO.out.2.1] at hms
      refine (norm_any _ _ _ hms).mono ?_
      rintro e w2 ⟨A2, k2, c2, -, rfl, hm2, rfl⟩
      have hq := quo_end HO.out.2.2.2.1 hd
      rw [hq.1, HO.out.2.1] at hm2
      have HF := Lib.hid (And.intro hm2 hq.2)
      clear hm2 hms hq
      go_wp2_with fail
      go_ret2
      exact ⟨A2, k2, c2, congrArg (fun z => Ending.returned (.tuple #[Value.slice A2 k2 c2, z])) (int_eq (by rw [← HF.out.2])), HF.out.1, HO.out.2.2.2.2⟩
    · obtain ⟨b1, o1, e1, hb1, hc1⟩ := HA.out.at (j := k - 1) (by omega)
      subst e1
      have hx := (hbel.cell (p := ⟨b1, o1 + (k - 1), none⟩) hb1).trans hc1
      obtain ⟨x, ex⟩ : ∃ x, m.getD (k - 1) 0 = x := ⟨_, rfl⟩
      have wx := HA.out.w32.get (k - 1)
      rw [ex] at hx wx
      have EX := Lib.hid ex
      obtain ⟨o, ho⟩ : ∃ o, os.getD (k - 1) 0 = o := ⟨_, rfl⟩
      have HFR := Lib.hid (fun nn => (show (wr.drewN nn).frozen? ⟨w.heap.size, k - 1, none⟩ = false from hbk.frozen (k - 1)))
      have HCO := Lib.hid (fun nn => (show (wr.drewN nn).cell? ⟨w.heap.size, k - 1, none⟩ = some (.int .u64 (o : Nat)) from by rw [← ho]; exact hbk.cell (by omega)))
      clear hbk hlen hw hst hc1 ex ho hb1 hbel
      have hk0 : (0 : Int) ≤ (k : Int) - 1 := by omega
      have hkn : (k : Int) - 1 < (n : Int) := by omega
      have hix : ((k : Int) - 1).toNat = k - 1 := by omega
      have HDV := Lib.hid (fun W => div_run rr x d W hrr hd' wx)
      obtain ⟨t, ht⟩ : ∃ t : Nat, rr * 18446744073709551616 + x = t := ⟨_, rfl⟩
      have t2 := quo_word hrr hd' wx
      rw [ht] at HDV t2
      obtain ⟨q, hq⟩ : ∃ q : Nat, t / d = q := ⟨_, rfl⟩
      obtain ⟨r, hr⟩ : ∃ r : Nat, t % d = r := ⟨_, rfl⟩
      have hrd : r < d := by rw [← hr]; exact Nat.mod_lt _ hd
      rw [hq, hr] at HDV
      rw [hq] at t2
      have HT := Lib.hid (And.intro ht (And.intro hq (And.intro hr t2)))
      clear ht hq hr t2
      go_wp2_with fail
      refine (HDV.out _).mono ?_
      rintro e w9 ⟨rfl, nn, rfl⟩
      have hfr := HFR.out nn
      have hco := HCO.out nn
      go_wp2_with fail
      go_roundw
      case rel => exact ⟨k - 1, r, by omega, int_eq (by omega), rfl, hrd, Lib.hid ⟨os.set (k - 1) q, blk_end (HO.out.1.drewN nn) rfl, by rw [List.length_set]; exact HO.out.2.1, HO.out.2.2.1.set HT.out.2.2.2, short_step hlt (by have := HL.out; omega) (by have := HO.out.2.1; omega) hd HO.out.2.2.2.1 EX.out HT.out.1 HT.out.2.1 HT.out.2.2.1, (below_dN HO.out.2.2.2.2 nn).setCell (p := ⟨w.heap.size, k - 1, none⟩) (Nat.le_refl _) _⟩⟩
      case measure => simp [intOf]; omega

/-- two answers in new memory -/
def Num2 (w : World) (m n L L' : Nat) (e : Ending) (w' : World) : Prop := ∃ A k c A' k' c', e = .returned (.tuple #[.slice A k c, .slice A' k' c']) ∧ MagN w' (.slice A k c) m L ∧ MagN w' (.slice A' k' c') n L' ∧ Below w.heap.size w w'
theorem MagN.cell {w : World} {v : Value} {d : Nat} (h : MagN w v d 1) (hd : 0 < d) : ∃ b off c, v = .slice (some ⟨b, off, none⟩) 1 c ∧ w.cell? ⟨b, off, none⟩ = some (.int .u64 (d : Nat)) ∧ b < w.heap.size ∧ d < 18446744073709551616 := by
  obtain ⟨ws, hm, hn, hv, hl⟩ := h
  match ws, hl with
  | [], _ => simp [val] at hv; omega
  | [x], _ =>
    have hx : x = d := by simpa [val] using hv
    subst hx
    obtain ⟨A, c, rfl, -, -, h4, h5⟩ := hm
    obtain ⟨b, off, rfl, hb, hc⟩ := h5 (by simp)
    have := hc 0 (by simp)
    exact ⟨b, off, c, rfl, by simpa using this, hb, h4 x (by simp)⟩
  | _ :: _ :: _, h => simp at h
theorem MagN.slice {w : World} {v : Value} {n L : Nat} (h : MagN w v n L) : ∃ A k c, v = .slice A k c := by
  obtain ⟨ws, ⟨A, c, rfl, -⟩, -⟩ := h
  exact ⟨A, _, c, rfl⟩
set_option maxRecDepth 8000 in
set_option maxHeartbeats 2000000 in
theorem quotient_one (u v : Value) (m d L : Nat) (w : World) (hu : MagN w u m L) (hv : MagN w v d 1) (hd : 0 < d) (hL : L ≤ 1073741824) (hL1 : 1 ≤ L) :
    Calls Tryz.prog 106 #[u, v] w (Num2 w (m / d) (m % d) L 1) := by
  have HCM := Lib.hid (compare_any u v m d L w hu (hv.more hL1) (by omega))
  have HU := Lib.hid hu
  obtain ⟨b, off, c, rfl, hcell, hb, hd64⟩ := hv.cell hd
  obtain ⟨A, k, cu, rfl⟩ := hu.slice
  by_cases hlt : m < d
  · have hq : m / d = 0 := Nat.div_eq_of_lt hlt
    have hr : m % d = m := Nat.mod_eq_of_lt hlt
    have hcmp : cmpN m d = -1 := by unfold cmpN; rw [if_pos hlt]
    rw [hq, hr]
    rw [hcmp] at HCM
    have HCL := Lib.hid (fun j => clone_any _ m L (w.drewN j) (show MagN (w.drewN j) _ m L from hu) (by omega))
    have HLT := Lib.hid (show m < 18446744073709551616 ^ 1 by rw [Nat.pow_one]; omega)
    clear hu hv hq hr hcmp hcell
    go_enter Tryz.func106, Tryz.ntmps106
    go_wp2_with fail
    refine HCM.out.mono ?_
    rintro e w1 ⟨rfl, j, rfl⟩
    go_wp2_with fail
    refine (HCL.out j).mono ?_
    rintro e w2 ⟨x, rfl, hx, hbx⟩
    have HX := Lib.hid (And.intro hx (show Below w.heap.size w w2 from (below_dN (Below.refl _ _) j).trans hbx))
    obtain ⟨A2, k2, c2, rfl⟩ := hx.slice
    clear hx hbx
    go_wp2_with fail
    go_ret2
    exact ⟨none, 0, 0, A2, k2, c2, rfl, ⟨[], Mag.nil w2 none 0 (by omega), .inl rfl, rfl, by simp⟩, HX.out.1.less HLT.out, HX.out.2⟩
  · have hcmp : ¬ cmpN m d < 0 := by unfold cmpN; rw [if_neg hlt]; split <;> omega
    obtain ⟨q, hq⟩ : ∃ q, cmpN m d = q := ⟨_, rfl⟩
    rw [hq] at HCM hcmp
    obtain ⟨ws, h1, h2, h3, h4⟩ := hu
    have hk := h1.lenN
    subst hk
    have HSH := Lib.hid (fun j => short_core A ws.length cu d ws (w.drewN j) (show Mag (w.drewN j) _ ws from h1) (by omega) hd hd64)
    rw [h3] at HSH
    have H4 := Lib.hid h4
    obtain ⟨kk, hkk⟩ : ∃ kk, ws.length = kk := ⟨_, rfl⟩
    rw [hkk] at HSH HCM H4 ⊢
    have hrd : m % d < 18446744073709551616 := Nat.lt_trans (Nat.mod_lt _ hd) hd64
    obtain ⟨mr, hmr⟩ : ∃ x, m % d = x := ⟨_, rfl⟩
    rw [hmr] at HSH hrd ⊢
    clear hv h1 h2 h3 h4 hq hkk hmr HU
    go_enter Tryz.func106, Tryz.ntmps106
    go_wp2_with fail
    refine HCM.out.mono ?_
    rintro e w1 ⟨rfl, j, rfl⟩
    go_wp2_with fail
    refine (HSH.out j).mono ?_
    rintro e w2 ⟨A2, k2, c2, rfl, hx, hbx⟩
    have HX := Lib.hid (And.intro hx (show Below w.heap.size w w2 from (below_dN (Below.refl _ _) j).trans hbx))
    have HWD := Lib.hid (word_any mr w2 hrd)
    clear hx hbx HSH
    go_wp2_with fail
    refine HWD.out.mono ?_
    rintro e w3 ⟨x, rfl, hx, hbx⟩
    have HY := Lib.hid (And.intro hx (And.intro (HX.out.1.below hbx) (show Below w.heap.size w w3 from HX.out.2.trans (hbx.mono HX.out.2.size))))
    obtain ⟨A3, k3, c3, rfl⟩ := hx.slice
    clear hx hbx
    go_wp2_with fail
    go_ret2
    exact ⟨A2, k2, c2, A3, k3, c3, rfl, HY.out.2.1.more H4.out, HY.out.1, HY.out.2.2⟩
end Go.Proofs.YtgccfdfbnhldbaaGreatDoor.Nb

namespace Go.Proofs.YtgccfdfbnhldbaaGreatDoor.Nb
open Go Go.RowKit

theorem low_mag (v : Value) (n L : Nat) (w : World) (h : MagN w v n L) : Calls Tryz.prog 105 #[v] w fun e w' => e = .returned (.int .u64 (n % 18446744073709551616 : Nat)) ∧ w = w' := by
  obtain ⟨ws, h1, h2, h3, h4⟩ := h
  have hq : ws.getD 0 0 = n % 18446744073709551616 := by
    match ws with
    | [] => simp [val] at h3; subst h3; rfl
    | x :: l =>
      have hx : x < 18446744073709551616 := h1.w32 x (by simp)
      rw [← h3]
      simp only [val, List.getD_cons_zero]
      omega
  have h1' := h1
  obtain ⟨A, c, rfl, -⟩ := h1
  rw [← hq]
  exact low_any A ws.length c ws w h1'
theorem one_lt {w : World} {v : Value} {n : Nat} (h : MagN w v n 1) : n < 18446744073709551616 := by
  obtain ⟨ws, h1, h2, h3, h4⟩ := h
  have := val_lt h1.w32
  have h5 : 18446744073709551616 ^ ws.length ≤ 18446744073709551616 ^ 1 := Nat.pow_le_pow_right (by omega) h4
  rw [Nat.pow_one] at h5
  omega
theorem low_one (v : Value) (n : Nat) (w : World) (h : MagN w v n 1) : Calls Tryz.prog 105 #[v] w fun e w' => e = .returned (.int .u64 (n : Int)) ∧ w = w' := by
  have h1 := low_mag v n 1 w h
  rw [Nat.mod_eq_of_lt (one_lt h)] at h1
  exact h1
set_option maxRecDepth 8000 in
set_option maxHeartbeats 4000000 in
theorem divisor_one (u v : Value) (m n : Nat) (w : World) (hu : MagN w u m 1) (hv : MagN w v n 1) : Calls Tryz.prog 191 #[u, v] w (Num w (Nat.gcd m n) 1) := by
  have HCM := Lib.hid (compare_any u v m n 1 w hu hv (by omega))
  obtain ⟨A1, k1, c1, rfl⟩ := hu.slice
  obtain ⟨A2, k2, c2, rfl⟩ := hv.slice
  have HU := Lib.hid hu
  have HV := Lib.hid hv
  by_cases hlt : m < n
  · skip
    obtain ⟨cq, hcq⟩ : ∃ q, cmpN m n = q := ⟨_, rfl⟩
    have hcmp : cq < 0 := by rw [← hcq]; unfold cmpN; rw [if_pos hlt]; omega
    rw [hcq] at HCM
    by_cases hz : k1 = 0
    · have HR : Hid (∀ j, MagN (w.drewN j) (.slice A2 k2 c2) (Nat.gcd m n) 1) := Lib.hid (fun j => by
        have hn0 : m = 0 := hu.len.1 hz
        rw [hn0]
        rw [Nat.gcd_zero_left]
        exact HV.out)
      subst hz
      have hkx : ¬ (1 : Int) < (k2 : Int) := by have := HV.out.len.2.2; omega
      clear hcq hu hv
      go_enter Tryz.func191, Tryz.ntmps191
      go_wp2_with fail
      refine HCM.out.mono ?_
      rintro e w1 ⟨rfl, j, rfl⟩
      go_wp2_with fail
      go_loopw [0, 1] (fun a b wr => a = .slice A2 k2 c2 ∧ b = .slice A1 0 c1 ∧ w.drewN j = wr) (fun _ _ _ => 0)
      case atStart => exact ⟨rfl, rfl, rfl⟩
      case round =>
        obtain ⟨rfl, rfl, rfl⟩ := hrel
        go_wp2_with fail
        go_ret
        exact ⟨_, rfl, HR.out j, below_dN (Below.refl _ _) j⟩
    · have hyp : 0 < m := by have := hu.len.2.1 hz; omega
      have hky : k1 = 1 := by have := hu.len.2.2; omega
      have hkx : k2 = 1 := by
        have h1 := hv.len.1
        have h2 := hv.len.2.2
        rcases Nat.eq_zero_or_pos k2 with q | q
        · have := h1 q; omega
        · omega
      subst hkx hky
      have HLX := Lib.hid (fun j => low_one _ n (w.drewN j) (show MagN (w.drewN j) _ n 1 from HV.out))
      have HLY := Lib.hid (fun j => low_one _ m (w.drewN j) (show MagN (w.drewN j) _ m 1 from HU.out))
      have HB := Lib.hid (And.intro (one_lt HV.out) (one_lt HU.out))
      have HG : Hid (Nat.gcd n m = Nat.gcd m n) := Lib.hid (Nat.gcd_comm _ _)
      clear hcq hu hv hyp
      go_enter Tryz.func191, Tryz.ntmps191
      go_wp2_with fail
      refine HCM.out.mono ?_
      rintro e w1 ⟨rfl, j, rfl⟩
      go_wp2_with fail
      go_loopw [0, 1] (fun a b wr => a = .slice A2 1 c2 ∧ b = .slice A1 1 c1 ∧ w.drewN j = wr) (fun _ _ _ => 0)
      case atStart => exact ⟨rfl, rfl, rfl⟩
      case round =>
        obtain ⟨rfl, rfl, rfl⟩ := hrel
        go_wp2_with fail
        refine (HLX.out j).mono ?_
        rintro e w2 ⟨rfl, rfl⟩
        go_wp2_with fail
        refine (HLY.out j).mono ?_
        rintro e w2 ⟨rfl, rfl⟩
        go_wp2_with fail
        go_loopw [11, 12] (fun av bv wr => ∃ a b i : Nat, av = .int .u64 (a : Int) ∧ bv = .int .u64 (b : Int) ∧ Hid (Nat.gcd a b = Nat.gcd m n ∧ a < 18446744073709551616 ∧ b < 18446744073709551616) ∧ w.drewN i = wr) (fun _ bv _ => (intOf bv).toNat)
        case atStart => exact ⟨n, m, j, rfl, rfl, Lib.hid ⟨by first | exact HG.out | rfl, HB.out.1, HB.out.2⟩, rfl⟩
        case round =>
          obtain ⟨a, b, i, rfl, rfl, hh, rfl⟩ := hrel
          by_cases hb : b = 0
          · subst hb
            have HW := Lib.hid (word_any a (w.drewN i) hh.out.2.1)
            go_wp2_with fail
            refine HW.out.mono ?_
            rintro e w3 ⟨x, rfl, hx, hbx⟩
            have HX := Lib.hid (And.intro hx (show Below w.heap.size w w3 from (below_dN (Below.refl _ _) i).trans hbx))
            obtain ⟨A3, k3, c3, rfl⟩ := hx.slice
            clear hx hbx
            go_wp2_with fail
            go_ret
            exact ⟨_, rfl, by have h := hh.out.1; rw [Nat.gcd_zero_right] at h; rw [← h]; exact HX.out.1, HX.out.2⟩
          · have hb0 : (0 : Int) < (b : Int) := by omega
            have hb1 : ¬ (b : Int) = 0 := by omega
            obtain ⟨r, hr⟩ : ∃ r, a % b = r := ⟨_, rfl⟩
            have hri : (a : Int) % (b : Int) = (r : Int) := by rw [← hr]; rfl
            have hrt : Int.tmod (a : Int) (b : Int) = (r : Int) := by rw [Int.tmod_eq_emod_of_nonneg (by omega)]; exact hri
            have HR := Lib.hid hr
            clear hr
            go_wp2_with fail
            go_region
            all_goals go_wp2_with fail
            go_roundw
            case rel => exact ⟨b, r, i + 1, rfl, rfl, Lib.hid ⟨by rw [← hh.out.1, ← HR.out, Nat.gcd_comm a b, Nat.gcd_rec b a, Nat.gcd_comm], hh.out.2.2, by have := Nat.mod_lt a (show 0 < b by omega); rw [HR.out] at this; have := hh.out.2.2; omega⟩, rfl⟩
            case measure => simp [intOf]; have := Nat.mod_lt a (show 0 < b by omega); rw [HR.out] at this; omega
  · skip
    obtain ⟨cq, hcq⟩ : ∃ q, cmpN m n = q := ⟨_, rfl⟩
    have hcmp : ¬ cq < 0 := by rw [← hcq]; unfold cmpN; rw [if_neg hlt]; split <;> omega
    rw [hcq] at HCM
    by_cases hz : k2 = 0
    · have HR : Hid (∀ j, MagN (w.drewN j) (.slice A1 k1 c1) (Nat.gcd m n) 1) := Lib.hid (fun j => by
        have hn0 : n = 0 := hv.len.1 hz
        rw [hn0]
        rw [Nat.gcd_zero_right]
        exact HU.out)
      subst hz
      have hkx : ¬ (1 : Int) < (k1 : Int) := by have := HU.out.len.2.2; omega
      clear hcq hu hv
      go_enter Tryz.func191, Tryz.ntmps191
      go_wp2_with fail
      refine HCM.out.mono ?_
      rintro e w1 ⟨rfl, j, rfl⟩
      go_wp2_with fail
      go_loopw [0, 1] (fun a b wr => a = .slice A1 k1 c1 ∧ b = .slice A2 0 c2 ∧ w.drewN j = wr) (fun _ _ _ => 0)
      case atStart => exact ⟨rfl, rfl, rfl⟩
      case round =>
        obtain ⟨rfl, rfl, rfl⟩ := hrel
        go_wp2_with fail
        go_ret
        exact ⟨_, rfl, HR.out j, below_dN (Below.refl _ _) j⟩
    · have hyp : 0 < n := by have := hv.len.2.1 hz; omega
      have hky : k2 = 1 := by have := hv.len.2.2; omega
      have hkx : k1 = 1 := by
        have h1 := hu.len.1
        have h2 := hu.len.2.2
        rcases Nat.eq_zero_or_pos k1 with q | q
        · have := h1 q; omega
        · omega
      subst hkx hky
      have HLX := Lib.hid (fun j => low_one _ m (w.drewN j) (show MagN (w.drewN j) _ m 1 from HU.out))
      have HLY := Lib.hid (fun j => low_one _ n (w.drewN j) (show MagN (w.drewN j) _ n 1 from HV.out))
      have HB := Lib.hid (And.intro (one_lt HU.out) (one_lt HV.out))
      have HG : Hid (Nat.gcd m n = Nat.gcd m n) := Lib.hid (rfl)
      clear hcq hu hv hyp
      go_enter Tryz.func191, Tryz.ntmps191
      go_wp2_with fail
      refine HCM.out.mono ?_
      rintro e w1 ⟨rfl, j, rfl⟩
      go_wp2_with fail
      go_loopw [0, 1] (fun a b wr => a = .slice A1 1 c1 ∧ b = .slice A2 1 c2 ∧ w.drewN j = wr) (fun _ _ _ => 0)
      case atStart => exact ⟨rfl, rfl, rfl⟩
      case round =>
        obtain ⟨rfl, rfl, rfl⟩ := hrel
        go_wp2_with fail
        refine (HLX.out j).mono ?_
        rintro e w2 ⟨rfl, rfl⟩
        go_wp2_with fail
        refine (HLY.out j).mono ?_
        rintro e w2 ⟨rfl, rfl⟩
        go_wp2_with fail
        go_loopw [11, 12] (fun av bv wr => ∃ a b i : Nat, av = .int .u64 (a : Int) ∧ bv = .int .u64 (b : Int) ∧ Hid (Nat.gcd a b = Nat.gcd m n ∧ a < 18446744073709551616 ∧ b < 18446744073709551616) ∧ w.drewN i = wr) (fun _ bv _ => (intOf bv).toNat)
        case atStart => exact ⟨m, n, j, rfl, rfl, Lib.hid ⟨by first | exact HG.out | rfl, HB.out.1, HB.out.2⟩, rfl⟩
        case round =>
          obtain ⟨a, b, i, rfl, rfl, hh, rfl⟩ := hrel
          by_cases hb : b = 0
          · subst hb
            have HW := Lib.hid (word_any a (w.drewN i) hh.out.2.1)
            go_wp2_with fail
            refine HW.out.mono ?_
            rintro e w3 ⟨x, rfl, hx, hbx⟩
            have HX := Lib.hid (And.intro hx (show Below w.heap.size w w3 from (below_dN (Below.refl _ _) i).trans hbx))
            obtain ⟨A3, k3, c3, rfl⟩ := hx.slice
            clear hx hbx
            go_wp2_with fail
            go_ret
            exact ⟨_, rfl, by have h := hh.out.1; rw [Nat.gcd_zero_right] at h; rw [← h]; exact HX.out.1, HX.out.2⟩
          · have hb0 : (0 : Int) < (b : Int) := by omega
            have hb1 : ¬ (b : Int) = 0 := by omega
            obtain ⟨r, hr⟩ : ∃ r, a % b = r := ⟨_, rfl⟩
            have hri : (a : Int) % (b : Int) = (r : Int) := by rw [← hr]; rfl
            have hrt : Int.tmod (a : Int) (b : Int) = (r : Int) := by rw [Int.tmod_eq_emod_of_nonneg (by omega)]; exact hri
            have HR := Lib.hid hr
            clear hr
            go_wp2_with fail
            go_region
            all_goals go_wp2_with fail
            go_roundw
            case rel => exact ⟨b, r, i + 1, rfl, rfl, Lib.hid ⟨by rw [← hh.out.1, ← HR.out, Nat.gcd_comm a b, Nat.gcd_rec b a, Nat.gcd_comm], hh.out.2.2, by have := Nat.mod_lt a (show 0 < b by omega); rw [HR.out] at this; have := hh.out.2.2; omega⟩, rfl⟩
            case measure => simp [intOf]; have := Nat.mod_lt a (show 0 < b by omega); rw [HR.out] at this; omega
end Go.Proofs.YtgccfdfbnhldbaaGreatDoor.Nb

namespace Go.Proofs.YtgccfdfbnhldbaaGreatDoor.Nb
open Go Go.RowKit

theorem two64 (s : Nat) (hs : s ≤ 64) : (18446744073709551616 : Nat) = 2 ^ s * 2 ^ (64 - s) := by
  rw [← Nat.pow_add, show s + (64 - s) = 64 by omega]
/-- ahead of word i of m: what stands in os -/
def LeftSt (m : List Nat) (q s : Nat) (os : List Nat) (i : Nat) : Prop :=
  val os = 18446744073709551616 ^ q * 2 ^ s * val (m.take i) ∧ os.getD (q + i) 0 < 2 ^ s ∧ Clear os (q + i + 1)
theorem left_start (m : List Nat) (q s n : Nat) : LeftSt m q s (List.replicate n 0) 0 := by
  refine ⟨by simp [val, val_rep], ?_, Clear.rep _ _⟩
  have := Clear.rep n 0 (q + 0) (by omega)
  rw [this]
  exact Nat.pow_pos (by omega)
theorem left_word {x s : Nat} (hx : x < 18446744073709551616) (hs : s < 64) : x * 2 ^ s < 340282366920938463463374607431768211456 ∧ x * 2 ^ s / 18446744073709551616 < 2 ^ s ∧ x * 2 ^ s / 18446744073709551616 < 18446744073709551616 ∧ ∃ c, x * 2 ^ s % 18446744073709551616 = 2 ^ s * c ∧ 2 ^ s * c + 2 ^ s ≤ 18446744073709551616 := by
  have h1 : x * 2 ^ s < 18446744073709551616 * 2 ^ s := Nat.mul_lt_mul_of_pos_right hx (Nat.pow_pos (by omega))
  have h2 : 2 ^ s ≤ 2 ^ 63 := Nat.pow_le_pow_right (by omega) (by omega)
  have h3 : x * 2 ^ s / 18446744073709551616 < 2 ^ s := Nat.div_lt_of_lt_mul h1
  have h4 := two64 s (by omega)
  refine ⟨by omega, h3, by omega, x % 2 ^ (64 - s), ?_, ?_⟩
  · rw [Nat.mul_comm x]
    conv => lhs; rw [h4]
    rw [Nat.mul_mod_mul_left]
  · have h5 : x % 2 ^ (64 - s) + 1 ≤ 2 ^ (64 - s) := Nat.mod_lt _ (Nat.pow_pos (by omega))
    have h6 := Nat.mul_le_mul_left (2 ^ s) h5
    rw [← h4, Nat.mul_add, Nat.mul_one] at h6
    exact h6
theorem left_step {m os : List Nat} {q s i t o : Nat} (h : LeftSt m q s os i) (hs : s < 64) (hm : W64 m) (ht : m.getD i 0 * 2 ^ s = t) (ho : os.getD (q + i) 0 = o) (hl : q + i + 1 < os.length) :
    LeftSt m q s ((os.set (q + i) (o + t % 18446744073709551616)).set (q + i + 1) (t / 18446744073709551616)) (i + 1) := by
  obtain ⟨h1, h2, h3⟩ := h
  have hw := left_word (hm.get i) hs
  rw [ht] at hw
  obtain ⟨-, w2, -, -⟩ := hw
  have s1 := set_val (os := os) (x := o + t % 18446744073709551616) (i := q + i) (by omega)
  have s2 := set_val (os := os.set (q + i) (o + t % 18446744073709551616)) (x := t / 18446744073709551616) (i := q + i + 1) (by rw [List.length_set]; omega)
  rw [set_getD_ne (by omega), h3 _ (Nat.le_refl _), Nat.mul_zero, Nat.add_zero] at s2
  rw [ho, Nat.mul_add] at s1
  refine ⟨?_, ?_, ?_⟩
  · have e : 18446744073709551616 ^ (q + i) * (t % 18446744073709551616) + 18446744073709551616 ^ (q + i + 1) * (t / 18446744073709551616) = 18446744073709551616 ^ (q + i) * t := by
      rw [Nat.pow_succ, Nat.mul_assoc, ← Nat.mul_add, Nat.mod_add_div]
    have e2 : 18446744073709551616 ^ (q + i) * t = 18446744073709551616 ^ q * 2 ^ s * (18446744073709551616 ^ i * m.getD i 0) := by
      rw [← ht, Nat.pow_add]
      simp only [Nat.mul_assoc, Nat.mul_left_comm, Nat.mul_comm]
    rw [val_take_succ', Nat.mul_add, ← h1, ← e2]
    omega
  · rw [show q + (i + 1) = q + i + 1 by omega, set_getD (by rw [List.length_set]; omega)]
    exact w2
  · rw [show q + (i + 1) + 1 = q + i + 1 + 1 by omega]
    exact Clear.step ((h3.set (by omega)))
theorem left_end {m os : List Nat} {q s n : Nat} (h : LeftSt m q s os n) (hn : m.length = n) : val os = val m * (18446744073709551616 ^ q * 2 ^ s) := by
  obtain ⟨h1, -, -⟩ := h
  rw [h1, List.take_of_length_le (by omega), Nat.mul_comm]

theorem or_high {o c s : Nat} (ho : o < 2 ^ s) (hc : 2 ^ s * c + 2 ^ s ≤ 18446744073709551616) : bits .or .u64 (o : Int) ((2 ^ s * c : Nat) : Int) = ((o + 2 ^ s * c : Nat) : Int) := by
  rw [u64_or_nat _ _ (by omega) (by omega)]
  rw [Nat.mul_comm, Nat.or_comm, show c * 2 ^ s = c <<< s by rw [Nat.shiftLeft_eq], ← Nat.shiftLeft_add_eq_or_of_lt ho, Nat.shiftLeft_eq, Nat.mul_comm, Nat.add_comm]
theorem hi_part {x s t : Nat} (hs : s < 64) (ht : x * 2 ^ s = t) : x / 2 ^ (64 - s) = t / 18446744073709551616 := by
  rw [← ht, two64 s (by omega), Nat.mul_comm x, Nat.mul_div_mul_left _ _ (Nat.pow_pos (by omega))]

def LeftW (w : World) (g n : Nat) (m : List Nat) (q s i : Nat) (wr : World) : Prop :=
  ∃ os, Blk wr g os ∧ os.length = n ∧ W64 os ∧ LeftSt m q s os i ∧ Below g w wr

set_option maxRecDepth 8000 in
set_option maxHeartbeats 2000000 in
theorem left_row (A : Option Addr) (M ca q s N : Nat) (m : List Nat) (w : World) (hm : Mag w (.slice A M ca) m) (hl : q + M ≤ 536870912) (hs : s < 64) (hN : N = 64 * q + s) (hM : 0 < M) :
    Calls Tryz.prog 101 #[.slice A M ca, .int .u64 (N : Int)] w fun e w' => ∃ (g k : Nat) (os : List Nat), e = .returned (.slice (some ⟨g, 0, none⟩) k (q + M + 1)) ∧ w.heap.size ≤ g ∧ Blk w' g os ∧ os.length = q + M + 1 ∧ W64 os ∧ k ≤ q + M + 1 ∧ Norm (os.take k) ∧ val (os.take k) = val m * (18446744073709551616 ^ q * 2 ^ s) ∧ Below w.heap.size w w' := by
  have hla := hm.lenN
  have HA := Lib.hid hm
  have HL := Lib.hid hla
  have hmk := run_make_row' (P := Tryz.prog) 88 22 (.int .u64 0) 8 Tryz.underlying88 infoW rfl .i64 .i64 (q + M + 1) (by omega) (by omega)
  have e1 : (N : Int) / 64 = (q : Int) := by omega
  have e2 : (N : Int) % 64 = (s : Int) := by omega
  have hN1 : (N : Int) ≤ 18446744073709551615 := by omega
  have hM0 : ¬ M = 0 := by omega
  have hqs : ((q + M + 1 : Nat) : Int) = (q : Int) + (M : Int) + 1 := by omega
  rw [hqs] at hmk
  clear hm hla hN hqs
  go_enter Tryz.func101, Tryz.ntmps101
  go_wp2_with fail
  clear hmk
  have H0 := Lib.hid (show LeftW w w.heap.size (q + M + 1) m q s 0 (w.alloc (.cells (madeCells #[.int .u64 0] (q + M + 1)) 22)) from ⟨_, Blk.made w (q + M + 1), by simp, W64.rep _, left_start _ _ _ _, (Below.refl _ _).alloc (Nat.le_refl _) _⟩)
  go_loopw [26] (fun i wr => ∃ k : Nat, k ≤ M ∧ i = .int .i64 k ∧ Hid (LeftW w w.heap.size (q + M + 1) m q s k wr)) (fun i _ => M - (intOf i).toNat)
  case atStart => exact ⟨0, Nat.zero_le _, rfl, H0⟩
  case round =>
    obtain ⟨k, hk, rfl, hp⟩ := hrel
    by_cases hlt : k < M
    · obtain ⟨os, hbk, hlen, hw, hst, hbel⟩ := hp.out
      have HO := Lib.hid (And.intro hbk (And.intro hlen (And.intro hw (And.intro hst hbel))))
      have hfr : wr.frozen? ⟨w.heap.size, q + k, none⟩ = false := hbk.frozen _
      have hfr2 : wr.frozen? ⟨w.heap.size, q + k + 1, none⟩ = false := hbk.frozen _
      obtain ⟨o, ho⟩ : ∃ o, os.getD (q + k) 0 = o := ⟨_, rfl⟩
      have hco : wr.cell? ⟨w.heap.size, q + k, none⟩ = some (.int .u64 (o : Nat)) := by rw [← ho]; exact hbk.cell (by omega)
      have hz := hst.2.2 (q + k + 1) (by omega)
      have hco2 : wr.cell? ⟨w.heap.size, q + k + 1, none⟩ = some (.int .u64 (0 : Nat)) := by rw [← hz]; exact hbk.cell (by omega)
      have hos := hst.2.1
      rw [ho] at hos
      obtain ⟨b1, o1, ea, hb1, hc1⟩ := HA.out.at hlt
      subst ea
      have hx := (hbel.cell (p := ⟨b1, o1 + k, none⟩) hb1).trans hc1
      obtain ⟨x, ex⟩ : ∃ x, m.getD k 0 = x := ⟨_, rfl⟩
      have wx := HA.out.w32.get k
      rw [ex] at hx wx
      obtain ⟨t1, t2, t3, c, t4, t5⟩ := left_word wx hs
      obtain ⟨t, ht⟩ : ∃ t, x * 2 ^ s = t := ⟨_, rfl⟩
      have hhi := hi_part hs ht
      rw [ht] at t1 t2 t3 t4
      have hwr : IntKind.u64.wrap ((x : Int) * 2 ^ s) = ((t % 18446744073709551616 : Nat) : Int) := by
        rw [show ((x : Int) * 2 ^ s) = ((x * 2 ^ s : Nat) : Int) by rw [Int.natCast_mul, Int.natCast_pow]; rfl, ht]
        rw [IntKind.wrap_u64]; omega
      have hor := or_high hos t5
      rw [← t4] at hor
      have hbd : o + t % 18446744073709551616 < 18446744073709551616 := by omega
      have EX := Lib.hid (And.intro ex (And.intro ht ho))
      have T := Lib.hid (And.intro t1 (And.intro t2 (And.intro t3 (And.intro hbd (And.intro hhi hor)))))
      clear hbk hlen hw hst hbel hc1 ex ho hb1 hz ht t1 t2 t3 t4 t5 hos hbd hhi hor
      go_wp2_with fail
      go_roundw
      case rel => exact ⟨k + 1, by omega, by go_num, _, blk_end (y := t / 18446744073709551616) (blk_end (y := o + t % 18446744073709551616) HO.out.1 (by rw [show ((t : Int) % 18446744073709551616) = ((t % 18446744073709551616 : Nat) : Int) by omega]; exact T.out.2.2.2.2.2)) (by rw [← T.out.2.2.2.2.1, Int.natCast_ediv, Int.natCast_pow]; rfl), by rw [List.length_set, List.length_set]; exact HO.out.2.1, (HO.out.2.2.1.set T.out.2.2.2.1).set T.out.2.2.1,
        left_step HO.out.2.2.2.1 hs HA.out.w32 (by rw [EX.out.1]; exact EX.out.2.1) EX.out.2.2 (by have := HO.out.2.1; omega), (HO.out.2.2.2.2.setCell (p := ⟨w.heap.size, q + k, none⟩) (Nat.le_refl _) _).setCell (p := ⟨w.heap.size, q + k + 1, none⟩) (Nat.le_refl _) _⟩
      case measure => simp [intOf]; omega
    · obtain rfl : k = M := by omega
      obtain ⟨os, hbk, hlen, hw, hst, hbel⟩ := hp.out
      have HO := Lib.hid (And.intro hbk (And.intro hlen (And.intro hw (And.intro hst hbel))))
      clear hbk hlen hw hst hbel
      go_wp2_with fail
      have hms := HO.out.1.mag HO.out.2.2.1 (by rw [HO.out.2.1]; omega)
      rw [HO.out.2.1] at hms
      have HV := Lib.hid (left_end HO.out.2.2.2.1 HL.out.symm)
      have hms' : Mag wr (.slice (some ⟨w.heap.size, 0, none⟩) os.length (q + k + 1)) os := by rw [HO.out.2.1]; exact hms
      have HN := Lib.hid (norm_core _ _ _ _ hms')
      rw [HO.out.2.1] at HN
      clear hms hms'
      refine HN.out.mono ?_
      rintro e w2 ⟨k2, hk2, rfl, hv2, hn2, rfl⟩
      have HF := Lib.hid (And.intro hk2 (And.intro hv2 hn2))
      clear hk2 hv2 hn2 HN
      go_wp2_with fail
      go_ret
      exact ⟨_, k2, os, rfl, Nat.le_refl _, HO.out.1, HO.out.2.1, HO.out.2.2.1, by have := HF.out.1; have := HO.out.2.1; omega, HF.out.2.2, HF.out.2.1.trans HV.out, HO.out.2.2.2.2⟩
/-- a row of its own, as a magnitude -/
theorem Blk.num {w : World} {g k c : Nat} {os : List Nat} (h : Blk w g os) (hl : os.length = c) (hc : c ≤ 9223372036854775807) (hw : W64 os) (hk : k ≤ c) (hn : Norm (os.take k)) : MagN w (.slice (some ⟨g, 0, none⟩) k c) (val (os.take k)) c := by
  subst hl
  exact ⟨os.take k, (h.mag hw hc).take hk, hn, rfl, by rw [List.length_take]; omega⟩
theorem left_core (A : Option Addr) (M ca q s N : Nat) (m : List Nat) (w : World) (hm : Mag w (.slice A M ca) m) (hl : q + M ≤ 536870912) (hs : s < 64) (hN : N = 64 * q + s) (hM : 0 < M) :
    Calls Tryz.prog 101 #[.slice A M ca, .int .u64 (N : Int)] w (Num w (val m * (18446744073709551616 ^ q * 2 ^ s)) (q + M + 1)) :=
  (left_row A M ca q s N m w hm hl hs hN hM).mono fun e w' ⟨g, k, os, he, _, hb, hlen, hw, hk, hn, hv, hbl⟩ => ⟨_, he, by rw [← hv]; exact hb.num hlen (by omega) hw hk hn, hbl⟩

theorem zero_in (w : World) (L : Nat) : MagN w (.slice none 0 0) 0 L := ⟨[], Mag.nil w none 0 (by omega), Or.inl rfl, rfl, Nat.zero_le _⟩
/-- left: a magnitude times 2 to the N-th -/
theorem left_any (v : Value) (X N L : Nat) (w : World) (h : MagN w v X L) (hL : L + N / 64 ≤ 536870912) :
    Calls Tryz.prog 101 #[v, .int .u64 (N : Int)] w (Num w (X * 2 ^ N) (L + N / 64 + 1)) := by
  obtain ⟨ws, h1, h2, rfl, h4⟩ := h
  have h1' := h1
  obtain ⟨A, c, rfl, -⟩ := h1
  have e : (2 : Nat) ^ N = 18446744073709551616 ^ (N / 64) * 2 ^ (N % 64) := by
    rw [show (18446744073709551616 : Nat) = 2 ^ 64 by decide, ← Nat.pow_mul, ← Nat.pow_add]
    congr 1
    omega
  rcases Nat.eq_zero_or_pos ws.length with h0 | h0
  · have hz : val ws = 0 := by rw [List.eq_nil_of_length_eq_zero h0]; rfl
    have HR : Hid (MagN w (.slice none 0 0) (val ws * 2 ^ N) (L + N / 64 + 1)) := Lib.hid (by rw [hz, Nat.zero_mul]; exact zero_in w _)
    rw [h0]
    clear h1' h2 h4 e hz h0
    go_enter Tryz.func101, Tryz.ntmps101
    go_wp2_with fail
    go_ret
    exact ⟨_, rfl, HR.out, Below.refl _ _⟩
  · rw [e]
    exact (left_core A ws.length c (N / 64) (N % 64) N ws w h1' (by omega) (by omega) (by omega) h0).mono fun e w' ⟨x, a, b, d⟩ => ⟨x, a, b.more (by omega), d⟩
theorem bitLenAux_le : ∀ f x, Lib.bitLenAux f x ≤ f := by
  intro f
  induction f with
  | zero => intro x; exact Nat.le_refl _
  | succ f ih => intro x; unfold Lib.bitLenAux; split; · omega
                 · have := ih (x / 2); omega
theorem bitLen_le (x : Nat) : Lib.bitLen x ≤ 64 := bitLenAux_le 64 x
end Go.Proofs.YtgccfdfbnhldbaaGreatDoor.Nb

namespace Go.Proofs.YtgccfdfbnhldbaaGreatDoor.Nb
open Go Go.RowKit

theorem pow_odd {a b n T : Nat} (h : a * b ^ n = T) (ho : n % 2 = 1) : (a * b) * (b * b) ^ (n / 2) = T := by
  have e : n = 2 * (n / 2) + 1 := by omega
  rw [← h]
  conv => rhs; rw [e]
  rw [Nat.pow_succ, Nat.pow_mul, show b ^ 2 = b * b by rw [Nat.pow_two], Nat.mul_assoc, Nat.mul_comm b]
theorem pow_even {a b n T : Nat} (h : a * b ^ n = T) (ho : n % 2 = 0) : a * (b * b) ^ (n / 2) = T := by
  have e : n = 2 * (n / 2) := by omega
  rw [← h]
  conv => rhs; rw [e]
  rw [Nat.pow_mul, show b ^ 2 = b * b by rw [Nat.pow_two]]
theorem pow_le1 {a b n T : Nat} (h : a * b ^ n = T) (hn : 0 < n) : a * b ≤ T := by
  rw [← h]
  refine Nat.mul_le_mul_left a ?_
  exact Nat.le_self_pow (by omega) b
theorem pow_le2 {a b n T : Nat} (h : a * b ^ n = T) (ha : 0 < a) (hb : 0 < b) (hn : 1 < n) : b * b ≤ T := by
  rw [← h]
  have h1 : b ^ 2 ≤ b ^ n := Nat.pow_le_pow_right hb hn
  rw [Nat.pow_two] at h1
  exact Nat.le_trans h1 (Nat.le_mul_of_pos_left _ ha)

end Go.Proofs.YtgccfdfbnhldbaaGreatDoor.Nb

namespace Go.Proofs.YtgccfdfbnhldbaaGreatDoor.Nb
open Go Go.RowKit

theorem ten_small {k : Nat} (h : k < 19) : 10 ^ k * 10 / 18446744073709551616 = 0 ∧ 10 ^ k * 10 % 18446744073709551616 = 10 ^ (k + 1) := by
  have h1 : 10 ^ k * 10 ≤ 10 ^ 19 := by
    rw [← Nat.pow_succ]; exact Nat.pow_le_pow_right (by omega) (by omega)
  have h2 : (10 : Nat) ^ 19 < 18446744073709551616 := by decide
  exact ⟨Nat.div_eq_of_lt (by omega), by rw [Nat.mod_eq_of_lt (by omega), Nat.pow_succ]⟩
theorem ten_lt {k : Nat} (h : k ≤ 19) : 10 ^ k < 18446744073709551616 := by
  have h1 : 10 ^ k ≤ 10 ^ 19 := Nat.pow_le_pow_right (by omega) h
  have h2 : (10 : Nat) ^ 19 < 18446744073709551616 := by decide
  omega
set_option maxRecDepth 8000 in
set_option maxHeartbeats 1000000 in
theorem unit_ten (w : World) : Calls Tryz.prog 189 #[.int .u64 10] w fun e w' => e = .returned (.tuple #[.int .u64 10000000000000000000, .int .i64 19]) ∧ w' = w := by
  have HM := fun (k : Nat) (h : k ≤ 19) (w : World) => Tryz.bits_Mul64 (10 ^ k) 10 (ten_lt h) (by omega) w
  go_enter Tryz.func189, Tryz.ntmps189
  go_wp2_with fail
  go_loop [4, 5] (fun a b => ∃ k t : Nat, k ≤ 19 ∧ a = .int .u64 (t : Int) ∧ b = .int .i64 (k : Int) ∧ Hid (10 ^ k = t)) (fun _ b => 20 - (intOf b).toNat)
  case atStart => exact ⟨1, 10, by omega, rfl, rfl, Lib.hid rfl⟩
  case round =>
    obtain ⟨k, t, hk, rfl, rfl, ht⟩ := hrel
    by_cases h : k = 19
    · subst h
      have h10 : t = 10000000000000000000 := by rw [← ht.out]
      subst h10
      have HM1 := HM 19 (by omega) w
      clear HM
      go_wp2_with fail
      refine HM1.mono ?_
      rintro e w9 ⟨rfl, rfl⟩
      go_wp2_with fail
      go_ret2
      exact ⟨rfl, rfl⟩
    · have HM1 := Lib.hid (HM k (by omega) w)
      have ht1 := ten_small (k := k) (by omega)
      rw [ht1.1, ht1.2] at HM1
      obtain ⟨t2, ht2⟩ : ∃ t2, 10 ^ (k + 1) = t2 := ⟨_, rfl⟩
      rw [ht2, ht.out] at HM1
      have HT := Lib.hid ht2
      clear HM ht1 ht2
      go_wp2_with fail
      refine HM1.out.mono ?_
      rintro e w9 ⟨rfl, rfl⟩
      go_wp2_with fail
      go_roundw
      case rel => exact ⟨k + 1, t2, by omega, rfl, by go_num, HT⟩
      case measure => simp [intOf]; omega

/-- what decimal digits say -/
def decN (l : List UInt8) : Nat := l.foldl (fun n b => n * 10 + (b.toNat - 48)) 0
theorem decN_snoc (l : List UInt8) (b : UInt8) : decN (l ++ [b]) = decN l * 10 + (b.toNat - 48) := by simp [decN]
theorem dec_acc : ∀ (l : List UInt8) (a : Nat), (∀ b ∈ l, 48 ≤ b.toNat ∧ b.toNat ≤ 57) → l.foldl (fun n b => n * 10 + (b.toNat - 48)) a < (a + 1) * 10 ^ l.length := by
  intro l
  induction l with
  | nil => intro a _; simp
  | cons b l ih =>
    intro a h
    have h1 := ih (a * 10 + (b.toNat - 48)) fun x hx => h x (by simp [hx])
    have h2 := h b (by simp)
    rw [List.foldl_cons, List.length_cons, Nat.pow_succ]
    have h3 : (a * 10 + (b.toNat - 48) + 1) * 10 ^ l.length ≤ ((a + 1) * 10) * 10 ^ l.length := Nat.mul_le_mul_right _ (by omega)
    have h4 : (a + 1) * (10 ^ l.length * 10) = ((a + 1) * 10) * 10 ^ l.length := by rw [Nat.mul_comm (10 ^ l.length), Nat.mul_assoc]
    omega
theorem decN_lt (l : List UInt8) (h : ∀ b ∈ l, 48 ≤ b.toNat ∧ b.toNat ≤ 57) : decN l < 10 ^ l.length := by
  have := dec_acc l 0 h
  rwa [Nat.zero_add, Nat.one_mul] at this
theorem take_snoc (s : ByteArray) (k : Nat) (h : k < s.size) : s.data.toList.take (k + 1) = s.data.toList.take k ++ [s[k]] := by
  rw [List.take_succ_eq_append_getElem (by simpa using h)]; rfl
end Go.Proofs.YtgccfdfbnhldbaaGreatDoor.Nb

namespace Go.Proofs.YtgccfdfbnhldbaaGreatDoor.Nb
open Go Go.RowKit

theorem infoU : (Tryz.prog.info? 5).map (fun i => (i.zero, i.size, i.bytes)) = some (some (.int .u8 0), 1, 1) := by kernel_rfl
theorem byte_new (w : World) (x : Int) (T : TypeId) : ∀ j u, [(Value.int .u8 x)][j]? = some u → (w.alloc (.cells #[.int .u8 x] T)).cell? ((⟨w.heap.size, 0, none⟩ : Addr).add j) = some u := by
  intro j u h
  have hj : j = 0 := by
    have := (List.getElem?_eq_some_iff.1 h).1
    simp at this
    omega
  subst hj
  simp at h
  subst h
  simp [go_sem, Addr.add]
/-- a row of bytes of a call's own -/
def Row (w : World) (B : Nat) (v : Value) (bs : List UInt8) : Prop := w.ownsRow B 5 1 v bs.length (bs.map fun b => .int .u8 (b.toNat : Int))
theorem MagN.zeroLen {w : World} {A : Option Addr} {k c L : Nat} (h : MagN w (.slice A k c) 0 L) : k = 0 := by
  rcases Nat.eq_zero_or_pos k with q | q
  · exact q
  · have := h.len.2.1 (by omega); omega
theorem MagN.one_len {w : World} {A : Option Addr} {k c n : Nat} (h : MagN w (.slice A k c) n 1) (hn : 0 < n) : k = 1 := by
  have h1 := h.len.1
  have h2 := h.len.2.2
  rcases Nat.eq_zero_or_pos k with q | q
  · have := h1 q; omega
  · omega
theorem MagN.mag {w : World} {A : Option Addr} {k c n L : Nat} (h : MagN w (.slice A k c) n L) : ∃ ws, Mag w (.slice A k c) ws ∧ val ws = n ∧ ws.length = k := by
  obtain ⟨ws, h1, h2, h3, h4⟩ := h
  exact ⟨ws, h1, h3, h1.lenN.symm⟩

theorem infoSc : (Tryz.prog.info? 241).map (fun i => (i.zero, i.size, i.bytes)) = some (some (.agg #[.slice none 0 0, .int .i64 0]), 2, 32) := by kernel_rfl
theorem own_slice {w : World} {B e size : Nat} {v : Value} {k : Nat} {xs : List Value} (h : w.ownsRow B e size v k xs) : ∃ A c, v = .slice A k c := by
  rcases h.2 with ⟨h1, h2⟩ | ⟨g, cap, cur, h1, -⟩
  · exact ⟨none, 0, by rw [h1, h2]⟩
  · exact ⟨_, _, h1⟩
theorem MagN.two_len {w : World} {A : Option Addr} {k c n : Nat} (h : MagN w (.slice A k c) n 2) (hn : 18446744073709551616 ≤ n) : k = 2 := by
  have h2 := h.len.2.2
  obtain ⟨ws, g1, g2, g3, g4⟩ := h
  have hl := g1.lenN
  rcases Nat.lt_or_ge k 2 with q | q
  · exfalso
    have := one_lt (w := w) (v := .slice A k c) (n := n) ⟨ws, g1, g2, g3, by omega⟩
    omega
  · omega
theorem two_new (w : World) (x y : Value) (T : TypeId) : ∀ j u, [x, y][j]? = some u → (w.alloc (.cells #[x, y] T)).cell? ((⟨w.heap.size, 0, none⟩ : Addr).add j) = some u := by
  intro j u h
  have hj : j < 2 := (List.getElem?_eq_some_iff.1 h).1
  rcases j with _ | _ | j
  · simp at h; subst h; simp [go_sem, Addr.add]
  · simp at h; subst h; simp [go_sem, Addr.add]
  · omega
end Go.Proofs.YtgccfdfbnhldbaaGreatDoor.Nb

namespace Go.Proofs.YtgccfdfbnhldbaaGreatDoor.Nb
open Go Go.RowKit

theorem sum_end' {a b os : List Nat} {n c : Nat} (h : SumSt a b os n c) (ha : a.length ≤ n) (hb : b.length ≤ n) (hn : os.length = n + 1) : val (os.set n c) = val a + val b := by
  unfold SumSt at h
  rw [List.take_of_length_le (l := a) (by omega), List.take_of_length_le (l := b) (by omega)] at h
  have h1 := val_take_succ' (os.set n c) n
  rw [List.take_of_length_le (by rw [List.length_set]; omega), set_take, set_getD (by omega)] at h1
  omega
def SumW (w : World) (g n : Nat) (a b : List Nat) (i c : Nat) (wr : World) : Prop :=
  ∃ os, Blk wr g os ∧ os.length = n + 1 ∧ W64 os ∧ SumSt a b os i c ∧ Below g w wr

set_option maxRecDepth 8000 in
set_option maxHeartbeats 2000000 in
theorem sum_core (A B : Option Addr) (n m ca cb : Nat) (a b : List Nat) (w : World) (ha : Mag w (.slice A n ca) a) (hb : Mag w (.slice B m cb) b) (hl : n ≤ 1073741824) (hm : m ≤ 1073741824) :
    Calls Tryz.prog 193 #[.slice A n ca, .slice B m cb] w (Num w (val a + val b) (max n m + 1)) := by
  have hla := ha.lenN
  have hlb := hb.lenN
  have HA := Lib.hid ha
  have HB := Lib.hid hb
  have HL := Lib.hid (And.intro hla hlb)
  obtain ⟨N, hN⟩ : ∃ N, max n m = N := ⟨_, rfl⟩
  have hNi : max (n : Int) (m : Int) = (N : Int) := by omega
  have hNb : n ≤ N ∧ m ≤ N ∧ N ≤ 1073741824 := by omega
  have hmk := run_make_row' (P := Tryz.prog) 88 22 (.int .u64 0) 8 Tryz.underlying88 infoW rfl .i64 .i64 (N + 1) (by omega) (by omega)
  rw [show ((N + 1 : Nat) : Int) = (N : Int) + 1 from by omega] at hmk
  rw [hN]
  obtain ⟨hN1, hN2, hN3⟩ := hNb
  clear ha hb hla hlb hN
  go_enter Tryz.func193, Tryz.ntmps193
  go_wp2_with fail
  clear hmk
  have H0 := Lib.hid (show SumW w w.heap.size N a b 0 0 (w.alloc (.cells (madeCells #[.int .u64 0] (N + 1)) 22)) from ⟨_, Blk.made w (N + 1), by simp, W64.rep _, by simp [SumSt, val], (Below.refl _ _).alloc (Nat.le_refl _) _⟩)
  go_loopw [7, 18] (fun cy i wr => ∃ k cc : Nat, k ≤ N ∧ i = .int .i64 k ∧ cy = .int .u64 cc ∧ cc ≤ 1 ∧ Hid (SumW w w.heap.size N a b k cc wr)) (fun _ i _ => N - (intOf i).toNat)
  case atStart => exact ⟨0, 0, Nat.zero_le _, rfl, rfl, by omega, H0⟩
  case round =>
    obtain ⟨k, cc, hk, rfl, rfl, hcc, hp⟩ := hrel
    by_cases hlt : k < N
    · obtain ⟨os, hbk, hlen, hw, hst, hbel⟩ := hp.out
      have HO := Lib.hid (And.intro hbk (And.intro hlen (And.intro hw (And.intro hst hbel))))
      have hfr : wr.frozen? ⟨w.heap.size, k, none⟩ = false := hbk.frozen k
      obtain ⟨o, ho⟩ : ∃ o, os.getD k 0 = o := ⟨_, rfl⟩
      have hco : wr.cell? ⟨w.heap.size, k, none⟩ = some (.int .u64 (o : Nat)) := by rw [← ho]; exact hbk.cell (by omega)
      have HDA := Lib.hid (digit_any A n ca k a wr (HA.out.below hbel) (by omega))
      have HDB := Lib.hid (digit_any B m cb k b wr (HB.out.below hbel) (by omega))
      obtain ⟨x, ex⟩ : ∃ x, a.getD k 0 = x := ⟨_, rfl⟩
      have wx := HA.out.w32.get k
      rw [ex] at HDA wx
      obtain ⟨y, ey⟩ : ∃ y, b.getD k 0 = y := ⟨_, rfl⟩
      have wy := HB.out.w32.get k
      rw [ey] at HDB wy
      have EX := Lib.hid (And.intro ex ey)
      have hadd := add_run x y cc hcc
      obtain ⟨t, ht⟩ : ∃ t, x + y + cc = t := ⟨_, rfl⟩
      rw [ht] at hadd
      obtain ⟨tl, htl⟩ : ∃ h, t % 18446744073709551616 = h := ⟨_, rfl⟩
      obtain ⟨th, hth⟩ : ∃ h, t / 18446744073709551616 = h := ⟨_, rfl⟩
      rw [htl, hth] at hadd
      have HT := Lib.hid (And.intro ht (And.intro htl (And.intro hth (show th ≤ 1 by omega))))
      clear hbk hlen hw hst hbel ex ey ho ht htl hth
      go_wp2_with fail
      refine HDA.out.mono ?_
      rintro e w9 ⟨rfl, rfl⟩
      go_wp2_with fail
      refine HDB.out.mono ?_
      rintro e w9 ⟨rfl, rfl⟩
      go_wp2_with fail
      go_roundw
      case rel => exact ⟨k + 1, th, by omega, by go_num, rfl, HT.out.2.2.2, Lib.hid ⟨os.set k tl, blk_end HO.out.1 rfl, by rw [List.length_set]; exact HO.out.2.1, HO.out.2.2.1.set (by have := HT.out; omega), by
        have h := sum_step (s := t) HO.out.2.2.2.1 (by have := HO.out.2.1; omega) (by rw [EX.out.1, EX.out.2, ← HT.out.1]; omega)
        rw [HT.out.2.1, HT.out.2.2.1] at h
        exact h, HO.out.2.2.2.2.setCell (p := ⟨w.heap.size, k, none⟩) (Nat.le_refl _) _⟩⟩
      case measure => simp [intOf]; omega
    · obtain rfl : k = N := by omega
      obtain ⟨os, hbk, hlen, hw, hst, hbel⟩ := hp.out
      have hfr : wr.frozen? ⟨w.heap.size, k, none⟩ = false := hbk.frozen k
      obtain ⟨o, ho⟩ : ∃ o, os.getD k 0 = o := ⟨_, rfl⟩
      have hco : wr.cell? ⟨w.heap.size, k, none⟩ = some (.int .u64 (o : Nat)) := by rw [← ho]; exact hbk.cell (by omega)
      have hbk2 := blk_end (k := k) (y := cc) hbk rfl
      have hms := hbk2.mag (hw.set (by omega)) (by rw [List.length_set]; omega)
      have hv := sum_end' hst (by have := HL.out; omega) (by have := HL.out; omega) hlen
      have HB2 := Lib.hid (hbel.setCell (p := ⟨w.heap.size, k, none⟩) (Nat.le_refl _) (.int .u64 (cc : Int)))
      have HM := Lib.hid (norm_any _ _ _ hms)
      rw [hv, List.length_set, hlen] at HM
      clear hbk hlen hw hst hbel hms hbk2 hv ho
      go_wp2_with fail
      refine HM.out.mono ?_
      rintro e w2 ⟨A2, k2, c2, -, rfl, hm2, rfl⟩
      have HF := Lib.hid hm2
      clear hm2
      go_wp2_with fail
      go_ret
      exact ⟨_, rfl, HF.out, HB2.out⟩

theorem sum_mag (u v : Value) (m n L L' : Nat) (w : World) (hu : MagN w u m L) (hv : MagN w v n L') (hL : L ≤ 1073741824) (hL' : L' ≤ 1073741824) :
    Calls Tryz.prog 193 #[u, v] w (Num w (m + n) (max L L' + 1)) := by
  obtain ⟨a, h1, h2, rfl, h4⟩ := hu
  obtain ⟨b, g1, g2, rfl, g4⟩ := hv
  have h1' := h1
  have g1' := g1
  obtain ⟨A, ca, rfl, -⟩ := h1
  obtain ⟨B, cb, rfl, -⟩ := g1
  exact (sum_core A B a.length b.length ca cb a b w h1' g1' (by omega) (by omega)).mono fun e w' ⟨x, he, hx, hb⟩ => ⟨x, he, hx.more (by omega), hb⟩
theorem sum_one (u v : Value) (m n : Nat) (w : World) (hu : MagN w u m 1) (hv : MagN w v n 1) (h : m + n < 18446744073709551616) :
    Calls Tryz.prog 193 #[u, v] w (Num w (m + n) 1) :=
  (sum_mag u v m n 1 1 w hu hv (by omega) (by omega)).mono fun e w' ⟨x, a, b, d⟩ => ⟨x, a, b.less (by rw [Nat.pow_one]; exact h), d⟩

def DifW (w : World) (g n : Nat) (a b : List Nat) (i c : Nat) (wr : World) : Prop :=
  ∃ os, Blk wr g os ∧ os.length = n ∧ W64 os ∧ DifSt a b os i c ∧ Below g w wr
theorem dif_step {a b os : List Nat} {i c x y o c' : Nat} (h : DifSt a b os i c) (hi : i < os.length) (hc : c ≤ 1) (hx : a.getD i 0 = x) (hy : b.getD i 0 = y) (wx : x < 18446744073709551616) (wy : y < 18446744073709551616)
    (ho : (x + 18446744073709551616 - y - c) % 18446744073709551616 = o) (hc' : (if x < y + c then 1 else 0 : Nat) = c') : DifSt a b (os.set i o) (i + 1) c' := by
  subst hx hy
  by_cases q : a.getD i 0 < b.getD i 0 + c
  · rw [if_pos q] at hc'
    subst hc'
    have h1 := dif_yes h hi (by omega) (by omega)
    rw [show o = a.getD i 0 + 18446744073709551616 - (c + b.getD i 0) by omega]
    exact h1
  · rw [if_neg q] at hc'
    subst hc'
    have h1 := dif_no h hi (by omega)
    rw [show o = a.getD i 0 - (c + b.getD i 0) by omega]
    exact h1
set_option maxRecDepth 8000 in
set_option maxHeartbeats 2000000 in
theorem less_core (A B : Option Addr) (n m ca cb : Nat) (a b : List Nat) (w : World) (ha : Mag w (.slice A n ca) a) (hb : Mag w (.slice B m cb) b) (hl : n ≤ 1073741824) (hm : m ≤ n) (hle : val b ≤ val a) :
    Calls Tryz.prog 194 #[.slice A n ca, .slice B m cb] w (Num w (val a - val b) n) := by
  have hla := ha.lenN
  have hlb := hb.lenN
  have HA := Lib.hid ha
  have HB := Lib.hid hb
  have HL := Lib.hid (And.intro hla (And.intro hlb hle))
  have hmk := run_make_row' (P := Tryz.prog) 88 22 (.int .u64 0) 8 Tryz.underlying88 infoW rfl .i64 .i64 n (by omega) (by omega)
  clear ha hb hla hlb hle
  go_enter Tryz.func194, Tryz.ntmps194
  go_wp2_with fail
  clear hmk
  have H0 := Lib.hid (show DifW w w.heap.size n a b 0 0 (w.alloc (.cells (madeCells #[.int .u64 0] n) 22)) from ⟨_, Blk.made w n, by simp, W64.rep _, by simp [DifSt, val], (Below.refl _ _).alloc (Nat.le_refl _) _⟩)
  go_loopw [6, 13] (fun cy i wr => ∃ k cc : Nat, k ≤ n ∧ i = .int .i64 k ∧ cy = .int .u64 cc ∧ cc ≤ 1 ∧ Hid (DifW w w.heap.size n a b k cc wr)) (fun _ i _ => n - (intOf i).toNat)
  case atStart => exact ⟨0, 0, Nat.zero_le _, rfl, rfl, by omega, H0⟩
  case round =>
    obtain ⟨k, cc, hk, rfl, rfl, hcc, hp⟩ := hrel
    by_cases hlt : k < n
    · obtain ⟨os, hbk, hlen, hw, hst, hbel⟩ := hp.out
      have HO := Lib.hid (And.intro hbk (And.intro hlen (And.intro hw (And.intro hst hbel))))
      have hfr : wr.frozen? ⟨w.heap.size, k, none⟩ = false := hbk.frozen k
      obtain ⟨o, ho⟩ : ∃ o, os.getD k 0 = o := ⟨_, rfl⟩
      have hco : wr.cell? ⟨w.heap.size, k, none⟩ = some (.int .u64 (o : Nat)) := by rw [← ho]; exact hbk.cell (by omega)
      have HDB := Lib.hid (fun j => digit_any B m cb k b (wr.drewN j) (show Mag wr _ b from HB.out.below hbel) (by omega))
      obtain ⟨b1, o1, e1, hb1, hc1⟩ := HA.out.at hlt
      subst e1
      have hx := (hbel.cell (p := ⟨b1, o1 + k, none⟩) hb1).trans hc1
      obtain ⟨x, ex⟩ : ∃ x, a.getD k 0 = x := ⟨_, rfl⟩
      have wx := HA.out.w32.get k
      rw [ex] at hx wx
      obtain ⟨y, ey⟩ : ∃ y, b.getD k 0 = y := ⟨_, rfl⟩
      have wy := HB.out.w32.get k
      rw [ey] at HDB wy
      have EX := Lib.hid (And.intro ex ey)
      have hsub := sub_run x y cc hcc
      obtain ⟨tl, htl⟩ : ∃ h, (x + 18446744073709551616 - y - cc) % 18446744073709551616 = h := ⟨_, rfl⟩
      obtain ⟨th, hth⟩ : ∃ h, (if x < y + cc then 1 else 0 : Nat) = h := ⟨_, rfl⟩
      rw [htl, hth] at hsub
      have HT := Lib.hid (And.intro htl (And.intro hth (And.intro (show th ≤ 1 by rw [← hth]; split <;> omega) (And.intro wx wy))))
      clear hbk hlen hw hst hbel ex ey ho htl hth hc1 hb1
      go_wp2_with fail
      go_region_with (go_at_call 151; refine (HDB.out _).mono ?_; rintro e w9 ⟨rfl, rfl⟩)
      all_goals go_wp2_with fail
      all_goals go_roundw
      all_goals first
        | (simp [intOf]; omega)
        | exact ⟨k + 1, th, by omega, by go_num, rfl, HT.out.2.2.1, Lib.hid ⟨os.set k tl, blk_end HO.out.1 rfl, by rw [List.length_set]; exact HO.out.2.1, HO.out.2.2.1.set (by have := HT.out.1; omega), dif_step HO.out.2.2.2.1 (by have := HO.out.2.1; omega) hcc EX.out.1 EX.out.2 HT.out.2.2.2.1 HT.out.2.2.2.2 HT.out.1 HT.out.2.1, (below_dN HO.out.2.2.2.2 1).setCell (p := ⟨w.heap.size, k, none⟩) (Nat.le_refl _) _⟩⟩
    · obtain rfl : k = n := by omega
      obtain ⟨os, hbk, hlen, hw, hst, hbel⟩ := hp.out
      have hms := hbk.mag hw (by omega)
      have hv := dif_end hst HL.out.1.symm (by have := HL.out; omega) hlen hw HL.out.2.2
      have HB2 := Lib.hid hbel
      have HM := Lib.hid (norm_any _ _ _ hms)
      rw [hv, hlen] at HM
      clear hbk hlen hw hst hbel hms hv
      go_wp2_with fail
      refine HM.out.mono ?_
      rintro e w2 ⟨A2, k2, c2, -, rfl, hm2, rfl⟩
      have HF := Lib.hid hm2
      clear hm2
      go_wp2_with fail
      go_ret
      exact ⟨_, rfl, HF.out, HB2.out⟩
end Go.Proofs.YtgccfdfbnhldbaaGreatDoor.Nb

namespace Go.Proofs.YtgccfdfbnhldbaaGreatDoor.Nb
open Go Go.RowKit

/-- a place in a text; r: what is left of it -/
def CurR (w : World) (b : Nat) (s : ByteArray) (r : List UInt8) : Prop := ∃ k, CurAt w b s k ∧ k ≤ s.size ∧ s.data.toList.drop k = r
theorem CurR.kept {w w' : World} {b c : Nat} {s : ByteArray} {r : List UInt8} (h : CurR w b s r) (q : Kept w w' c) (hne : b ≠ c) : CurR w' b s r := by
  obtain ⟨k, ⟨h1, h2, h3, h4⟩, hk, hr⟩ := h
  exact ⟨k, ⟨Nat.lt_of_lt_of_le h1 q.size, (q.cell (p := ⟨b, 0, none⟩) h1 hne).trans h2, (q.cell (p := ⟨b, 1, none⟩) h1 hne).trans h3, (q.frozen (p := ⟨b, 1, none⟩) h1 hne).trans h4⟩, hk, hr⟩
theorem CurR.below {w w' : World} {b B : Nat} {s : ByteArray} {r : List UInt8} (h : CurR w b s r) (hb : Below B w w') (hB : w.heap.size ≤ B) : CurR w' b s r := by
  obtain ⟨k, h1, hk, hr⟩ := h
  exact ⟨k, h1.below hb hB, hk, hr⟩
theorem size_list (s : ByteArray) : s.data.toList.length = s.size := by simp
theorem extract_list (s : ByteArray) (k n : Nat) : (s.extract k (k + n)).data.toList = (s.data.toList.drop k).take n := by
  rw [ByteArray.data_extract, Array.toList_extract]
  simp [List.extract_eq_take_drop]
theorem bytes_eq {s : ByteArray} {l : List UInt8} (h : s.data.toList = l) : s = ⟨l.toArray⟩ := by
  cases s with | mk d => simp only at h; rw [← h]
theorem takeR_yes (b : Nat) (s : ByteArray) (c : UInt8) (r : List UInt8) (w : World) (h : CurR w b s (c :: r)) (hs : s.size ≤ 4611686018427387904) :
    Calls Tryz.prog 67 #[.pointer (some ⟨b, 0, none⟩), .string ⟨#[c]⟩] w fun e w' => e = .returned (.bool true) ∧ CurR w' b s r ∧ Below b w w' ∧ Kept w w' b := by
  obtain ⟨k, hc, hk, hr⟩ := h
  have hl : k + 1 ≤ s.size := by
    have h1 := congrArg List.length hr
    rw [List.length_drop, size_list] at h1
    simp at h1
    omega
  have he : s.extract k (k + (⟨#[c]⟩ : ByteArray).size) = ⟨#[c]⟩ := by
    have : (s.extract k (k + 1)).data.toList = [c] := by rw [extract_list, hr]; rfl
    exact bytes_eq this
  refine (take_yes b k s ⟨#[c]⟩ w hc hl hs he).mono ?_
  rintro e w' ⟨rfl, h1, h2, h3⟩
  refine ⟨rfl, ⟨k + 1, h1, hl, ?_⟩, h2, h3⟩
  rw [← List.drop_drop, hr]
  rfl
theorem takeR_no (b : Nat) (s : ByteArray) (c : UInt8) (r : List UInt8) (w : World) (h : CurR w b s r) (hn : r.head? ≠ some c) :
    Calls Tryz.prog 67 #[.pointer (some ⟨b, 0, none⟩), .string ⟨#[c]⟩] w fun e w' => e = .returned (.bool false) ∧ ∃ n, w' = w.drewN n := by
  obtain ⟨k, hc, hk, hr⟩ := h
  refine take_no b k s ⟨#[c]⟩ w hc hk ?_
  rintro ⟨h1, h2⟩
  apply hn
  rw [Lib.toList_data, Lib.toList_data] at h2
  have h3 : (s.extract k (k + 1)).data.toList = [c] := h2
  rw [extract_list, hr] at h3
  match r, h3 with
  | a :: t, h3 => simp at h3; subst h3; rfl
theorem digitsR (b : Nat) (s : ByteArray) (D r : List UInt8) (w : World) (h : CurR w b s (D ++ r)) (hs : s.size ≤ 4611686018427387904) (hd : ∀ x ∈ D, 48 ≤ x.toNat ∧ x.toNat ≤ 57)
    (he : ∀ x, r.head? = some x → x.toNat < 48 ∨ (57 < x.toNat ∧ x.toNat < 128)) :
    Calls Tryz.prog 77 #[.pointer (some ⟨b, 0, none⟩)] w fun e w' => e = .returned (.string ⟨D.toArray⟩) ∧ CurR w' b s r ∧ Below b w w' ∧ Kept w w' b := by
  obtain ⟨k, hc, hk, hr⟩ := h
  have hl : s.size = k + D.length + r.length := by
    have h1 := congrArg List.length hr
    rw [List.length_drop, size_list, List.length_append] at h1
    omega
  have hget : ∀ i, s.data.toList.getD (k + i) 0 = (D ++ r).getD i 0 := fun i => by
    rw [← hr, List.getD_eq_getElem?_getD, List.getD_eq_getElem?_getD, List.getElem?_drop]
  have hx : s.extract k (k + D.length) = ⟨D.toArray⟩ := bytes_eq (by rw [extract_list, hr]; simp)
  have := digits_any b k D.length s w hc (by omega) hs (fun i hi => by
    rw [hget, List.getD_eq_getElem?_getD, List.getElem?_append_left hi, List.getElem?_eq_getElem hi]
    exact hd _ (List.getElem_mem hi)) (by
    rw [hget, List.getD_eq_getElem?_getD, List.getElem?_append_right (Nat.le_refl _), Nat.sub_self]
    match r, he with
    | [], _ => left; simp at hl; omega
    | x :: t, he => right; exact he x rfl)
  rw [hx] at this
  refine this.mono ?_
  rintro e w' ⟨rfl, h1, h2, h3⟩
  refine ⟨rfl, ⟨k + D.length, h1, by omega, ?_⟩, h2, h3⟩
  rw [← List.drop_drop, hr]
  simp
theorem endR (b : Nat) (s : ByteArray) (r : List UInt8) (w : World) (h : CurR w b s r) :
    Calls Tryz.prog 69 #[.pointer (some ⟨b, 0, none⟩)] w fun e w' => e = .returned (.bool (decide (r = []))) ∧ ∃ n, w' = w.drewN n := by
  obtain ⟨k, hc, hk, hr⟩ := h
  refine end_any b k s w hc _ ?_
  apply decide_eq_decide.2
  have h1 := congrArg List.length hr
  rw [List.length_drop, size_list] at h1
  constructor
  · intro h; rw [h] at h1; simp at h1; omega
  · intro h; rw [h, Nat.sub_self] at h1; exact List.eq_nil_of_length_eq_zero h1.symm
end Go.Proofs.YtgccfdfbnhldbaaGreatDoor.Nb
