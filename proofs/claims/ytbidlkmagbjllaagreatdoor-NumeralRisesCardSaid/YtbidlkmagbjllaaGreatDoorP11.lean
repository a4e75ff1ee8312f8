/- Y9 Y10 Y11 Y12 Y13 BN1 in one text. -/
import Derived.Test.YtbidlkmagbjllaaGreatDoorP07
import Derived.Test.YtbidlkmagbjllaaGreatDoorP10
import Derived.Test.YtbidlkmagbjllaaGreatDoorP04
import Derived.Test.YtbidlkmagbjllaaGreatDoorP05

namespace Go.Proofs.YtbidlkmagbjllaaGreatDoor.Nb
open Go Go.RowKit

theorem div_run (hi lo y : Nat) (w : World) (h1 : hi < y) (hy : y < 18446744073709551616) (l1 : lo < 18446744073709551616) :
    Calls Tryz.prog 194 #[.int .u64 (hi : Int), .int .u64 (lo : Int), .int .u64 (y : Int)] w fun e w' => e = .returned (.tuple #[.int .u64 (((hi * 18446744073709551616 + lo) / y : Nat) : Int), .int .u64 (((hi * 18446744073709551616 + lo) % y : Nat) : Int)]) ∧ ∃ n, w' = w.drewN n := by
  by_cases h : hi = 0
  · subst h
    refine (div64_small (lo : Int) (y : Int) w (by omega) (by omega) (by omega) (by omega)).mono ?_
    rintro e w' ⟨rfl, hd⟩
    exact ⟨by simp, hd⟩
  · refine (div64_big (hi : Int) (lo : Int) (y : Int) w (by omega) (by omega) (by omega) (by omega) (by omega)).mono ?_
    rintro e w' ⟨rfl, rfl⟩
    exact ⟨by simp, 0, rfl⟩
theorem short_step {m os : List Nat} {d k r t x q r' : Nat} (hk : ¬ k = 0) (hm : k ≤ m.length) (ho : k ≤ os.length) (hd : 0 < d) (h : QuoSt m os d k r) (hx : m.getD (k - 1) 0 = x) (ht : r * 18446744073709551616 + x = t) (hq : t / d = q) (hr : t % d = r') :
    QuoSt m (os.set (k - 1) q) d (k - 1) r' := by
  subst hq hr ht hx
  exact quo_step (i := k - 1) (by rw [show k - 1 + 1 = k by omega]; exact h) (by omega) (by omega) hd rfl

def ShortSt (w : World) (g n : Nat) (m : List Nat) (d i r : Nat) (wr : World) : Prop :=
  ∃ os, Blk wr g os ∧ os.length = n ∧ W64 os ∧ QuoSt m os d i r ∧ Below g w wr

set_option maxRecDepth 8000 in
set_option maxHeartbeats 2000000 in
theorem short_core (A : Option Addr) (n ca d : Nat) (m : List Nat) (w : World) (hm : Mag w (.slice A n ca) m) (hl : n ≤ 1073741824) (hd : 0 < d) (hd' : d < 18446744073709551616) :
    Calls Tryz.prog 161 #[.slice A n ca, .int .u64 (d : Int)] w fun e w' => ∃ A' k' c', e = .returned (.tuple #[.slice A' k' c', .int .u64 (val m % d : Nat)]) ∧ MagN w' (.slice A' k' c') (val m / d) n ∧ Below w.heap.size w w' := by
  have hla := hm.lenN
  have HA := Lib.hid hm
  have HL := Lib.hid hla
  have hmk := run_make_row' (P := Tryz.prog) 100 74 (.int .u64 0) 8 Tryz.underlying100 infoW rfl .i64 .i64 n (by omega) (by omega)
  clear hm hla
  go_enter Tryz.func161, Tryz.ntmps161
  go_wp2_with fail
  clear hmk
  have H0 := Lib.hid (show ShortSt w w.heap.size n m d n 0 (w.alloc (.cells (madeCells #[.int .u64 0] n) 74)) from ⟨_, Blk.made w n, by simp, W64.rep _, quo_start m d n (by have := HL.out; omega) hd, (Below.refl _ _).alloc (Nat.le_refl _) _⟩)
  go_loopw [7, 8] (fun r i wr => ∃ k rr : Nat, k ≤ n ∧ i = .int .i64 ((k : Int) - 1) ∧ r = .int .u64 (rr : Int) ∧ rr < d ∧ Hid (ShortSt w w.heap.size n m d k rr wr)) (fun _ i _ => (intOf i + 1).toNat)
  case atStart => exact ⟨n, 0, Nat.le_refl _, rfl, rfl, hd, H0⟩
  case round =>
    obtain ⟨k, rr, hk, rfl, rfl, hrr, hp⟩ := hrel
    obtain ⟨os, hbk, hlen, hw, hst, hbel⟩ := hp.out
    have HO := Lib.hid (And.intro hbk (And.intro hlen (And.intro hw (And.intro hst hbel))))
    by_cases hlt : k = 0
    · subst hlt
      clear hbk hlen hw hst hbel
      go_wp2_with fail
      have hms := HO.out.1.mag HO.out.2.2.1 (by rw [HO.out.2.1]; omega)
      rw [HO.out.2.1] at hms
      refine (norm_any _ _ _ hms).mono ?_
      rintro e w2 ⟨A2, k2, c2, -, rfl, hm2, rfl⟩
      have hq := quo_end HO.out.2.2.2.1 hd
      rw [hq.1, HO.out.2.1] at hm2
      have HF := Lib.hid (And.intro hm2 hq.2)
      clear hm2 hms hq
      go_wp2_with fail
      go_ret2
      exact ⟨A2, k2, c2, congrArg (fun z => Ending.returned (.tuple #[Value.slice A2 k2 c2, z])) (int_eq (by rw [← HF.out.2])), HF.out.1, HO.out.2.2.2.2⟩
    · obtain ⟨b1, o1, e1, hb1, hc1⟩ := HA.out.at (j := k - 1) (by omega)
      subst e1
      have hx := (hbel.cell (p := ⟨b1, o1 + (k - 1), none⟩) hb1).trans hc1
      obtain ⟨x, ex⟩ : ∃ x, m.getD (k - 1) 0 = x := ⟨_, rfl⟩
      have wx := HA.out.w32.get (k - 1)
      rw [ex] at hx wx
      have EX := Lib.hid ex
      obtain ⟨o, ho⟩ : ∃ o, os.getD (k - 1) 0 = o := ⟨_, rfl⟩
      have HFR := Lib.hid (fun nn => (show (wr.drewN nn).frozen? ⟨w.heap.size, k - 1, none⟩ = false from hbk.frozen (k - 1)))
      have HCO := Lib.hid (fun nn => (show (wr.drewN nn).cell? ⟨w.heap.size, k - 1, none⟩ = some (.int .u64 (o : Nat)) from by rw [← ho]; exact hbk.cell (by omega)))
      clear hbk hlen hw hst hc1 ex ho hb1 hbel
      have hk0 : (0 : Int) ≤ (k : Int) - 1 := by omega
      have hkn : (k : Int) - 1 < (n : Int) := by omega
      have hix : ((k : Int) - 1).toNat = k - 1 := by omega
      have HDV := Lib.hid (fun W => div_run rr x d W hrr hd' wx)
      obtain ⟨t, ht⟩ : ∃ t : Nat, rr * 18446744073709551616 + x = t := ⟨_, rfl⟩
      have t2 := quo_word hrr hd' wx
      rw [ht] at HDV t2
      obtain ⟨q, hq⟩ : ∃ q : Nat, t / d = q := ⟨_, rfl⟩
      obtain ⟨r, hr⟩ : ∃ r : Nat, t % d = r := ⟨_, rfl⟩
      have hrd : r < d := by rw [← hr]; exact Nat.mod_lt _ hd
      rw [hq, hr] at HDV
      rw [hq] at t2
      have HT := Lib.hid (And.intro ht (And.intro hq (And.intro hr t2)))
      clear ht hq hr t2
      go_wp2_with fail
      refine (HDV.out _).mono ?_
      rintro e w9 ⟨rfl, nn, rfl⟩
      have hfr := HFR.out nn
      have hco := HCO.out nn
      go_wp2_with fail
      go_roundw
      case rel => exact ⟨k - 1, r, by omega, int_eq (by omega), rfl, hrd, Lib.hid ⟨os.set (k - 1) q, blk_end (HO.out.1.drewN nn) rfl, by rw [List.length_set]; exact HO.out.2.1, HO.out.2.2.1.set HT.out.2.2.2, short_step hlt (by have := HL.out; omega) (by have := HO.out.2.1; omega) hd HO.out.2.2.2.1 EX.out HT.out.1 HT.out.2.1 HT.out.2.2.1, (below_dN HO.out.2.2.2.2 nn).setCell (p := ⟨w.heap.size, k - 1, none⟩) (Nat.le_refl _) _⟩⟩
      case measure => simp [intOf]; omega

/-- two answers in new memory -/
def Num2 (w : World) (m n L L' : Nat) (e : Ending) (w' : World) : Prop := ∃ A k c A' k' c', e = .returned (.tuple #[.slice A k c, .slice A' k' c']) ∧ MagN w' (.slice A k c) m L ∧ MagN w' (.slice A' k' c') n L' ∧ Below w.heap.size w w'
theorem MagN.cell {w : World} {v : Value} {d : Nat} (h : MagN w v d 1) (hd : 0 < d) : ∃ b off c, v = .slice (some ⟨b, off, none⟩) 1 c ∧ w.cell? ⟨b, off, none⟩ = some (.int .u64 (d : Nat)) ∧ b < w.heap.size ∧ d < 18446744073709551616 := by
  obtain ⟨ws, hm, hn, hv, hl⟩ := h
  match ws, hl with
  | [], _ => simp [val] at hv; omega
  | [x], _ =>
    have hx : x = d := by simpa [val] using hv
    subst hx
    obtain ⟨A, c, rfl, -, -, h4, h5⟩ := hm
    obtain ⟨b, off, rfl, hb, hc⟩ := h5 (by simp)
    have := hc 0 (by simp)
    exact ⟨b, off, c, rfl, by simpa using this, hb, h4 x (by simp)⟩
  | _ :: _ :: _, h => simp at h
theorem MagN.slice {w : World} {v : Value} {n L : Nat} (h : MagN w v n L) : ∃ A k c, v = .slice A k c := by
  obtain ⟨ws, ⟨A, c, rfl, -⟩, -⟩ := h
  exact ⟨A, _, c, rfl⟩
set_option maxRecDepth 8000 in
set_option maxHeartbeats 2000000 in
theorem quotient_one (u v : Value) (m d L : Nat) (w : World) (hu : MagN w u m L) (hv : MagN w v d 1) (hd : 0 < d) (hL : L ≤ 1073741824) (hL1 : 1 ≤ L) :
    Calls Tryz.prog 109 #[u, v] w (Num2 w (m / d) (m % d) L 1) := by
  have HCM := Lib.hid (compare_any u v m d L w hu (hv.more hL1) (by omega))
  have HU := Lib.hid hu
  obtain ⟨b, off, c, rfl, hcell, hb, hd64⟩ := hv.cell hd
  obtain ⟨A, k, cu, rfl⟩ := hu.slice
  by_cases hlt : m < d
  · have hq : m / d = 0 := Nat.div_eq_of_lt hlt
    have hr : m % d = m := Nat.mod_eq_of_lt hlt
    have hcmp : cmpN m d = -1 := by unfold cmpN; rw [if_pos hlt]
    rw [hq, hr]
    rw [hcmp] at HCM
    have HCL := Lib.hid (fun j => clone_any _ m L (w.drewN j) (show MagN (w.drewN j) _ m L from hu) (by omega))
    have HLT := Lib.hid (show m < 18446744073709551616 ^ 1 by rw [Nat.pow_one]; omega)
    clear hu hv hq hr hcmp hcell
    go_enter Tryz.func109, Tryz.ntmps109
    go_wp2_with fail
    refine HCM.out.mono ?_
    rintro e w1 ⟨rfl, j, rfl⟩
    go_wp2_with fail
    refine (HCL.out j).mono ?_
    rintro e w2 ⟨x, rfl, hx, hbx⟩
    have HX := Lib.hid (And.intro hx (show Below w.heap.size w w2 from (below_dN (Below.refl _ _) j).trans hbx))
    obtain ⟨A2, k2, c2, rfl⟩ := hx.slice
    clear hx hbx
    go_wp2_with fail
    go_ret2
    exact ⟨none, 0, 0, A2, k2, c2, rfl, ⟨[], Mag.nil w2 none 0 (by omega), .inl rfl, rfl, by simp⟩, HX.out.1.less HLT.out, HX.out.2⟩
  · have hcmp : ¬ cmpN m d < 0 := by unfold cmpN; rw [if_neg hlt]; split <;> omega
    obtain ⟨q, hq⟩ : ∃ q, cmpN m d = q := ⟨_, rfl⟩
    rw [hq] at HCM hcmp
    obtain ⟨ws, h1, h2, h3, h4⟩ := hu
    have hk := h1.lenN
    subst hk
    have HSH := Lib.hid (fun j => short_core A ws.length cu d ws (w.drewN j) (show Mag (w.drewN j) _ ws from h1) (by omega) hd hd64)
    rw [h3] at HSH
    have H4 := Lib.hid h4
    obtain ⟨kk, hkk⟩ : ∃ kk, ws.length = kk := ⟨_, rfl⟩
    rw [hkk] at HSH HCM H4 ⊢
    have hrd : m % d < 18446744073709551616 := Nat.lt_trans (Nat.mod_lt _ hd) hd64
    obtain ⟨mr, hmr⟩ : ∃ x, m % d = x := ⟨_, rfl⟩
    rw [hmr] at HSH hrd ⊢
    clear hv h1 h2 h3 h4 hq hkk hmr HU
    go_enter Tryz.func109, Tryz.ntmps109
    go_wp2_with fail
    refine HCM.out.mono ?_
    rintro e w1 ⟨rfl, j, rfl⟩
    go_wp2_with fail
    refine (HSH.out j).mono ?_
    rintro e w2 ⟨A2, k2, c2, rfl, hx, hbx⟩
    have HX := Lib.hid (And.intro hx (show Below w.heap.size w w2 from (below_dN (Below.refl _ _) j).trans hbx))
    have HWD := Lib.hid (word_any mr w2 hrd)
    clear hx hbx HSH
    go_wp2_with fail
    refine HWD.out.mono ?_
    rintro e w3 ⟨x, rfl, hx, hbx⟩
    have HY := Lib.hid (And.intro hx (And.intro (HX.out.1.below hbx) (show Below w.heap.size w w3 from HX.out.2.trans (hbx.mono HX.out.2.size))))
    obtain ⟨A3, k3, c3, rfl⟩ := hx.slice
    clear hx hbx
    go_wp2_with fail
    go_ret2
    exact ⟨A2, k2, c2, A3, k3, c3, rfl, HY.out.2.1.more H4.out, HY.out.1, HY.out.2.2⟩
end Go.Proofs.YtbidlkmagbjllaaGreatDoor.Nb

namespace Go.Proofs.YtbidlkmagbjllaaGreatDoor.Nb
open Go Go.RowKit

theorem low_mag (v : Value) (n L : Nat) (w : World) (h : MagN w v n L) : Calls Tryz.prog 110 #[v] w fun e w' => e = .returned (.int .u64 (n % 18446744073709551616 : Nat)) ∧ w = w' := by
  obtain ⟨ws, h1, h2, h3, h4⟩ := h
  have hq : ws.getD 0 0 = n % 18446744073709551616 := by
    match ws with
    | [] => simp [val] at h3; subst h3; rfl
    | x :: l =>
      have hx : x < 18446744073709551616 := h1.w32 x (by simp)
      rw [← h3]
      simp only [val, List.getD_cons_zero]
      omega
  have h1' := h1
  obtain ⟨A, c, rfl, -⟩ := h1
  rw [← hq]
  exact low_any A ws.length c ws w h1'
theorem one_lt {w : World} {v : Value} {n : Nat} (h : MagN w v n 1) : n < 18446744073709551616 := by
  obtain ⟨ws, h1, h2, h3, h4⟩ := h
  have := val_lt h1.w32
  have h5 : 18446744073709551616 ^ ws.length ≤ 18446744073709551616 ^ 1 := Nat.pow_le_pow_right (by omega) h4
  rw [Nat.pow_one] at h5
  omega
theorem low_one (v : Value) (n : Nat) (w : World) (h : MagN w v n 1) : Calls Tryz.prog 110 #[v] w fun e w' => e = .returned (.int .u64 (n : Int)) ∧ w = w' := by
  have h1 := low_mag v n 1 w h
  rw [Nat.mod_eq_of_lt (one_lt h)] at h1
  exact h1
set_option maxRecDepth 8000 in
set_option maxHeartbeats 4000000 in
theorem divisor_one (u v : Value) (m n : Nat) (w : World) (hu : MagN w u m 1) (hv : MagN w v n 1) : Calls Tryz.prog 156 #[u, v] w (Num w (Nat.gcd m n) 1) := by
  have HCM := Lib.hid (compare_any u v m n 1 w hu hv (by omega))
  obtain ⟨A1, k1, c1, rfl⟩ := hu.slice
  obtain ⟨A2, k2, c2, rfl⟩ := hv.slice
  have HU := Lib.hid hu
  have HV := Lib.hid hv
  by_cases hlt : m < n
  · skip
    obtain ⟨cq, hcq⟩ : ∃ q, cmpN m n = q := ⟨_, rfl⟩
    have hcmp : cq < 0 := by rw [← hcq]; unfold cmpN; rw [if_pos hlt]; omega
    rw [hcq] at HCM
    by_cases hz : k1 = 0
    · have HR : Hid (∀ j, MagN (w.drewN j) (.slice A2 k2 c2) (Nat.gcd m n) 1) := Lib.hid (fun j => by
        have hn0 : m = 0 := hu.len.1 hz
        rw [hn0]
        rw [Nat.gcd_zero_left]
        exact HV.out)
      subst hz
      have hkx : ¬ (1 : Int) < (k2 : Int) := by have := HV.out.len.2.2; omega
      clear hcq hu hv
      go_enter Tryz.func156, Tryz.ntmps156
      go_wp2_with fail
      refine HCM.out.mono ?_
      rintro e w1 ⟨rfl, j, rfl⟩
      go_wp2_with fail
      go_loopw [0, 1] (fun a b wr => a = .slice A2 k2 c2 ∧ b = .slice A1 0 c1 ∧ w.drewN j = wr) (fun _ _ _ => 0)
      case atStart => exact ⟨rfl, rfl, rfl⟩
      case round =>
        obtain ⟨rfl, rfl, rfl⟩ := hrel
        go_wp2_with fail
        go_ret
        exact ⟨_, rfl, HR.out j, below_dN (Below.refl _ _) j⟩
    · have hyp : 0 < m := by have := hu.len.2.1 hz; omega
      have hky : k1 = 1 := by have := hu.len.2.2; omega
      have hkx : k2 = 1 := by
        have h1 := hv.len.1
        have h2 := hv.len.2.2
        rcases Nat.eq_zero_or_pos k2 with q | q
        · have := h1 q; omega
        · omega
      subst hkx hky
      have HLX := Lib.hid (fun j => low_one _ n (w.drewN j) (show MagN (w.drewN j) _ n 1 from HV.out))
      have HLY := Lib.hid (fun j => low_one _ m (w.drewN j) (show MagN (w.drewN j) _ m 1 from HU.out))
      have HB := Lib.hid (And.intro (one_lt HV.out) (one_lt HU.out))
      have HG : Hid (Nat.gcd n m = Nat.gcd m n) := Lib.hid (Nat.gcd_comm _ _)
      clear hcq hu hv hyp
      go_enter Tryz.func156, Tryz.ntmps156
      go_wp2_with fail
      refine HCM.out.mono ?_
      rintro e w1 ⟨rfl, j, rfl⟩
      go_wp2_with fail
      go_loopw [0, 1] (fun a b wr => a = .slice A2 1 c2 ∧ b = .slice A1 1 c1 ∧ w.drewN j = wr) (fun _ _ _ => 0)
      case atStart => exact ⟨rfl, rfl, rfl⟩
      case round =>
        obtain ⟨rfl, rfl, rfl⟩ := hrel
        go_wp2_with fail
        refine (HLX.out j).mono ?_
        rintro e w2 ⟨rfl, rfl⟩
        go_wp2_with fail
        refine (HLY.out j).mono ?_
        rintro e w2 ⟨rfl, rfl⟩
        go_wp2_with fail
        go_loopw [11, 12] (fun av bv wr => ∃ a b i : Nat, av = .int .u64 (a : Int) ∧ bv = .int .u64 (b : Int) ∧ Hid (Nat.gcd a b = Nat.gcd m n ∧ a < 18446744073709551616 ∧ b < 18446744073709551616) ∧ w.drewN i = wr) (fun _ bv _ => (intOf bv).toNat)
        case atStart => exact ⟨n, m, j, rfl, rfl, Lib.hid ⟨by first | exact HG.out | rfl, HB.out.1, HB.out.2⟩, rfl⟩
        case round =>
          obtain ⟨a, b, i, rfl, rfl, hh, rfl⟩ := hrel
          by_cases hb : b = 0
          · subst hb
            have HW := Lib.hid (word_any a (w.drewN i) hh.out.2.1)
            go_wp2_with fail
            refine HW.out.mono ?_
            rintro e w3 ⟨x, rfl, hx, hbx⟩
            have HX := Lib.hid (And.intro hx (show Below w.heap.size w w3 from (below_dN (Below.refl _ _) i).trans hbx))
            obtain ⟨A3, k3, c3, rfl⟩ := hx.slice
            clear hx hbx
            go_wp2_with fail
            go_ret
            exact ⟨_, rfl, by have h := hh.out.1; rw [Nat.gcd_zero_right] at h; rw [← h]; exact HX.out.1, HX.out.2⟩
          · have hb0 : (0 : Int) < (b : Int) := by omega
            have hb1 : ¬ (b : Int) = 0 := by omega
            obtain ⟨r, hr⟩ : ∃ r, a % b = r := ⟨_, rfl⟩
            have hri : (a : Int) % (b : Int) = (r : Int) := by rw [← hr]; rfl
            have hrt : Int.tmod (a : Int) (b : Int) = (r : Int) := by rw [Int.tmod_eq_emod_of_nonneg (by omega)]; exact hri
            have HR := Lib.hid hr
            clear hr
            go_wp2_with fail
            go_region
            all_goals go_wp2_with fail
            go_roundw
            case rel => exact ⟨b, r, i + 1, rfl, rfl, Lib.hid ⟨by rw [← hh.out.1, ← HR.out, Nat.gcd_comm a b, Nat.gcd_rec b a, Nat.gcd_comm], hh.out.2.2, by have := Nat.mod_lt a (show 0 < b by omega); rw [HR.out] at this; have := hh.out.2.2; omega⟩, rfl⟩
            case measure => simp [intOf]; have := Nat.mod_lt a (show 0 < b by omega); rw [HR.out] at this; omega
  · skip
    obtain ⟨cq, hcq⟩ : ∃ q, cmpN m n = q := ⟨_, rfl⟩
    have hcmp : ¬ cq < 0 := by rw [← hcq]; unfold cmpN; rw [if_neg hlt]; split <;> omega
    rw [hcq] at HCM
    by_cases hz : k2 = 0
    · have HR : Hid (∀ j, MagN (w.drewN j) (.slice A1 k1 c1) (Nat.gcd m n) 1) := Lib.hid (fun j => by
        have hn0 : n = 0 := hv.len.1 hz
        rw [hn0]
        rw [Nat.gcd_zero_right]
        exact HU.out)
      subst hz
      have hkx : ¬ (1 : Int) < (k1 : Int) := by have := HU.out.len.2.2; omega
      clear hcq hu hv
      go_enter Tryz.func156, Tryz.ntmps156
      go_wp2_with fail
      refine HCM.out.mono ?_
      rintro e w1 ⟨rfl, j, rfl⟩
      go_wp2_with fail
      go_loopw [0, 1] (fun a b wr => a = .slice A1 k1 c1 ∧ b = .slice A2 0 c2 ∧ w.drewN j = wr) (fun _ _ _ => 0)
      case atStart => exact ⟨rfl, rfl, rfl⟩
      case round =>
        obtain ⟨rfl, rfl, rfl⟩ := hrel
        go_wp2_with fail
        go_ret
        exact ⟨_, rfl, HR.out j, below_dN (Below.refl _ _) j⟩
    · have hyp : 0 < n := by have := hv.len.2.1 hz; omega
      have hky : k2 = 1 := by have := hv.len.2.2; omega
      have hkx : k1 = 1 := by
        have h1 := hu.len.1
        have h2 := hu.len.2.2
        rcases Nat.eq_zero_or_pos k1 with q | q
        · have := h1 q; omega
        · omega
      subst hkx hky
      have HLX := Lib.hid (fun j => low_one _ m (w.drewN j) (show MagN (w.drewN j) _ m 1 from HU.out))
      have HLY := Lib.hid (fun j => low_one _ n (w.drewN j) (show MagN (w.drewN j) _ n 1 from HV.out))
      have HB := Lib.hid (And.intro (one_lt HU.out) (one_lt HV.out))
      have HG : Hid (Nat.gcd m n = Nat.gcd m n) := Lib.hid (rfl)
      clear hcq hu hv hyp
      go_enter Tryz.func156, Tryz.ntmps156
      go_wp2_with fail
      refine HCM.out.mono ?_
      rintro e w1 ⟨rfl, j, rfl⟩
      go_wp2_with fail
      go_loopw [0, 1] (fun a b wr => a = .slice A1 1 c1 ∧ b = .slice A2 1 c2 ∧ w.drewN j = wr) (fun _ _ _ => 0)
      case atStart => exact ⟨rfl, rfl, rfl⟩
      case round =>
        obtain ⟨rfl, rfl, rfl⟩ := hrel
        go_wp2_with fail
        refine (HLX.out j).mono ?_
        rintro e w2 ⟨rfl, rfl⟩
        go_wp2_with fail
        refine (HLY.out j).mono ?_
        rintro e w2 ⟨rfl, rfl⟩
        go_wp2_with fail
        go_loopw [11, 12] (fun av bv wr => ∃ a b i : Nat, av = .int .u64 (a : Int) ∧ bv = .int .u64 (b : Int) ∧ Hid (Nat.gcd a b = Nat.gcd m n ∧ a < 18446744073709551616 ∧ b < 18446744073709551616) ∧ w.drewN i = wr) (fun _ bv _ => (intOf bv).toNat)
        case atStart => exact ⟨m, n, j, rfl, rfl, Lib.hid ⟨by first | exact HG.out | rfl, HB.out.1, HB.out.2⟩, rfl⟩
        case round =>
          obtain ⟨a, b, i, rfl, rfl, hh, rfl⟩ := hrel
          by_cases hb : b = 0
          · subst hb
            have HW := Lib.hid (word_any a (w.drewN i) hh.out.2.1)
            go_wp2_with fail
            refine HW.out.mono ?_
            rintro e w3 ⟨x, rfl, hx, hbx⟩
            have HX := Lib.hid (And.intro hx (show Below w.heap.size w w3 from (below_dN (Below.refl _ _) i).trans hbx))
            obtain ⟨A3, k3, c3, rfl⟩ := hx.slice
            clear hx hbx
            go_wp2_with fail
            go_ret
            exact ⟨_, rfl, by have h := hh.out.1; rw [Nat.gcd_zero_right] at h; rw [← h]; exact HX.out.1, HX.out.2⟩
          · have hb0 : (0 : Int) < (b : Int) := by omega
            have hb1 : ¬ (b : Int) = 0 := by omega
            obtain ⟨r, hr⟩ : ∃ r, a % b = r := ⟨_, rfl⟩
            have hri : (a : Int) % (b : Int) = (r : Int) := by rw [← hr]; rfl
            have hrt : Int.tmod (a : Int) (b : Int) = (r : Int) := by rw [Int.tmod_eq_emod_of_nonneg (by omega)]; exact hri
            have HR := Lib.hid hr
            clear hr
            go_wp2_with fail
            go_region
            all_goals go_wp2_with fail
            go_roundw
            case rel => exact ⟨b, r, i + 1, rfl, rfl, Lib.hid ⟨by rw [← hh.out.1, ← HR.out, Nat.gcd_comm a b, Nat.gcd_rec b a, Nat.gcd_comm], hh.out.2.2, by have := Nat.mod_lt a (show 0 < b by omega); rw [HR.out] at this; have := hh.out.2.2; omega⟩, rfl⟩
            case measure => simp [intOf]; have := Nat.mod_lt a (show 0 < b by omega); rw [HR.out] at this; omega
end Go.Proofs.YtbidlkmagbjllaaGreatDoor.Nb

namespace Go.Proofs.YtbidlkmagbjllaaGreatDoor.Nb
open Go Go.RowKit

theorem two64 (s : Nat) (hs : s ≤ 64) : (18446744073709551616 : Nat) = 2 ^ s * 2 ^ (64 - s) := by
  rw [← Nat.pow_add, show s + (64 - s) = 64 by omega]
/-- ahead of word i of m: what stands in os -/
def LeftSt (m : List Nat) (q s : Nat) (os : List Nat) (i : Nat) : Prop :=
  val os = 18446744073709551616 ^ q * 2 ^ s * val (m.take i) ∧ os.getD (q + i) 0 < 2 ^ s ∧ Clear os (q + i + 1)
theorem left_start (m : List Nat) (q s n : Nat) : LeftSt m q s (List.replicate n 0) 0 := by
  refine ⟨by simp [val, val_rep], ?_, Clear.rep _ _⟩
  have := Clear.rep n 0 (q + 0) (by omega)
  rw [this]
  exact Nat.pow_pos (by omega)
theorem left_word {x s : Nat} (hx : x < 18446744073709551616) (hs : s < 64) : x * 2 ^ s < 340282366920938463463374607431768211456 ∧ x * 2 ^ s / 18446744073709551616 < 2 ^ s ∧ x * 2 ^ s / 18446744073709551616 < 18446744073709551616 ∧ ∃ c, x * 2 ^ s % 18446744073709551616 = 2 ^ s * c ∧ 2 ^ s * c + 2 ^ s ≤ 18446744073709551616 := by
  have h1 : x * 2 ^ s < 18446744073709551616 * 2 ^ s := Nat.mul_lt_mul_of_pos_right hx (Nat.pow_pos (by omega))
  have h2 : 2 ^ s ≤ 2 ^ 63 := Nat.pow_le_pow_right (by omega) (by omega)
  have h3 : x * 2 ^ s / 18446744073709551616 < 2 ^ s := Nat.div_lt_of_lt_mul h1
  have h4 := two64 s (by omega)
  refine ⟨by omega, h3, by omega, x % 2 ^ (64 - s), ?_, ?_⟩
  · rw [Nat.mul_comm x]
    conv => lhs; rw [h4]
    rw [Nat.mul_mod_mul_left]
  · have h5 : x % 2 ^ (64 - s) + 1 ≤ 2 ^ (64 - s) := Nat.mod_lt _ (Nat.pow_pos (by omega))
    have h6 := Nat.mul_le_mul_left (2 ^ s) h5
    rw [← h4, Nat.mul_add, Nat.mul_one] at h6
    exact h6
theorem left_step {m os : List Nat} {q s i t o : Nat} (h : LeftSt m q s os i) (hs : s < 64) (hm : W64 m) (ht : m.getD i 0 * 2 ^ s = t) (ho : os.getD (q + i) 0 = o) (hl : q + i + 1 < os.length) :
    LeftSt m q s ((os.set (q + i) (o + t % 18446744073709551616)).set (q + i + 1) (t / 18446744073709551616)) (i + 1) := by
  obtain ⟨h1, h2, h3⟩ := h
  have hw := left_word (hm.get i) hs
  rw [ht] at hw
  obtain ⟨-, w2, -, -⟩ := hw
  have s1 := set_val (os := os) (x := o + t % 18446744073709551616) (i := q + i) (by omega)
  have s2 := set_val (os := os.set (q + i) (o + t % 18446744073709551616)) (x := t / 18446744073709551616) (i := q + i + 1) (by rw [List.length_set]; omega)
  rw [set_getD_ne (by omega), h3 _ (Nat.le_refl _), Nat.mul_zero, Nat.add_zero] at s2
  rw [ho, Nat.mul_add] at s1
  refine ⟨?_, ?_, ?_⟩
  · have e : 18446744073709551616 ^ (q + i) * (t % 18446744073709551616) + 18446744073709551616 ^ (q + i + 1) * (t / 18446744073709551616) = 18446744073709551616 ^ (q + i) * t := by
      rw [Nat.pow_succ, Nat.mul_assoc, ← Nat.mul_add, Nat.mod_add_div]
    have e2 : 18446744073709551616 ^ (q + i) * t = 18446744073709551616 ^ q * 2 ^ s * (18446744073709551616 ^ i * m.getD i 0) := by
      rw [← ht, Nat.pow_add]
      simp only [Nat.mul_assoc, Nat.mul_left_comm, Nat.mul_comm]
    rw [val_take_succ', Nat.mul_add, ← h1, ← e2]
    omega
  · rw [show q + (i + 1) = q + i + 1 by omega, set_getD (by rw [List.length_set]; omega)]
    exact w2
  · rw [show q + (i + 1) + 1 = q + i + 1 + 1 by omega]
    exact Clear.step ((h3.set (by omega)))
theorem left_end {m os : List Nat} {q s n : Nat} (h : LeftSt m q s os n) (hn : m.length = n) : val os = val m * (18446744073709551616 ^ q * 2 ^ s) := by
  obtain ⟨h1, -, -⟩ := h
  rw [h1, List.take_of_length_le (by omega), Nat.mul_comm]

theorem or_high {o c s : Nat} (ho : o < 2 ^ s) (hc : 2 ^ s * c + 2 ^ s ≤ 18446744073709551616) : bits .or .u64 (o : Int) ((2 ^ s * c : Nat) : Int) = ((o + 2 ^ s * c : Nat) : Int) := by
  rw [u64_or_nat _ _ (by omega) (by omega)]
  rw [Nat.mul_comm, Nat.or_comm, show c * 2 ^ s = c <<< s by rw [Nat.shiftLeft_eq], ← Nat.shiftLeft_add_eq_or_of_lt ho, Nat.shiftLeft_eq, Nat.mul_comm, Nat.add_comm]
theorem hi_part {x s t : Nat} (hs : s < 64) (ht : x * 2 ^ s = t) : x / 2 ^ (64 - s) = t / 18446744073709551616 := by
  rw [← ht, two64 s (by omega), Nat.mul_comm x, Nat.mul_div_mul_left _ _ (Nat.pow_pos (by omega))]

def LeftW (w : World) (g n : Nat) (m : List Nat) (q s i : Nat) (wr : World) : Prop :=
  ∃ os, Blk wr g os ∧ os.length = n ∧ W64 os ∧ LeftSt m q s os i ∧ Below g w wr

set_option maxRecDepth 8000 in
set_option maxHeartbeats 2000000 in
theorem left_row (A : Option Addr) (M ca q s N : Nat) (m : List Nat) (w : World) (hm : Mag w (.slice A M ca) m) (hl : q + M ≤ 536870912) (hs : s < 64) (hN : N = 64 * q + s) (hM : 0 < M) :
    Calls Tryz.prog 108 #[.slice A M ca, .int .u64 (N : Int)] w fun e w' => ∃ (g k : Nat) (os : List Nat), e = .returned (.slice (some ⟨g, 0, none⟩) k (q + M + 1)) ∧ w.heap.size ≤ g ∧ Blk w' g os ∧ os.length = q + M + 1 ∧ W64 os ∧ k ≤ q + M + 1 ∧ Norm (os.take k) ∧ val (os.take k) = val m * (18446744073709551616 ^ q * 2 ^ s) ∧ Below w.heap.size w w' := by
  have hla := hm.lenN
  have HA := Lib.hid hm
  have HL := Lib.hid hla
  have hmk := run_make_row' (P := Tryz.prog) 100 74 (.int .u64 0) 8 Tryz.underlying100 infoW rfl .i64 .i64 (q + M + 1) (by omega) (by omega)
  have e1 : (N : Int) / 64 = (q : Int) := by omega
  have e2 : (N : Int) % 64 = (s : Int) := by omega
  have hN1 : (N : Int) ≤ 18446744073709551615 := by omega
  have hM0 : ¬ M = 0 := by omega
  have hqs : ((q + M + 1 : Nat) : Int) = (q : Int) + (M : Int) + 1 := by omega
  rw [hqs] at hmk
  clear hm hla hN hqs
  go_enter Tryz.func108, Tryz.ntmps108
  go_wp2_with fail
  clear hmk
  have H0 := Lib.hid (show LeftW w w.heap.size (q + M + 1) m q s 0 (w.alloc (.cells (madeCells #[.int .u64 0] (q + M + 1)) 74)) from ⟨_, Blk.made w (q + M + 1), by simp, W64.rep _, left_start _ _ _ _, (Below.refl _ _).alloc (Nat.le_refl _) _⟩)
  go_loopw [26] (fun i wr => ∃ k : Nat, k ≤ M ∧ i = .int .i64 k ∧ Hid (LeftW w w.heap.size (q + M + 1) m q s k wr)) (fun i _ => M - (intOf i).toNat)
  case atStart => exact ⟨0, Nat.zero_le _, rfl, H0⟩
  case round =>
    obtain ⟨k, hk, rfl, hp⟩ := hrel
    by_cases hlt : k < M
    · obtain ⟨os, hbk, hlen, hw, hst, hbel⟩ := hp.out
      have HO := Lib.hid (And.intro hbk (And.intro hlen (And.intro hw (And.intro hst hbel))))
      have hfr : wr.frozen? ⟨w.heap.size, q + k, none⟩ = false := hbk.frozen _
      have hfr2 : wr.frozen? ⟨w.heap.size, q + k + 1, none⟩ = false := hbk.frozen _
      obtain ⟨o, ho⟩ : ∃ o, os.getD (q + k) 0 = o := ⟨_, rfl⟩
      have hco : wr.cell? ⟨w.heap.size, q + k, none⟩ = some (.int .u64 (o : Nat)) := by rw [← ho]; exact hbk.cell (by omega)
      have hz := hst.2.2 (q + k + 1) (by omega)
      have hco2 : wr.cell? ⟨w.heap.size, q + k + 1, none⟩ = some (.int .u64 (0 : Nat)) := by rw [← hz]; exact hbk.cell (by omega)
      have hos := hst.2.1
      rw [ho] at hos
      obtain ⟨b1, o1, ea, hb1, hc1⟩ := HA.out.at hlt
      subst ea
      have hx := (hbel.cell (p := ⟨b1, o1 + k, none⟩) hb1).trans hc1
      obtain ⟨x, ex⟩ : ∃ x, m.getD k 0 = x := ⟨_, rfl⟩
      have wx := HA.out.w32.get k
      rw [ex] at hx wx
      obtain ⟨t1, t2, t3, c, t4, t5⟩ := left_word wx hs
      obtain ⟨t, ht⟩ : ∃ t, x * 2 ^ s = t := ⟨_, rfl⟩
      have hhi := hi_part hs ht
      rw [ht] at t1 t2 t3 t4
      have hwr : IntKind.u64.wrap ((x : Int) * 2 ^ s) = ((t % 18446744073709551616 : Nat) : Int) := by
        rw [show ((x : Int) * 2 ^ s) = ((x * 2 ^ s : Nat) : Int) by rw [Int.natCast_mul, Int.natCast_pow]; rfl, ht]
        rw [IntKind.wrap_u64]; omega
      have hor := or_high hos t5
      rw [← t4] at hor
      have hbd : o + t % 18446744073709551616 < 18446744073709551616 := by omega
      have EX := Lib.hid (And.intro ex (And.intro ht ho))
      have T := Lib.hid (And.intro t1 (And.intro t2 (And.intro t3 (And.intro hbd (And.intro hhi hor)))))
      clear hbk hlen hw hst hbel hc1 ex ho hb1 hz ht t1 t2 t3 t4 t5 hos hbd hhi hor
      go_wp2_with fail
      go_roundw
      case rel => exact ⟨k + 1, by omega, by go_num, _, blk_end (y := t / 18446744073709551616) (blk_end (y := o + t % 18446744073709551616) HO.out.1 (by rw [show ((t : Int) % 18446744073709551616) = ((t % 18446744073709551616 : Nat) : Int) by omega]; exact T.out.2.2.2.2.2)) (by rw [← T.out.2.2.2.2.1, Int.natCast_ediv, Int.natCast_pow]; rfl), by rw [List.length_set, List.length_set]; exact HO.out.2.1, (HO.out.2.2.1.set T.out.2.2.2.1).set T.out.2.2.1,
        left_step HO.out.2.2.2.1 hs HA.out.w32 (by rw [EX.out.1]; exact EX.out.2.1) EX.out.2.2 (by have := HO.out.2.1; omega), (HO.out.2.2.2.2.setCell (p := ⟨w.heap.size, q + k, none⟩) (Nat.le_refl _) _).setCell (p := ⟨w.heap.size, q + k + 1, none⟩) (Nat.le_refl _) _⟩
      case measure => simp [intOf]; omega
    · obtain rfl : k = M := by omega
      obtain ⟨os, hbk, hlen, hw, hst, hbel⟩ := hp.out
      have HO := Lib.hid (And.intro hbk (And.intro hlen (And.intro hw (And.intro hst hbel))))
      clear hbk hlen hw hst hbel
      go_wp2_with fail
      have hms := HO.out.1.mag HO.out.2.2.1 (by rw [HO.out.2.1]; omega)
      rw [HO.out.2.1] at hms
      have HV := Lib.hid (left_end HO.out.2.2.2.1 HL.out.symm)
      have hms' : Mag wr (.slice (some ⟨w.heap.size, 0, none⟩) os.length (q + k + 1)) os := by rw [HO.out.2.1]; exact hms
      have HN := Lib.hid (norm_core _ _ _ _ hms')
      rw [HO.out.2.1] at HN
      clear hms hms'
      refine HN.out.mono ?_
      rintro e w2 ⟨k2, hk2, rfl, hv2, hn2, rfl⟩
      have HF := Lib.hid (And.intro hk2 (And.intro hv2 hn2))
      clear hk2 hv2 hn2 HN
      go_wp2_with fail
      go_ret
      exact ⟨_, k2, os, rfl, Nat.le_refl _, HO.out.1, HO.out.2.1, HO.out.2.2.1, by have := HF.out.1; have := HO.out.2.1; omega, HF.out.2.2, HF.out.2.1.trans HV.out, HO.out.2.2.2.2⟩
/-- a row of its own, as a magnitude -/
theorem Blk.num {w : World} {g k c : Nat} {os : List Nat} (h : Blk w g os) (hl : os.length = c) (hc : c ≤ 9223372036854775807) (hw : W64 os) (hk : k ≤ c) (hn : Norm (os.take k)) : MagN w (.slice (some ⟨g, 0, none⟩) k c) (val (os.take k)) c := by
  subst hl
  exact ⟨os.take k, (h.mag hw hc).take hk, hn, rfl, by rw [List.length_take]; omega⟩
theorem left_core (A : Option Addr) (M ca q s N : Nat) (m : List Nat) (w : World) (hm : Mag w (.slice A M ca) m) (hl : q + M ≤ 536870912) (hs : s < 64) (hN : N = 64 * q + s) (hM : 0 < M) :
    Calls Tryz.prog 108 #[.slice A M ca, .int .u64 (N : Int)] w (Num w (val m * (18446744073709551616 ^ q * 2 ^ s)) (q + M + 1)) :=
  (left_row A M ca q s N m w hm hl hs hN hM).mono fun e w' ⟨g, k, os, he, _, hb, hlen, hw, hk, hn, hv, hbl⟩ => ⟨_, he, by rw [← hv]; exact hb.num hlen (by omega) hw hk hn, hbl⟩

theorem zero_in (w : World) (L : Nat) : MagN w (.slice none 0 0) 0 L := ⟨[], Mag.nil w none 0 (by omega), Or.inl rfl, rfl, Nat.zero_le _⟩
/-- left: a magnitude times 2 to the N-th -/
theorem left_any (v : Value) (X N L : Nat) (w : World) (h : MagN w v X L) (hL : L + N / 64 ≤ 536870912) :
    Calls Tryz.prog 108 #[v, .int .u64 (N : Int)] w (Num w (X * 2 ^ N) (L + N / 64 + 1)) := by
  obtain ⟨ws, h1, h2, rfl, h4⟩ := h
  have h1' := h1
  obtain ⟨A, c, rfl, -⟩ := h1
  have e : (2 : Nat) ^ N = 18446744073709551616 ^ (N / 64) * 2 ^ (N % 64) := by
    rw [show (18446744073709551616 : Nat) = 2 ^ 64 by decide, ← Nat.pow_mul, ← Nat.pow_add]
    congr 1
    omega
  rcases Nat.eq_zero_or_pos ws.length with h0 | h0
  · have hz : val ws = 0 := by rw [List.eq_nil_of_length_eq_zero h0]; rfl
    have HR : Hid (MagN w (.slice none 0 0) (val ws * 2 ^ N) (L + N / 64 + 1)) := Lib.hid (by rw [hz, Nat.zero_mul]; exact zero_in w _)
    rw [h0]
    clear h1' h2 h4 e hz h0
    go_enter Tryz.func108, Tryz.ntmps108
    go_wp2_with fail
    go_ret
    exact ⟨_, rfl, HR.out, Below.refl _ _⟩
  · rw [e]
    exact (left_core A ws.length c (N / 64) (N % 64) N ws w h1' (by omega) (by omega) (by omega) h0).mono fun e w' ⟨x, a, b, d⟩ => ⟨x, a, b.more (by omega), d⟩
/-- of one word, and still one behind -/
theorem left_one (v : Value) (X N : Nat) (w : World) (h : MagN w v X 1) (hN : N < 64) (hX : X * 2 ^ N < 18446744073709551616) :
    Calls Tryz.prog 108 #[v, .int .u64 (N : Int)] w (Num w (X * 2 ^ N) 1) :=
  (left_any v X N 1 w h (by omega)).mono fun e w' ⟨x, a, b, d⟩ => ⟨x, a, b.less (by rw [Nat.pow_one]; exact hX), d⟩

set_option maxRecDepth 8000 in
set_option maxHeartbeats 1000000 in
theorem over_one (u v : Value) (m d : Nat) (w : World) (hu : MagN w u m 1) (hv : MagN w v d 1) (hd : 0 < d) :
    Calls Tryz.prog 157 #[u, v] w (Num w (m / d) 1) := by
  have HQ := Lib.hid (quotient_one u v m d 1 w hu hv hd (by omega) (by omega))
  have HU := Lib.hid hu
  obtain ⟨b, off, c, rfl, hcell, hb, hd64⟩ := hv.cell hd
  by_cases h1 : d = 1
  · subst h1
    have HR : Hid (MagN w u (m / 1) 1) := Lib.hid (by rw [Nat.div_one]; exact hu)
    clear hu hv HQ
    go_enter Tryz.func157, Tryz.ntmps157
    go_wp2_with fail
    go_ret
    exact ⟨_, rfl, HR.out, Below.refl _ _⟩
  · have hne : ((d : Int) == 1) = false := by simp; omega
    clear hu hv hb hd
    go_enter Tryz.func157, Tryz.ntmps157
    go_wp2_with fail
    refine HQ.out.mono ?_
    rintro e w2 ⟨A1, k1, c1, A2, k2, c2, rfl, h1, h2, h3⟩
    have HF := Lib.hid (And.intro h1 h3)
    clear h1 h2 h3
    go_wp2_with fail
    go_ret
    exact ⟨_, rfl, HF.out.1, HF.out.2⟩
theorem bitLenAux_le : ∀ f x, Lib.bitLenAux f x ≤ f := by
  intro f
  induction f with
  | zero => intro x; exact Nat.le_refl _
  | succ f ih => intro x; unfold Lib.bitLenAux; split; · omega
                 · have := ih (x / 2); omega
theorem bitLen_le (x : Nat) : Lib.bitLen x ≤ 64 := bitLenAux_le 64 x
set_option maxRecDepth 8000 in
theorem length_one (v : Value) (n : Nat) (w : World) (h : MagN w v n 1) : Calls Tryz.prog 107 #[v] w fun e w' => e = .returned (.int .i64 (Lib.bitLen n)) ∧ w = w' := by
  rcases Nat.eq_zero_or_pos n with h0 | h0
  · subst h0
    obtain ⟨A, k, c, rfl⟩ := h.slice
    have hk : k = 0 := by
      rcases Nat.eq_zero_or_pos k with q | q
      · exact q
      · have := h.len.2.1 (by omega); omega
    subst hk
    clear h
    go_enter Tryz.func107, Tryz.ntmps107
    go_wp2_with fail
    go_ret
    exact ⟨rfl, rfl⟩
  · obtain ⟨b, off, c, rfl, hcell, hb, hd64⟩ := h.cell h0
    have HL := Lib.hid (fun w => Tryz.bits_Len64 (n : Int) w (by omega) (by omega))
    clear h hb h0 hd64
    go_enter Tryz.func107, Tryz.ntmps107
    go_wp2_with fail
    refine (HL.out _).mono ?_
    rintro e w2 ⟨rfl, rfl⟩
    rw [Int.toNat_natCast]
    have hq64 := bitLen_le n
    obtain ⟨q, hq⟩ : ∃ q, Lib.bitLen n = q := ⟨_, rfl⟩
    rw [hq] at hq64 ⊢
    go_wp2_with fail
    go_ret
    exact ⟨by rw [hq]; rfl, rfl⟩
end Go.Proofs.YtbidlkmagbjllaaGreatDoor.Nb

namespace Go.Proofs.YtbidlkmagbjllaaGreatDoor.Nb
open Go Go.RowKit

theorem pow_odd {a b n T : Nat} (h : a * b ^ n = T) (ho : n % 2 = 1) : (a * b) * (b * b) ^ (n / 2) = T := by
  have e : n = 2 * (n / 2) + 1 := by omega
  rw [← h]
  conv => rhs; rw [e]
  rw [Nat.pow_succ, Nat.pow_mul, show b ^ 2 = b * b by rw [Nat.pow_two], Nat.mul_assoc, Nat.mul_comm b]
theorem pow_even {a b n T : Nat} (h : a * b ^ n = T) (ho : n % 2 = 0) : a * (b * b) ^ (n / 2) = T := by
  have e : n = 2 * (n / 2) := by omega
  rw [← h]
  conv => rhs; rw [e]
  rw [Nat.pow_mul, show b ^ 2 = b * b by rw [Nat.pow_two]]
theorem pow_le1 {a b n T : Nat} (h : a * b ^ n = T) (hn : 0 < n) : a * b ≤ T := by
  rw [← h]
  refine Nat.mul_le_mul_left a ?_
  exact Nat.le_self_pow (by omega) b
theorem pow_le2 {a b n T : Nat} (h : a * b ^ n = T) (ha : 0 < a) (hb : 0 < b) (hn : 1 < n) : b * b ≤ T := by
  rw [← h]
  have h1 : b ^ 2 ≤ b ^ n := Nat.pow_le_pow_right hb hn
  rw [Nat.pow_two] at h1
  exact Nat.le_trans h1 (Nat.le_mul_of_pos_left _ ha)

def PowSt (w : World) (vz vx : Value) (n T : Nat) (wr : World) : Prop :=
  ∃ a b, MagN wr vz a 1 ∧ MagN wr vx b 1 ∧ 0 < a ∧ 0 < b ∧ a * b ^ n = T ∧ Below w.heap.size w wr

set_option maxRecDepth 8000 in
set_option maxHeartbeats 2000000 in
theorem power_one (u : Value) (m n : Nat) (w : World) (hu : MagN w u m 1) (hm : 0 < m) (hn : n < 18446744073709551616) (hT : m ^ n < 18446744073709551616) :
    Calls Tryz.prog 193 #[u, .int .u64 (n : Int)] w (Num w (m ^ n) 1) := by
  obtain ⟨A0, k0, c0, rfl⟩ := hu.slice
  obtain ⟨T, hTe⟩ : ∃ T, m ^ n = T := ⟨_, rfl⟩
  rw [hTe] at hT ⊢
  have HA := Lib.hid ((Below.refl w.heap.size w).alloc (Nat.le_refl _) (.cells #[.int .u64 ((1 : Nat) : Int)] 74))
  have H0 : Hid (PowSt w (.slice (some ⟨w.heap.size, 0, none⟩) 1 1) (.slice A0 k0 c0) n T (w.alloc (.cells #[.int .u64 ((1 : Nat) : Int)] 74))) := Lib.hid
    ⟨1, m, ⟨[1], Mag.one w 1 (by omega) _, .inr (by simp), by simp [val], by simp⟩, hu.below HA.out, by omega, hm, by rw [Nat.one_mul]; exact hTe, HA.out⟩
  have HT := Lib.hid hT
  clear hu hTe hT hm
  go_enter Tryz.func193, Tryz.ntmps193
  go_wp2_with fail
  go_loopw [5, 0, 1] (fun xz xx vn wr => ∃ (nn : Nat) (vz vx : Value), xz = vz ∧ xx = vx ∧ nn < 18446744073709551616 ∧ vn = .int .u64 (nn : Int) ∧ Hid (PowSt w vz vx nn T wr)) (fun _ _ vn _ => (intOf vn).toNat)
  case atStart => exact ⟨n, _, _, rfl, rfl, hn, rfl, H0⟩
  case round =>
    obtain ⟨nn, vz, vx, rfl, rfl, hnn, rfl, hp⟩ := hrel
    obtain ⟨a, b, hz, hx, ha, hb, hT2, hbel⟩ := hp.out
    by_cases h0 : nn = 0
    · subst h0
      have HR := Lib.hid (And.intro (show MagN wr u5 T 1 by rw [← hT2, Nat.pow_zero, Nat.mul_one]; exact hz) hbel)
      clear hz hx ha hb hT2 hbel hp
      go_wp2_with fail
      go_ret
      exact ⟨_, rfl, HR.out.1, HR.out.2⟩
    · have hand : bits .and .u64 (nn : Int) 1 = (nn : Int) % 2 := and_one_u64 (nn : Int) (by omega) (by omega)
      obtain ⟨q, hq⟩ : ∃ q, nn / 2 = q := ⟨_, rfl⟩
      have hsh : (nn : Int) / 2 = (q : Int) := by omega
      have HQ := Lib.hid hq
      clear hq
      have hpos : (0 : Int) < (nn : Int) := by omega
      by_cases ho : nn % 2 = 1
      · have hm2 : (nn : Int) % 2 = 1 := by omega
        by_cases hb1 : 1 < nn
        · have hb1' : (1 : Int) < (nn : Int) := by omega
          have HM := Lib.hid (times_mag u5 u0 a b 1 1 wr hz hx (by omega) (by omega))
          have HS := Lib.hid (And.intro hz (And.intro hx (And.intro ha (And.intro hb (And.intro hT2 hbel)))))
          clear hz hx ha hb hT2 hbel hp
          go_wp2_with fail
          refine HM.out.mono ?_
          rintro e w2 ⟨z2, rfl, hz2, hb2⟩
          have HZ := Lib.hid (And.intro (show MagN w2 z2 (a * b) 1 from hz2.less (by rw [Nat.pow_one]; exact Nat.lt_of_le_of_lt (pow_le1 HS.out.2.2.2.2.1 (by omega)) HT.out)) (And.intro (HS.out.2.1.below hb2) (HS.out.2.2.2.2.2.trans (hb2.mono HS.out.2.2.2.2.2.size))))
          clear hz2 hb2
          have HX := Lib.hid (times_mag u0 u0 b b 1 1 w2 HZ.out.2.1 HZ.out.2.1 (by omega) (by omega))
          go_wp2_with fail
          refine HX.out.mono ?_
          rintro e w3 ⟨x3, rfl, hx3, hb3⟩
          have HY := Lib.hid (And.intro (show MagN w3 x3 (b * b) 1 from hx3.less (by rw [Nat.pow_one]; exact Nat.lt_of_le_of_lt (pow_le2 HS.out.2.2.2.2.1 HS.out.2.2.1 HS.out.2.2.2.1 (by omega)) HT.out)) (And.intro (HZ.out.1.below hb3) (HZ.out.2.2.trans (hb3.mono HZ.out.2.2.size))))
          clear hx3 hb3
          go_wp2_with fail
          go_roundw
          case rel => exact ⟨q, _, _, rfl, rfl, by have := HQ.out; omega, rfl, by rw [← HQ.out]; exact Lib.hid ⟨(a * b), b * b, HY.out.2.1, HY.out.1, Nat.mul_pos HS.out.2.2.1 HS.out.2.2.2.1, Nat.mul_pos HS.out.2.2.2.1 HS.out.2.2.2.1, pow_odd HS.out.2.2.2.2.1 (by omega), HY.out.2.2⟩⟩
          case measure => have := HQ.out; simp [intOf]; omega
        · have hb1' : ¬ (1 : Int) < (nn : Int) := by omega
          have HM := Lib.hid (times_mag u5 u0 a b 1 1 wr hz hx (by omega) (by omega))
          have HS := Lib.hid (And.intro hz (And.intro hx (And.intro ha (And.intro hb (And.intro hT2 hbel)))))
          clear hz hx ha hb hT2 hbel hp
          go_wp2_with fail
          refine HM.out.mono ?_
          rintro e w2 ⟨z2, rfl, hz2, hb2⟩
          have HZ := Lib.hid (And.intro (show MagN w2 z2 (a * b) 1 from hz2.less (by rw [Nat.pow_one]; exact Nat.lt_of_le_of_lt (pow_le1 HS.out.2.2.2.2.1 (by omega)) HT.out)) (And.intro (HS.out.2.1.below hb2) (HS.out.2.2.2.2.2.trans (hb2.mono HS.out.2.2.2.2.2.size))))
          clear hz2 hb2
          go_wp2_with fail
          go_roundw
          case rel => exact ⟨q, _, _, rfl, rfl, by have := HQ.out; omega, rfl, by rw [← HQ.out]; exact Lib.hid ⟨(a * b), b, HZ.out.1, HZ.out.2.1, Nat.mul_pos HS.out.2.2.1 HS.out.2.2.2.1, HS.out.2.2.2.1, by have h := HS.out.2.2.2.2.1; rw [show nn = 1 by omega] at h ⊢; simpa using h, HZ.out.2.2⟩⟩
          case measure => have := HQ.out; simp [intOf]; omega
      · have hm2 : (nn : Int) % 2 = 0 := by omega
        have hb1 : 1 < nn := by omega
        have hb1' : (1 : Int) < (nn : Int) := by omega
        have HS := Lib.hid (And.intro hz (And.intro hx (And.intro ha (And.intro hb (And.intro hT2 hbel)))))
        clear hz hx ha hb hT2 hbel hp
        go_wp2_with fail
        have HX := Lib.hid (times_mag u0 u0 b b 1 1 wr HS.out.2.1 HS.out.2.1 (by omega) (by omega))
        refine HX.out.mono ?_
        rintro e w3 ⟨x3, rfl, hx3, hb3⟩
        have HY := Lib.hid (And.intro (show MagN w3 x3 (b * b) 1 from hx3.less (by rw [Nat.pow_one]; exact Nat.lt_of_le_of_lt (pow_le2 HS.out.2.2.2.2.1 HS.out.2.2.1 HS.out.2.2.2.1 (by omega)) HT.out)) (And.intro (HS.out.1.below hb3) (HS.out.2.2.2.2.2.trans (hb3.mono HS.out.2.2.2.2.2.size))))
        clear hx3 hb3
        go_wp2_with fail
        go_roundw
        case rel => exact ⟨q, _, _, rfl, rfl, by have := HQ.out; omega, rfl, by rw [← HQ.out]; exact Lib.hid ⟨a, b * b, HY.out.2.1, HY.out.1, HS.out.2.2.1, Nat.mul_pos HS.out.2.2.2.1 HS.out.2.2.2.1, pow_even HS.out.2.2.2.2.1 (by omega), HY.out.2.2⟩⟩
        case measure => have := HQ.out; simp [intOf]; omega
end Go.Proofs.YtbidlkmagbjllaaGreatDoor.Nb

namespace Go.Proofs.YtbidlkmagbjllaaGreatDoor.Nb
open Go Go.RowKit

theorem ten_small {k : Nat} (h : k < 19) : 10 ^ k * 10 / 18446744073709551616 = 0 ∧ 10 ^ k * 10 % 18446744073709551616 = 10 ^ (k + 1) := by
  have h1 : 10 ^ k * 10 ≤ 10 ^ 19 := by
    rw [← Nat.pow_succ]; exact Nat.pow_le_pow_right (by omega) (by omega)
  have h2 : (10 : Nat) ^ 19 < 18446744073709551616 := by decide
  exact ⟨Nat.div_eq_of_lt (by omega), by rw [Nat.mod_eq_of_lt (by omega), Nat.pow_succ]⟩
theorem ten_lt {k : Nat} (h : k ≤ 19) : 10 ^ k < 18446744073709551616 := by
  have h1 : 10 ^ k ≤ 10 ^ 19 := Nat.pow_le_pow_right (by omega) h
  have h2 : (10 : Nat) ^ 19 < 18446744073709551616 := by decide
  omega
set_option maxRecDepth 8000 in
set_option maxHeartbeats 1000000 in
theorem unit_ten (w : World) : Calls Tryz.prog 154 #[.int .u64 10] w fun e w' => e = .returned (.tuple #[.int .u64 10000000000000000000, .int .i64 19]) ∧ w' = w := by
  have HM := fun (k : Nat) (h : k ≤ 19) (w : World) => Tryz.bits_Mul64 (10 ^ k) 10 (ten_lt h) (by omega) w
  go_enter Tryz.func154, Tryz.ntmps154
  go_wp2_with fail
  go_loop [4, 5] (fun a b => ∃ k t : Nat, k ≤ 19 ∧ a = .int .u64 (t : Int) ∧ b = .int .i64 (k : Int) ∧ Hid (10 ^ k = t)) (fun _ b => 20 - (intOf b).toNat)
  case atStart => exact ⟨1, 10, by omega, rfl, rfl, Lib.hid rfl⟩
  case round =>
    obtain ⟨k, t, hk, rfl, rfl, ht⟩ := hrel
    by_cases h : k = 19
    · subst h
      have h10 : t = 10000000000000000000 := by rw [← ht.out]
      subst h10
      have HM1 := HM 19 (by omega) w
      clear HM
      go_wp2_with fail
      refine HM1.mono ?_
      rintro e w9 ⟨rfl, rfl⟩
      go_wp2_with fail
      go_ret2
      exact ⟨rfl, rfl⟩
    · have HM1 := Lib.hid (HM k (by omega) w)
      have ht1 := ten_small (k := k) (by omega)
      rw [ht1.1, ht1.2] at HM1
      obtain ⟨t2, ht2⟩ : ∃ t2, 10 ^ (k + 1) = t2 := ⟨_, rfl⟩
      rw [ht2, ht.out] at HM1
      have HT := Lib.hid ht2
      clear HM ht1 ht2
      go_wp2_with fail
      refine HM1.out.mono ?_
      rintro e w9 ⟨rfl, rfl⟩
      go_wp2_with fail
      go_roundw
      case rel => exact ⟨k + 1, t2, by omega, rfl, by go_num, HT⟩
      case measure => simp [intOf]; omega

set_option maxRecDepth 8000 in
set_option maxHeartbeats 1000000 in
/-- many, of nothing: the word that is added -/
theorem many_nil (d x : Nat) (w : World) (hx : x < 18446744073709551616) : Calls Tryz.prog 155 #[.slice none 0 0, .int .u64 (d : Int), .int .u64 (x : Int)] w (Num w x 1) := by
  have hmk := run_make_row' (P := Tryz.prog) 100 74 (.int .u64 0) 8 Tryz.underlying100 infoW rfl .i64 .i64 1 (by omega) (by omega)
  have hmc : madeCells #[Value.int .u64 0] 1 = #[.int .u64 0] := by simp [madeCells]; exact ⟨0, rfl, rfl⟩
  rw [show ((1 : Nat) : Int) = 1 from rfl] at hmk
  simp only [hmc] at hmk
  clear hmc
  go_enter Tryz.func155, Tryz.ntmps155
  go_wp2_with fail
  clear hmk
  go_loop [2, 16] (fun m i => m = .int .u64 (x : Int) ∧ i = .int .i64 0) (fun _ _ => 0)
  case atStart => exact ⟨rfl, rfl⟩
  case round =>
    obtain ⟨rfl, rfl⟩ := hrel
    go_wp2_with fail
    refine (norm_any _ [x] _ (Mag.one w x hx 74)).mono ?_
    rintro e w2 ⟨A2, k2, c2, -, rfl, hm2, rfl⟩
    have HF := Lib.hid hm2
    clear hm2
    go_wp2_with fail
    go_ret
    exact ⟨_, rfl, by have h := HF.out; simpa [val] using h, (Below.refl _ _).alloc (Nat.le_refl _) _⟩

/-- what decimal digits say -/
def decN (l : List UInt8) : Nat := l.foldl (fun n b => n * 10 + (b.toNat - 48)) 0
theorem decN_snoc (l : List UInt8) (b : UInt8) : decN (l ++ [b]) = decN l * 10 + (b.toNat - 48) := by simp [decN]
theorem dec_acc : ∀ (l : List UInt8) (a : Nat), (∀ b ∈ l, 48 ≤ b.toNat ∧ b.toNat ≤ 57) → l.foldl (fun n b => n * 10 + (b.toNat - 48)) a < (a + 1) * 10 ^ l.length := by
  intro l
  induction l with
  | nil => intro a _; simp
  | cons b l ih =>
    intro a h
    have h1 := ih (a * 10 + (b.toNat - 48)) fun x hx => h x (by simp [hx])
    have h2 := h b (by simp)
    rw [List.foldl_cons, List.length_cons, Nat.pow_succ]
    have h3 : (a * 10 + (b.toNat - 48) + 1) * 10 ^ l.length ≤ ((a + 1) * 10) * 10 ^ l.length := Nat.mul_le_mul_right _ (by omega)
    have h4 : (a + 1) * (10 ^ l.length * 10) = ((a + 1) * 10) * 10 ^ l.length := by rw [Nat.mul_comm (10 ^ l.length), Nat.mul_assoc]
    omega
theorem decN_lt (l : List UInt8) (h : ∀ b ∈ l, 48 ≤ b.toNat ∧ b.toNat ≤ 57) : decN l < 10 ^ l.length := by
  have := dec_acc l 0 h
  rwa [Nat.zero_add, Nat.one_mul] at this
theorem take_snoc (s : ByteArray) (k : Nat) (h : k < s.size) : s.data.toList.take (k + 1) = s.data.toList.take k ++ [s[k]] := by
  rw [List.take_succ_eq_append_getElem (by simpa using h)]; rfl
set_option maxRecDepth 8000 in
set_option maxHeartbeats 2000000 in
theorem read_digits (s : ByteArray) (w : World) (h0 : 0 < s.size) (hs : s.size ≤ 18) (hd : ∀ b ∈ s.data.toList, 48 ≤ b.toNat ∧ b.toNat ≤ 57) :
    Calls Tryz.prog 100 #[.string s, .int .i64 10] w fun e w' => ∃ v, e = .returned (.tuple #[v, .bool true]) ∧ MagN w' v (decN s.data.toList) 1 ∧ Below w.heap.size w w' := by
  have HU := Lib.hid (unit_ten w)
  have HD := Lib.hid hd
  have hne : s.toList.isEmpty = false := by
    rw [Lib.toList_data]
    have h1 : s.data.toList.length = s.size := by simp
    match hq : s.data.toList with
    | [] => rw [hq] at h1; simp at h1; omega
    | _ :: _ => rfl
  clear hd
  go_enter Tryz.func100, Tryz.ntmps100
  go_wp2_with fail
  refine HU.out.mono ?_
  rintro e w1 ⟨rfl, rfl⟩
  go_wp2_with fail
  go_loop [6, 9, 10, 11, 23] (fun x n z k i => ∃ j nn zz : Nat, j ≤ s.size ∧ x = .slice none 0 0 ∧ n = .int .u64 (nn : Int) ∧ z = .int .u64 (zz : Int) ∧ k = .int .i64 (j : Int) ∧ i = .int .i64 (j : Int) ∧ nn < zz ∧ zz < 18446744073709551616 ∧ Hid (decN (s.data.toList.take j) = nn ∧ 10 ^ j = zz)) (fun _ _ _ _ i => s.size - (intOf i).toNat)
  case atStart => exact ⟨0, 0, 1, Nat.zero_le _, rfl, rfl, rfl, rfl, rfl, by omega, by omega, Lib.hid ⟨rfl, rfl⟩⟩
  case round =>
    obtain ⟨j, nn, zz, hj, rfl, rfl, rfl, rfl, rfl, hnz, hz64, hh⟩ := hrel
    by_cases hlt : j < s.size
    · have hbd := HD.out s[j] (by simp [ByteArray.getElem_eq_getElem_data])
      have HN : Hid (decN (s.data.toList.take (j + 1)) = nn * 10 + (s[j].toNat - 48)) := Lib.hid (by rw [take_snoc s j hlt, decN_snoc, hh.out.1])
      have HZ : Hid (10 ^ (j + 1) = zz * 10) := Lib.hid (by rw [Nat.pow_succ, hh.out.2])
      have hz18 : zz * 10 < 18446744073709551616 := by rw [← HZ.out]; exact ten_lt (by omega)
      have hb0 : (48 : Int) ≤ (s[j].toNat : Int) := by omega
      have hb1 : (s[j].toNat : Int) ≤ 57 := by omega
      go_wp2_with fail
      go_round
      case rel => exact ⟨j + 1, nn * 10 + (s[j].toNat - 48), zz * 10, by omega, rfl, int_eq (by omega), by go_num, by go_num, by go_num, by omega, hz18, Lib.hid ⟨HN.out, HZ.out⟩⟩
      case measure => simp [intOf]; omega
    · obtain rfl : j = s.size := by omega
      have HMN := Lib.hid (many_nil zz nn w1 (by omega))
      go_wp2_with fail
      refine HMN.out.mono ?_
      rintro e w2 ⟨x, rfl, hx, hbx⟩
      have HX := Lib.hid (And.intro hx hbx)
      clear hx hbx
      go_wp2_with fail
      go_ret2
      exact ⟨x, rfl, by have h := hh.out.1; rw [List.take_of_length_le (by simp)] at h; rw [h]; exact HX.out.1, HX.out.2⟩
end Go.Proofs.YtbidlkmagbjllaaGreatDoor.Nb

namespace Go.Proofs.YtbidlkmagbjllaaGreatDoor.Nb
open Go Go.RowKit

/-- a place in a text; r: what is left of it -/
def CurR (w : World) (b : Nat) (s : ByteArray) (r : List UInt8) : Prop := ∃ k, CurAt w b s k ∧ k ≤ s.size ∧ s.data.toList.drop k = r
theorem CurR.kept {w w' : World} {b c : Nat} {s : ByteArray} {r : List UInt8} (h : CurR w b s r) (q : Kept w w' c) (hne : b ≠ c) : CurR w' b s r := by
  obtain ⟨k, ⟨h1, h2, h3, h4⟩, hk, hr⟩ := h
  exact ⟨k, ⟨Nat.lt_of_lt_of_le h1 q.size, (q.cell (p := ⟨b, 0, none⟩) h1 hne).trans h2, (q.cell (p := ⟨b, 1, none⟩) h1 hne).trans h3, (q.frozen (p := ⟨b, 1, none⟩) h1 hne).trans h4⟩, hk, hr⟩
theorem CurR.below {w w' : World} {b B : Nat} {s : ByteArray} {r : List UInt8} (h : CurR w b s r) (hb : Below B w w') (hB : w.heap.size ≤ B) : CurR w' b s r := by
  obtain ⟨k, h1, hk, hr⟩ := h
  exact ⟨k, h1.below hb hB, hk, hr⟩
theorem size_list (s : ByteArray) : s.data.toList.length = s.size := by simp
theorem extract_list (s : ByteArray) (k n : Nat) : (s.extract k (k + n)).data.toList = (s.data.toList.drop k).take n := by
  rw [ByteArray.data_extract, Array.toList_extract]
  simp [List.extract_eq_take_drop]
theorem bytes_eq {s : ByteArray} {l : List UInt8} (h : s.data.toList = l) : s = ⟨l.toArray⟩ := by
  cases s with | mk d => simp only at h; rw [← h]
theorem takeR_yes (b : Nat) (s : ByteArray) (c : UInt8) (r : List UInt8) (w : World) (h : CurR w b s (c :: r)) (hs : s.size ≤ 4611686018427387904) :
    Calls Tryz.prog 43 #[.pointer (some ⟨b, 0, none⟩), .string ⟨#[c]⟩] w fun e w' => e = .returned (.bool true) ∧ CurR w' b s r ∧ Below b w w' ∧ Kept w w' b := by
  obtain ⟨k, hc, hk, hr⟩ := h
  have hl : k + 1 ≤ s.size := by
    have h1 := congrArg List.length hr
    rw [List.length_drop, size_list] at h1
    simp at h1
    omega
  have he : s.extract k (k + (⟨#[c]⟩ : ByteArray).size) = ⟨#[c]⟩ := by
    have : (s.extract k (k + 1)).data.toList = [c] := by rw [extract_list, hr]; rfl
    exact bytes_eq this
  refine (take_yes b k s ⟨#[c]⟩ w hc hl hs he).mono ?_
  rintro e w' ⟨rfl, h1, h2, h3⟩
  refine ⟨rfl, ⟨k + 1, h1, hl, ?_⟩, h2, h3⟩
  rw [← List.drop_drop, hr]
  rfl
theorem takeR_no (b : Nat) (s : ByteArray) (c : UInt8) (r : List UInt8) (w : World) (h : CurR w b s r) (hn : r.head? ≠ some c) :
    Calls Tryz.prog 43 #[.pointer (some ⟨b, 0, none⟩), .string ⟨#[c]⟩] w fun e w' => e = .returned (.bool false) ∧ ∃ n, w' = w.drewN n := by
  obtain ⟨k, hc, hk, hr⟩ := h
  refine take_no b k s ⟨#[c]⟩ w hc hk ?_
  rintro ⟨h1, h2⟩
  apply hn
  rw [Lib.toList_data, Lib.toList_data] at h2
  have h3 : (s.extract k (k + 1)).data.toList = [c] := h2
  rw [extract_list, hr] at h3
  match r, h3 with
  | a :: t, h3 => simp at h3; subst h3; rfl
theorem digitsR (b : Nat) (s : ByteArray) (D r : List UInt8) (w : World) (h : CurR w b s (D ++ r)) (hs : s.size ≤ 4611686018427387904) (hd : ∀ x ∈ D, 48 ≤ x.toNat ∧ x.toNat ≤ 57)
    (he : ∀ x, r.head? = some x → x.toNat < 48 ∨ (57 < x.toNat ∧ x.toNat < 128)) :
    Calls Tryz.prog 44 #[.pointer (some ⟨b, 0, none⟩)] w fun e w' => e = .returned (.string ⟨D.toArray⟩) ∧ CurR w' b s r ∧ Below b w w' ∧ Kept w w' b := by
  obtain ⟨k, hc, hk, hr⟩ := h
  have hl : s.size = k + D.length + r.length := by
    have h1 := congrArg List.length hr
    rw [List.length_drop, size_list, List.length_append] at h1
    omega
  have hget : ∀ i, s.data.toList.getD (k + i) 0 = (D ++ r).getD i 0 := fun i => by
    rw [← hr, List.getD_eq_getElem?_getD, List.getD_eq_getElem?_getD, List.getElem?_drop]
  have hx : s.extract k (k + D.length) = ⟨D.toArray⟩ := bytes_eq (by rw [extract_list, hr]; simp)
  have := digits_any b k D.length s w hc (by omega) hs (fun i hi => by
    rw [hget, List.getD_eq_getElem?_getD, List.getElem?_append_left hi, List.getElem?_eq_getElem hi]
    exact hd _ (List.getElem_mem hi)) (by
    rw [hget, List.getD_eq_getElem?_getD, List.getElem?_append_right (Nat.le_refl _), Nat.sub_self]
    match r, he with
    | [], _ => left; simp at hl; omega
    | x :: t, he => right; exact he x rfl)
  rw [hx] at this
  refine this.mono ?_
  rintro e w' ⟨rfl, h1, h2, h3⟩
  refine ⟨rfl, ⟨k + D.length, h1, by omega, ?_⟩, h2, h3⟩
  rw [← List.drop_drop, hr]
  simp
theorem endR (b : Nat) (s : ByteArray) (r : List UInt8) (w : World) (h : CurR w b s r) :
    Calls Tryz.prog 47 #[.pointer (some ⟨b, 0, none⟩)] w fun e w' => e = .returned (.bool (decide (r = []))) ∧ ∃ n, w' = w.drewN n := by
  obtain ⟨k, hc, hk, hr⟩ := h
  refine end_any b k s w hc _ ?_
  apply decide_eq_decide.2
  have h1 := congrArg List.length hr
  rw [List.length_drop, size_list] at h1
  constructor
  · intro h; rw [h] at h1; simp at h1; omega
  · intro h; rw [h, Nat.sub_self] at h1; exact List.eq_nil_of_length_eq_zero h1.symm
end Go.Proofs.YtbidlkmagbjllaaGreatDoor.Nb
