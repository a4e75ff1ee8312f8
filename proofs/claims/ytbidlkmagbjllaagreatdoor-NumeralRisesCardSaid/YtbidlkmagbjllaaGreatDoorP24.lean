/- RD3 RD4 in one text. -/
import Derived.Test.YtbidlkmagbjllaaGreatDoorP23
import Derived.Test.YtbidlkmagbjllaaGreatDoorP20
import Derived.Test.YtbidlkmagbjllaaGreatDoorP21
import Derived.Test.YtbidlkmagbjllaaGreatDoorP22

namespace Go.Proofs.YtbidlkmagbjllaaGreatDoor.Bg
open Go Go.RowKit

def OvX (w : World) (g1 g2 g3 M K : Nat) (ds : List Nat) (X D i : Nat) (wr : World) : Prop :=
  ∃ us qs, Blk wr g1 ds ∧ Blk wr g2 us ∧ Blk wr g3 qs ∧ us.length = M + 1 ∧ qs.length = K ∧ W32 us ∧ W32 qs ∧ OverSt X D us qs i ∧ Below w.heap.size w wr
theorem ovx_step {w wr w8 : World} {g1 g2 g3 M K X DD jj G : Nat} {ds us os qs : List Nat} (b1 : Blk wr g1 ds) (b3 : Blk wr g3 qs) (l3 : qs.length = K) (wqs : W32 qs) (hov : OverSt X DD us qs (jj + 1)) (hbl : Below w.heap.size w wr)
    (hon : Only wr g2 w8) (b2 : Blk w8 g2 os) (l2 : os.length = M + 1) (wos : W32 os) (he : val os + 4294967296 ^ jj * (G * DD) = val us) (hlt : val os < DD * 4294967296 ^ jj) (hG : G < 4294967296) (hj : jj < qs.length)
    (h12 : g1 ≠ g2) (h32 : g3 ≠ g2) (h13 : g1 ≠ g3) (hg2 : w.heap.size ≤ g2) (hg3 : w.heap.size ≤ g3) : OvX w g1 g2 g3 M K ds X DD jj (w8.setCell ⟨g3, jj, none⟩ (.int .u32 (G : Nat))) := by
  have c1 := hon.blk b1 h12
  have c3 := hon.blk b3 h32
  have hset : Only w8 g3 (w8.setCell ⟨g3, jj, none⟩ (.int .u32 (G : Nat))) := (Only.refl w8 g3).setCell jj _
  refine ⟨os, qs.set jj G, hset.blk c1 h13, hset.blk b2 (Ne.symm h32), c3.set jj G, l2, by rw [List.length_set]; exact l3, wos, wqs.set hG, over_step hov hj he hlt, ?_⟩
  exact (hbl.trans (hon.below hg2 hbl.size)).setCell (p := ⟨g3, jj, none⟩) hg3 _
theorem Blk.first {w : World} {g n c : Nat} {os : List Nat} (h : Blk w g os) (hw : W32 os) (hl : os.length = c) (hn : n ≤ c) (hc : c ≤ 9223372036854775807) : Mag w (.slice (some ⟨g, 0, none⟩) n c) (os.take n) := by
  have h1 := h.mag hw (by omega)
  rw [hl] at h1
  have h2 := Mag.take (A := some ⟨g, 0, none⟩) (c := c) (ws := os) (w := w) (k := n) (by rw [hl]; exact h1) (by omega)
  exact h2
theorem getD_take {ws : List Nat} {n i : Nat} (h : i < n) : (ws.take n).getD i 0 = ws.getD i 0 := by
  rw [List.getD_eq_getElem?_getD, List.getElem?_take_of_lt h, List.getD_eq_getElem?_getD]
/-- a normal list's last word -/
theorem norm_last {ws : List Nat} (h : Norm ws) {n : Nat} (hl : ws.length = n) (h0 : 0 < n) : ws.getD (n - 1) 0 ≠ 0 := by
  rcases h with rfl | h
  · simp at hl; omega
  · have h2 := getLastD_take (ws := ws) (k := n - 1) (by omega)
    rw [show n - 1 + 1 = n by omega, List.take_of_length_le (by omega)] at h2
    rwa [h2] at h

set_option maxRecDepth 8000 in
set_option maxHeartbeats 8000000 in
theorem over_wide_core (u v : Value) (m d L L' : Nat) (w : World) (hu : MagN w u m L) (hv : MagN w v d L') (hL : L ≤ 268435456) (hd : 4294967296 ≤ d) (hge : d ≤ m) :
    Calls Tryz.prog 114 #[u, v] w fun e w' => ∃ q r, e = .returned (.tuple #[q, r]) ∧ MagN w' q (m / d) L ∧ MagN w' r (m % d) L' ∧ Below w.heap.size w w' := by
  have hv2 : MagN w v d L := by
    refine hv.less ?_
    obtain ⟨ws, h1, -, h3, h4⟩ := hu
    have h5 := val_lt h1.w32
    have h6 : 4294967296 ^ ws.length ≤ 4294967296 ^ L := Nat.pow_le_pow_right (by omega) h4
    omega
  have hc := compare_any u v m d L w hu hv2 (by omega)
  obtain ⟨c, hcv, hc0⟩ : ∃ c, cmpN m d = c ∧ 0 ≤ c := ⟨_, rfl, by unfold cmpN; split <;> (try split) <;> omega⟩
  rw [hcv] at hc
  have HC := Lib.hid hc
  obtain ⟨dm, hmd, hdn, hdv, hdl⟩ := hv
  obtain ⟨am, ha, han, hav, hal⟩ := hu
  have haw := ha.w32
  have hdw := hmd.w32
  obtain ⟨n, hn⟩ : ∃ n, dm.length = n := ⟨_, rfl⟩
  obtain ⟨M, hM⟩ : ∃ M, am.length = M := ⟨_, rfl⟩
  have hn2 : 2 ≤ n := by
    have h1 := val_lt hdw
    rcases Nat.lt_or_ge n 2 with h2 | h2
    · have : 4294967296 ^ dm.length ≤ 4294967296 ^ 1 := Nat.pow_le_pow_right (by omega) (by omega)
      omega
    · exact h2
  have hnM : n ≤ M := by
    refine Nat.not_lt.1 fun hlt => ?_
    have := norm_len_lt haw hdn (by omega)
    omega
  have hdge := norm_ge hdn (by omega)
  rw [hdv, hn] at hdge
  obtain ⟨y, hy⟩ : ∃ y, dm.getD (n - 1) 0 = y := ⟨_, rfl⟩
  have hy0 : 0 < y := by have := norm_last hdn hn (by omega); omega
  have hy1 : y < 4294967296 := by rw [← hy]; exact hdw.get _
  obtain ⟨s, hs, hs31, y0, y1⟩ := lz32_spec hy0 hy1
  have hlz := fun W => lz32 y s W hy1 hs
  obtain ⟨n1, n0⟩ := wide_norm hdw hdn hn (by omega) hy hs31 y0 y1
  rw [hdv] at n0 n1
  have ha' := ha
  have hmd' := hmd
  obtain ⟨A, ca, rfl, -⟩ := ha
  obtain ⟨Ad, cd, rfl, -⟩ := hmd
  rw [hn] at hmd' HC hc ⊢
  rw [hM] at ha' hal HC hc ⊢
  obtain ⟨bd, od, eb, hbd, hc1⟩ := hmd'.at (j := n - 1) (by omega)
  subst eb
  rw [hy] at hc1
  have HLZ := Lib.hid hlz
  have HMD := Lib.hid hmd'
  have HMA := Lib.hid ha'
  have HN := Lib.hid (And.intro n0 (And.intro n1 hdge))
  have HMM := Lib.hid (And.intro hM hn)
  have HS := Lib.hid (And.intro hdv (And.intro hav hdl))
  have hsi : (s : Int) ≤ 31 := by omega
  have hMi : (M : Int) ≤ 536870912 := by omega
  have hMn : M ≤ 268435456 := by omega
  have hni : (n : Int) ≤ (M : Int) := by omega
  have hni2 : (2 : Int) ≤ (n : Int) := by omega
  have hci : ¬ c < 0 := by omega
  have z1 : IntKind.i64.wrap ((n : Int) - 1) = (n : Int) - 1 := IntWalk.i64_in _ (by omega)
  have z2 : ((n : Int) - 1).toNat = n - 1 := by omega
  clear hc hcv hdv hs y0 y1 hav hlz hmd' ha' n0 n1 hM hn hdge hv2 hy hdl
  go_enter Tryz.func114, Tryz.ntmps114
  go_wp2_with fail
  refine HC.out.mono ?_
  rintro e w1 ⟨rfl, j, rfl⟩
  go_wp2_with (first | (go_at_call 168; refine (HLZ.out _).mono ?_; rintro e w' ⟨rfl, rfl⟩) | (go_at_call_of 115 (Value.slice (some ⟨bd, od, none⟩) n cd); refine (left_small _ n cd s dm _ (HMD.out.drewN j) (by omega) (by omega) (by omega)).mono ?_; rintro e w2 ⟨k1, os1, rfl, hf1, hb1⟩; have HF1 := Lib.hid (show Blk w2 w.heap.size os1 ∧ W32 os1 ∧ os1.length = n + 1 ∧ val os1 = val dm * 2 ^ s ∧ MagN w2 (.slice (some ⟨w.heap.size, 0, none⟩) k1 (n + 1)) (val os1) (n + 1) from hf1); have HB1 := Lib.hid ((below_dN (Below.refl w.heap.size w) j).trans hb1); clear hf1 hb1) | (go_at_call_of 115 (Value.slice A M ca); refine (left_small _ M ca s am _ (HMA.out.below HB1.out) (by omega) (by omega) (by omega)).mono ?_; rintro e w3 ⟨k2, os2, rfl, hf2, hb2⟩; have HF2 := Lib.hid hf2; have HB2 := Lib.hid hb2; clear hf2 hb2))
  have hk1 : n = k1 := by
    obtain ⟨ws, hw1, hw2, hw3, hw4⟩ := HF1.out.2.2.2.2
    have hl1 := hw1.len
    have q1 : val ws < 4294967296 ^ n := by rw [hw3, HF1.out.2.2.2.1, HS.out.1]; exact HN.out.2.1
    have q2 := norm_len_le hw2 q1
    have q3 : 4294967296 ^ (n - 1) ≤ val ws := by
      rw [hw3, HF1.out.2.2.2.1, HS.out.1]
      exact Nat.le_trans HN.out.2.2 (Nat.le_mul_of_pos_right _ (Nat.two_pow_pos s))
    have q4 := val_lt hw1.w32
    have q5 : n - 1 < ws.length := by
      refine Nat.not_le.1 fun hle => ?_
      have : 4294967296 ^ ws.length ≤ 4294967296 ^ (n - 1) := Nat.pow_le_pow_right (by omega) hle
      omega
    omega
  subst hk1
  obtain ⟨hk2, hk2z⟩ : M ≤ k2 ∧ (k2 ≤ M → os2.getD M 0 = 0) := by
    obtain ⟨ws, hw1, hw2, hw3, hw4⟩ := HF2.out.2.2.2.2
    have := over_len (k := k2) han (s := s) HF2.out.2.2.2.1 hw1.w32 hw1.len.symm hw2 hw3 HF2.out.2.1 (by rw [HMM.out.1]; exact HF2.out.2.2.1) (by rw [HMM.out.1]; omega)
    rwa [HMM.out.1] at this
  have hk2' : k2 ≤ M + 1 := HF2.out.2.2.2.2.len.2.2
  have HZ := Lib.hid hk2z
  clear hk2z
  go_loopw [10] (fun v wr => ∃ k : Nat, k2 ≤ k ∧ k ≤ M + 1 ∧ v = .slice (some ⟨w2.heap.size, 0, none⟩) k (M + 1) ∧ Hid (Below w3.heap.size w3 wr)) (fun v _ => match v with | .slice _ k _ => M + 1 - k | _ => 0)
  case atStart => exact ⟨k2, Nat.le_refl _, hk2', rfl, Lib.hid (Below.refl _ _)⟩
  case round =>
    obtain ⟨k, hkk, hkM, rfl, hbw⟩ := hrel
    by_cases hlt : k ≤ M
    · obtain rfl : k = M := by omega
      have hbk := Lib.hid ((HF2.out.1.below hbw.out).alloc (.cells #[.int .u32 0] 88))
      go_wp2_with (at_builtin; refine wpList_append_zero _ rfl _ _ rfl w2.heap.size wr.heap.size k (k + 1) os2 rfl rfl hbk.out HF2.out.2.2.1 (by omega) (HZ.out hkk) (by simp [go_sem]) ?_)
      go_roundw
      case rel => exact ⟨k + 1, by omega, by omega, rfl, Lib.hid (hbw.out.alloc hbw.out.size _)⟩
      case measure => simp
    · obtain rfl : k = M + 1 := by omega
      obtain ⟨K, hK⟩ : ∃ K, M + 1 - n = K := ⟨_, rfl⟩
      have hmk := run_make_row' (P := Tryz.prog) 39 88 (.int .u32 0) 4 Tryz.underlying39 infoW rfl .i64 .i64 K (by omega) (by omega)
      have hK1 : (M : Int) + 1 - (n : Int) = (K : Int) := by omega
      have HK := Lib.hid hK
      have hb1 := (HF1.out.1.below HB2.out).below hbw.out
      obtain ⟨e0, he0⟩ : ∃ x, os1.getD (n - 2) 0 = x := ⟨_, rfl⟩
      obtain ⟨e1, he1⟩ : ∃ x, os1.getD (n - 1) 0 = x := ⟨_, rfl⟩
      have hce := hb1.cell (j := n - 1) (by rw [HF1.out.2.2.1]; omega)
      rw [he1] at hce
      have we1 := HF1.out.2.1.get (n - 1)
      have we0 := HF1.out.2.1.get (n - 2)
      rw [he1] at we1
      rw [he0] at we0
      have HE := Lib.hid (And.intro hb1 (And.intro he0 he1))
      have hg1 : w.heap.size < w2.heap.size := HF1.out.1.lt
      have hg2 : w2.heap.size < w3.heap.size := HF2.out.1.lt
      have hg3 : w3.heap.size ≤ wr.heap.size := hbw.out.size
      have hg4 : w.heap.size < wr.heap.size := by omega
      have hg5 : w2.heap.size < wr.heap.size := by omega
      clear hK hb1 he0 he1
      go_wp2_with fail
      clear hmk
      have hb1 := HE.out.1.alloc (.cells (madeCells #[.int .u32 0] K) 88)
      have hb2 := (HF2.out.1.below hbw.out).alloc (.cells (madeCells #[.int .u32 0] K) 88)
      have hb3 := Blk.made wr K
      have hbl : Below w.heap.size w (wr.alloc (.cells (madeCells #[.int .u32 0] K) 88)) := ((HB1.out.trans ((HB2.out.mono (by omega)))).trans (hbw.out.mono (by omega))).alloc (by omega) _
      have HH := Lib.hid (And.intro hb1 (And.intro hb2 (And.intro hb3 hbl)))
      clear hb1 hb2 hb3 hbl hce
      generalize wr.alloc (.cells (madeCells #[.int .u32 0] K) 88) = W5 at *
      have F1 := Lib.hid HF1.out.2
      have F2 := Lib.hid HF2.out.2
      have EE := Lib.hid HE.out.2
      clear HF1 HF2 HE HB1 HB2 hbw hg3 HZ
      generalize wr.heap.size = g3 at *
      generalize hG2 : w2.heap.size = g2 at *
      obtain ⟨g1, hG1⟩ : ∃ g1, w.heap.size = g1 := ⟨_, rfl⟩
      obtain ⟨DD, hDD⟩ : ∃ x, d * 2 ^ s = x := ⟨_, rfl⟩
      obtain ⟨X, hX⟩ : ∃ x, m * 2 ^ s = x := ⟨_, rfl⟩
      have hval1 : val os1 = d * 2 ^ s := by rw [F1.out.2.2.1, HS.out.1]
      have hDn := HN.out.2.1
      have hDh := HN.out.1
      rw [hDD] at hDn hDh hval1
      have hval1n : val (os1.take n) = DD := by
        have q1 := drop_zero_of_lt F1.out.1 (k := n) (by rw [hval1]; exact hDn)
        have q2 := val_take_drop os1 (k := n) (by have := F1.out.2.1; omega)
        rw [q1, Nat.mul_zero, Nat.add_zero, hval1] at q2
        exact q2.symm
      have hlen1n : (os1.take n).length = n := by rw [List.length_take, F1.out.2.1]; omega
      have hE1 : (os1.take n).getD (n - 1) 0 = e1 := by rw [getD_take (by omega)]; exact EE.out.2
      have hE0 : (os1.take n).getD (n - 2) 0 = e0 := by rw [getD_take (by omega)]; exact EE.out.1
      have he31 : 2147483648 ≤ e1 := wide_top (F1.out.1.take n) hlen1n (by omega) hE1 (by rw [hval1n]; exact hDh)
      have hD0 : 0 < DD := by
        have := Nat.pow_pos (n := n - 1) (show 0 < 4294967296 by omega)
        omega
      obtain ⟨V0, hV0, hV⟩ := wide_div (F1.out.1.take n) hn2 hlen1n hE1 hE0
      rw [hval1n] at hV
      have H0 : Hid (OvX w g1 g2 g3 M K os1 X DD K W5) := Lib.hid ⟨os2, _, by rw [← hG1]; exact HH.out.1, HH.out.2.1, HH.out.2.2.1, F2.out.2.1, by simp, F2.out.1, W32.rep _, by
        rw [← hX, ← hDD, ← HK.out]
        exact over_start_wide (by rw [F2.out.2.2.1, HS.out.2.1]) (by rw [← HS.out.2.1]; have := val_lt haw; rwa [HMM.out.1] at this) HN.out.2.2 (by omega) hnM (Nat.two_pow_pos s), HH.out.2.2.2⟩
      have HX := Lib.hid (And.intro hX hDD)
      have HDW := Lib.hid (And.intro hval1n (And.intro hV (And.intro hV0 (And.intro hD0 (And.intro hDn hlen1n)))))
      clear hX hDD hval1 hval1n hV hV0 hDh hDn hE1 hE0 hlen1n hD0
      rw [hG1] at hg1 hg4 hbd ⊢
      have HG1 := Lib.hid hG1
      have HG2 := Lib.hid hG2
      clear hG1 hG2 hK1
      go_loopw [14] (fun v wx => ∃ k : Nat, k ≤ K ∧ v = .int .i64 ((k : Int) - 1) ∧ Hid (OvX w g1 g2 g3 M K os1 X DD k wx)) (fun v _ => (intOf v + 1).toNat)
      case atStart => exact ⟨K, Nat.le_refl _, rfl, H0⟩
      case round =>
        obtain ⟨k, hkK, rfl, hp⟩ := hrel
        obtain ⟨us, qs, b1, b2, b3, l2, l3, wus, wqs, hov, hbl⟩ := hp.out
        have HO := Lib.hid (And.intro (And.intro b1 (And.intro b2 b3)) (And.intro (And.intro l2 l3) (And.intro (And.intro wus wqs) (And.intro hov hbl))))
        by_cases hk0 : k = 0
        · subst hk0
          have hfin := over_end (by have := hov; rw [← HX.out.1, ← HX.out.2] at this; exact this) (Nat.two_pow_pos s) (by omega)
          have hmq := b3.mag wqs (by have := HK.out; omega)
          rw [l3] at hmq
          have hmu2 := b2.first wus l2 (n := n) (by omega) (by omega)
          have hval2 : val (us.take n) = m % d * 2 ^ s := by
            have h8 := drop_zero_of_lt wus (k := n) (by rw [hfin.2]; have : m % d < d := Nat.mod_lt _ (by omega); have h7 := Nat.mul_lt_mul_of_pos_right this (Nat.two_pow_pos s); rw [HX.out.2] at h7; exact Nat.lt_trans h7 HDW.out.2.2.2.2.1)
            have h9 := val_take_drop us (k := n) (by omega)
            rw [h8, Nat.mul_zero, Nat.add_zero, hfin.2] at h9
            exact h9.symm
          have htl : (us.take n).length ≤ L' := by rw [List.length_take]; have := HS.out.2.2; have := HMM.out.2; omega
          have HMQ := Lib.hid hmq
          have HMU := Lib.hid hmu2
          have HV2 := Lib.hid (And.intro hval2 hfin.1)
          have HTL := Lib.hid htl
          have hM21 : (n : Int) ≤ (M : Int) + 1 := by omega
          have hM22 : n ≤ M + 1 := by omega
          have hKb : K ≤ M := by have := HK.out; omega
          have hKM := Lib.hid hKb
          clear b1 b2 b3 l2 l3 wus wqs hov hbl hp hfin hmq hmu2 hval2 htl hKb
          have hsn : (s : Int) ≤ 18446744073709551615 := by omega
          go_wp2_with fail
          go_region_with (first | (go_at_call_of 38 (some (⟨g3, 0, none⟩ : Addr)); refine (cut_any _ qs _ (by first | exact HMQ.out.drew | exact HMQ.out | exact HMQ.out.below HBR.out)).mono ?_; rintro e w6 ⟨A6, k6, c6, h6, rfl, hm6, rfl⟩; have HM6 := Lib.hid hm6; clear h6 hm6) | (go_at_call_of 38 (some (⟨g2, 0, none⟩ : Addr)); refine (cut_any _ (us.take n) _ (by first | exact HMU.out.drew | exact HMU.out)).mono ?_; rintro e w7 ⟨A7, k7, c7, h7, rfl, hm7, rfl⟩; have HM7 := Lib.hid hm7; clear h7 hm7) | (go_at_call 171; refine (right_any _ _ s _ _ HM7.out (by rw [List.length_take]; omega) (by omega)).mono ?_; rintro e wR ⟨vR, rfl, hmR, hbR⟩; have HMR := Lib.hid hmR; have HBR := Lib.hid hbR; clear hmR hbR))
          all_goals go_wp2_with fail
          all_goals go_ret2
          all_goals (refine ⟨_, _, rfl, ?_, ?_, HO.out.2.2.2.2.trans ((Below.refl _ _).drew.trans (HBR.out.mono (by have := HO.out.2.2.2.2.size; simpa using this)))⟩)
          all_goals first | (rw [← HV2.out.2]; exact (HM6.out.below HBR.out).more (by have := HO.out.2.1.2; have := hKM.out; omega)) | (rw [← HV2.out.2]; exact HM6.out.more (by have := HO.out.2.1.2; have := hKM.out; omega)) | (have h9 := HMR.out; rw [HV2.out.1, Nat.mul_div_cancel _ (Nat.two_pow_pos s)] at h9; exact h9.more HTL.out)
        · obtain ⟨jj, rfl⟩ : ∃ jj, k = jj + 1 := ⟨k - 1, by omega⟩
          rw [show (((jj + 1 : Nat) : Int) - 1) = (jj : Int) by omega]
          obtain ⟨u0, hu0⟩ : ∃ x, us.getD (jj + n - 2) 0 = x := ⟨_, rfl⟩
          obtain ⟨u1, hu1⟩ : ∃ x, us.getD (jj + n - 1) 0 = x := ⟨_, rfl⟩
          obtain ⟨u2, hu2⟩ : ∃ x, us.getD (jj + n) 0 = x := ⟨_, rfl⟩
          have hkm := HK.out
          have c0 := b2.cell (j := jj + n - 2) (by omega)
          have c1 := b2.cell (j := jj + n - 1) (by omega)
          have c2 := b2.cell (j := jj + n) (by omega)
          have w0 := wus.get (jj + n - 2)
          have w1 := wus.get (jj + n - 1)
          have w2' := wus.get (jj + n)
          have ce := b1.cell (j := n - 2) (by rw [F1.out.2.1]; omega)
          rw [hu0] at c0 w0
          rw [hu1] at c1 w1
          rw [hu2] at c2 w2'
          rw [EE.out.1] at ce
          obtain ⟨hz0, hWl, W0, hW0, hW⟩ := wide_window wus hn2 HDW.out.2.2.2.2.1 (by omega) hov.2.1 hu2 hu1 hu0
          obtain ⟨tt, htt⟩ : ∃ x, u2 * 4294967296 + u1 = x := ⟨_, rfl⟩
          rw [htt] at hW
          have hkin := wide_in hW HDW.out.2.1 HDW.out.2.2.1 hWl we1 he31 we0 w0
          have hnear := guess_near hkin hW hW0 HDW.out.2.1 HDW.out.2.2.1 hWl
          obtain ⟨G, hG⟩ : ∃ x, kG e1 e0 tt u0 = x := ⟨_, rfl⟩
          rw [hG] at hnear
          have hgl : G < 4294967296 := by
            have : kG e1 e0 tt u0 ≤ 4294967295 := Nat.min_le_right _ _
            omega
          have hor := or_hi2 w2' w1
          rw [htt] at hor
          have htb : (tt : Int) ≤ 18446744073709551615 := by omega
          have s1 : IntKind.i64.wrap ((jj : Int) + (n : Int)) = (jj : Int) + (n : Int) := IntWalk.i64_in _ (by omega)
          have s2 : IntKind.i64.wrap ((jj : Int) + (n : Int) - 1) = (jj : Int) + (n : Int) - 1 := IntWalk.i64_in _ (by omega)
          have s3 : ((jj : Int) + (n : Int)).toNat = jj + n := by omega
          have s4 : ((jj : Int) + (n : Int) - 1).toNat = jj + n - 1 := by omega
          have s5 : (0 : Int) ≤ (jj : Int) + (n : Int) := by omega
          have s6 : (0 : Int) ≤ (jj : Int) + (n : Int) - 1 := by omega
          have s7 : (jj : Int) + (n : Int) < ((M : Int) + 1) := by omega
          have s8 : (jj : Int) + (n : Int) - 1 < ((M : Int) + 1) := by omega
          have HQ := Lib.hid (And.intro hkin (And.intro hnear (And.intro hG (And.intro hu0 (And.intro hu1 (And.intro hu2 hz0))))))
          have hjM : jj + n < M + 1 := by omega
          clear hkin hnear hG hu0 hu1 hu2 htt b1 b2 b3 l2 l3 wus wqs hov hbl hkm hW hW0 hWl hz0
          go_wp2_with fail
          go_quiet (fail)
          obtain ⟨gg, hgg⟩ : ∃ x, tt / e1 = x := ⟨_, rfl⟩
          obtain ⟨rr, hrr⟩ : ∃ x, tt % e1 = x := ⟨_, rfl⟩
          have hgi : (tt : Int) / (e1 : Int) = (gg : Int) := by rw [← hgg]; rfl
          have hri : (tt : Int) % (e1 : Int) = (rr : Int) := by rw [← hrr]; rfl
          have he0 : ¬ (e1 : Int) = 0 := by omega
          have Q0 : Hid (KInv e1 e0 tt u0 gg rr) := Lib.hid (by
            have h9 := HQ.out.1.start
            rwa [hgg, hrr] at h9)
          have hggb : (gg : Int) ≤ 4294967297 := by have := Q0.out.gl; omega
          have HRI := Lib.hid hri
          clear hri
          clear hgg hrr s1 s2 s3 s4 s5 s6 s7 s8 hor
          go_upto_block 4 with (fail)
          go_cut [16, 17] from 78 to 151 (fun v v' wx => v = .int .u64 (G : Int) ∧ (∃ r, v' = .int .u64 r) ∧ ∃ n, wx = wr.drewN n)
          case first =>
            have t0 : IntKind.i64.wrap ((jj : Int) + (n : Int)) = (jj : Int) + (n : Int) := IntWalk.i64_in _ (by omega)
            have t1 : IntKind.i64.wrap ((jj : Int) + (n : Int) - 2) = (jj : Int) + (n : Int) - 2 := IntWalk.i64_in _ (by omega)
            have t2 : ((jj : Int) + (n : Int) - 2).toNat = jj + n - 2 := by omega
            have t3 : (jj : Int) + (n : Int) - 2 < ((M : Int) + 1) := by omega
            have t4 : (0 : Int) ≤ (jj : Int) + (n : Int) - 2 := by omega
            have t5 : IntKind.i64.wrap ((n : Int) - 2) = (n : Int) - 2 := IntWalk.i64_in _ (by omega)
            have t6 : ((n : Int) - 2).toNat = n - 2 := by omega
            have t7 : (0 : Int) ≤ (n : Int) - 2 := by omega
            go_wp2_with fail
            go_loopw [16, 17] (fun v v' wx => ∃ (q r : Int) (n : Nat), Hid (KZ e1 e0 tt u0 q r) ∧ v = .int .u64 q ∧ v' = .int .u64 r ∧ wx = wr.drewN n) (fun v _ _ => (intOf v).toNat)
            case atStart => exact ⟨gg, rr, _, Lib.hid ⟨gg, rr, rfl, rfl, Q0.out⟩, rfl, int_eq HRI.out, rfl⟩
            case round =>
              obtain ⟨q, r, nn, I, rfl, rfl, rfl⟩ := hrel
              obtain ⟨r0, r1, g0, g1'⟩ := I.out.bounds
              by_cases cc1 : 4294967296 ≤ q
              · have cd1 : decide (4294967296 ≤ q) = true := by simpa using cc1
                by_cases cc2 : r + (e1 : Int) < 4294967296
                · go_wp2_with fail
                  go_quiet (fail)
                  go_wp2_with fail
                  go_roundw
                  case rel => exact ⟨_, _, _, Lib.hid (I.out.dec HQ.out.1 (.inl cc1) cc2), rfl, rfl, rfl⟩
                  case measure => simp [intOf]; omega
                · go_wp2_with fail
                  go_quiet (fail)
                  go_wp2_with fail
                  go_meet
                  exact ⟨int_eq (by rw [← HQ.out.2.2.1]; exact I.out.brk HQ.out.1 (.inl cc1) (by omega)), ⟨_, rfl⟩, ⟨_, rfl⟩⟩
              · have cd1 : decide (4294967296 ≤ q) = false := by simpa using cc1
                obtain ⟨p0, p1⟩ := I.out.prod HQ.out.1 (by omega)
                have hp := Ck.u64w p0 p1
                have hor2 := or_hi3 r0 r1 w0
                have hr32 : IntKind.u64.wrap (r * 4294967296) = r * 4294967296 := IntWalk.u64_in _ ⟨by omega, by omega⟩
                by_cases cc3 : 4294967296 * r + (u0 : Int) < q * (e0 : Int)
                · have hq1 := I.out.one HQ.out.1 (.inr cc3)
                  by_cases cc2 : r + (e1 : Int) < 4294967296
                  · go_wp2_with fail
                    go_quiet (fail)
                    go_wp2_with fail
                    go_roundw
                    case rel => exact ⟨_, _, _, Lib.hid (I.out.dec HQ.out.1 (.inr cc3) cc2), rfl, rfl, rfl⟩
                    case measure => simp [intOf]; omega
                  · go_wp2_with fail
                    go_quiet (fail)
                    go_wp2_with fail
                    go_meet
                    exact ⟨int_eq (by rw [← HQ.out.2.2.1]; exact I.out.brk HQ.out.1 (.inr cc3) (by omega)), ⟨_, rfl⟩, ⟨_, rfl⟩⟩
                · go_wp2_with fail
                  go_quiet (fail)
                  go_wp2_with fail
                  go_meet
                  exact ⟨int_eq (by rw [← HQ.out.2.2.1]; exact I.out.stop HQ.out.1 (by omega) (by omega)), ⟨_, rfl⟩, ⟨_, by first | rfl | exact drewN_two _ _ _⟩⟩
          case rest =>
            obtain ⟨rfl, ⟨r, rfl⟩, nn, rfl⟩ := hcut
            have HL2 := HO.out.2.1
            have hml := HO.out.1.1.first F1.out.1 F1.out.2.1 (n := n) (by omega) (by omega)
            have hbk2 : Blk (wr.drewN nn) g2 us := HO.out.1.2.1.drewN nn
            have HML := Lib.hid hml
            have HLC := Lib.hid (less_core g2 (M + 1) (M + 1) n (n + 1) g1 0 jj G us (os1.take n) (wr.drewN nn) hbk2 HO.out.2.2.1.1 HL2.1 (hml.drewN nn) (by omega) (by omega) (by omega) hgl)
            clear HL2 hml hbk2
            go_wp2_with fail
            refine HLC.out.mono ?_
            rintro e w8 ⟨ns, bb, rfl, hb1, hbk, hln, hws, heq, hdrop, hon⟩
            rw [HDW.out.1] at heq
            have hjq : jj < qs.length := by rw [HO.out.2.1.2]; omega
            have hlo : val ns < 4294967296 ^ (jj + n + 1) := low_of_drop hws (by omega) (by rw [hdrop]; exact HQ.out.2.2.2.2.2.2)
            have hjK : (jj : Int) < (K : Int) := by omega
            have b3 := hon.blk (HO.out.1.2.2.drewN nn) (by omega)
            have hon' : Only wr g2 w8 := ((Only.refl wr g2).drewN nn).trans hon
            rcases (by omega : bb = 0 ∨ bb = 1) with rfl | rfl
            · rw [Nat.mul_zero, Nat.add_zero] at heq
              have hlt8 := wide_no HDW.out.2.2.2.1 HQ.out.2.1.1 heq
              have hfr := b3.frozen jj
              have hcq := b3.cell hjq
              obtain ⟨oq, hoq⟩ : ∃ x, qs.getD jj 0 = x := ⟨_, rfl⟩
              rw [hoq] at hcq
              have HST := Lib.hid (ovx_step HO.out.1.1 HO.out.1.2.2 HO.out.2.1.2 HO.out.2.2.1.2 HO.out.2.2.2.1 HO.out.2.2.2.2 hon' hbk hln hws heq hlt8 hgl hjq (by omega) (by omega) (by omega) (by have := HG1.out; omega) (by have := HG1.out; omega))
              clear b3 hoq hon hon' hbk hln hws heq hdrop hlt8 hb1 hjq hlo
              go_wp2_with fail
              go_roundw
              case rel => exact ⟨jj, by omega, rfl, HST⟩
              case measure => simp [intOf]
            · rw [Nat.mul_one] at heq
              have hml8 := hon.mag (HML.out.drewN nn) (fun x hx => by injection hx with hx; rw [← hx]; show g1 ≠ g2; omega)
              have HMC := Lib.hid (more_core g2 (M + 1) (M + 1) n (n + 1) g1 0 jj ns (os1.take n) w8 hbk hws hln hml8 (by omega) (by omega) (by omega))
              have HB3 := Lib.hid b3
              have HF8 := Lib.hid (And.intro heq (And.intro hlo (And.intro hon' hdrop)))
              have hG1' : ¬ G = 0 := by
                intro h0
                rw [h0, Nat.zero_mul, Nat.mul_zero, Nat.add_zero] at heq
                omega
              have hGi : (0 : Int) ≤ (G : Int) - 1 := by omega
              clear b3 hon hon' hbk hln hws heq hdrop hb1 hlo hml8
              go_wp2_with fail
              refine HMC.out.mono ?_
              rintro e w9 ⟨ns2, c2', rfl, hc2, hbk9, hln9, hws9, heq9, hdrop9, hon9⟩
              rw [HDW.out.1] at heq9
              have hlo9 : val ns2 < 4294967296 ^ (jj + n + 1) := low_of_drop hws9 (by omega) (by rw [hdrop9, HF8.out.2.2.2]; exact HQ.out.2.2.2.2.2.2)
              obtain ⟨gk, hgk, he9, hl9⟩ := wide_yes HDW.out.2.2.2.1 HQ.out.2.1.1 HQ.out.2.1.2 HF8.out.1 heq9 hc2 HF8.out.2.1 hlo9
              have b3 := hon9.blk HB3.out (by omega)
              have hfr := b3.frozen jj
              have hcq := b3.cell hjq
              obtain ⟨oq, hoq⟩ : ∃ x, qs.getD jj 0 = x := ⟨_, rfl⟩
              rw [hoq] at hcq
              have HST := Lib.hid (ovx_step HO.out.1.1 HO.out.1.2.2 HO.out.2.1.2 HO.out.2.2.1.2 HO.out.2.2.2.1 HO.out.2.2.2.2 (HF8.out.2.2.1.trans hon9) hbk9 hln9 hws9 he9 hl9 (by omega) hjq (by omega) (by omega) (by omega) (by have := HG1.out; omega) (by have := HG1.out; omega))
              have hgki : (G : Int) - 1 = (gk : Int) := by omega
              have hgkl : (gk : Int) < 4294967296 := by omega
              clear b3 hoq hon9 hbk9 hln9 hws9 heq9 hdrop9 hl9 he9 hjq hlo9 hgk
              go_wp2_with fail
              go_roundw
              case rel => exact ⟨jj, by omega, rfl, HST⟩
              case measure => simp [intOf]

set_option maxRecDepth 8000 in
theorem over_wide_lt (u v : Value) (m d L L' : Nat) (w : World) (hu : MagN w u m L) (hv : MagN w v d L') (hL : L ≤ 268435456) (hL' : L' ≤ 268435456) (hlt : m < d) :
    Calls Tryz.prog 114 #[u, v] w fun e w' => ∃ q r, e = .returned (.tuple #[q, r]) ∧ MagN w' q (m / d) L ∧ MagN w' r (m % d) L' ∧ Below w.heap.size w w' := by
  have hc := compare_any u v m d (max L L') w (hu.more (by omega)) (hv.more (by omega)) (by omega)
  have hcv : cmpN m d = -1 := by unfold cmpN; split <;> (try split) <;> omega
  simp only [hcv] at hc
  have hm := hu.less (L' := L') (by
    obtain ⟨ws, h1, -, h3, h4⟩ := hv
    have h5 := val_lt h1.w32
    have h6 : 4294967296 ^ ws.length ≤ 4294967296 ^ L' := Nat.pow_le_pow_right (by omega) h4
    omega)
  have hdm : m / d = 0 := Nat.div_eq_of_lt hlt
  have hmm : m % d = m := Nat.mod_eq_of_lt hlt
  rw [hdm, hmm]
  obtain ⟨ws, g1, g2⟩ := hm
  have G1 := Lib.hid g1
  have G2 := Lib.hid g2
  have HC := Lib.hid hc
  clear hu hv hc g1 g2 hdm hmm hcv
  go_enter Tryz.func114, Tryz.ntmps114
  go_wp2_with fail
  refine HC.out.mono ?_
  rintro e w1 ⟨rfl, j, rfl⟩
  go_wp2_with (at_builtin; refine wpList_append_words (w.drewN j) rfl _ _ rfl u ws rfl rfl G1.out (by have := G2.out.2.2; omega) ?_; intro v1 w1 hm1 hb1)
  have HB := Lib.hid (And.intro hm1 ((below_dN (Below.refl w.heap.size w) j).trans hb1))
  clear hm1 hb1
  go_ret2
  exact ⟨_, _, rfl, MagN.zero _ _ _ _ (by omega), ⟨ws, HB.out.1, G2.out⟩, HB.out.2⟩

/-- over: of a magnitude by one above 0: the quotient and the rest -/
theorem over_any (u v : Value) (m d L L' : Nat) (w : World) (hu : MagN w u m L) (hv : MagN w v d L') (hL : L ≤ 268435456) (hL' : L' ≤ 268435456) (hd : 0 < d) (hL1 : 1 ≤ L) :
    Calls Tryz.prog 114 #[u, v] w fun e w' => ∃ q r, e = .returned (.tuple #[q, r]) ∧ MagN w' q (m / d) L ∧ MagN w' r (m % d) L' ∧ Below w.heap.size w w' := by
  rcases Nat.lt_or_ge m d with h2 | h2
  · exact over_wide_lt u v m d L L' w hu hv hL hL' h2
  · rcases Nat.lt_or_ge d 4294967296 with h1 | h1
    · have hL1' : 1 ≤ L' := by
        obtain ⟨ws, h3, h4, h5, h6⟩ := hv
        rcases ws with _ | ⟨x, r⟩
        · simp [val] at h5; omega
        · simp at h6; omega
      exact (over_one u v m d L w hu (hv.less (by rw [Nat.pow_one]; exact h1)) (by omega) hd hL1).mono fun e w' ⟨q, r, a, b, c, f⟩ => ⟨q, r, a, b, c.more hL1', f⟩
    · exact over_wide_core u v m d L L' w hu hv hL h1 h2
end Go.Proofs.YtbidlkmagbjllaaGreatDoor.Bg

namespace Go.Proofs.YtbidlkmagbjllaaGreatDoor.Bg
open Go Go.RowKit

theorem left_nil (A : Option Addr) (ca N : Nat) (w : World) : Calls Tryz.prog 115 #[.slice A 0 ca, .int .u64 (N : Int)] w fun e w' => e = .returned (.slice none 0 0) ∧ w = w' := by
  go_enter Tryz.func115, Tryz.ntmps115
  go_wp2_with fail
  go_ret
  exact ⟨rfl, rfl⟩
theorem two_words (N : Nat) : (2 : Nat) ^ N = 4294967296 ^ (N / 32) * 2 ^ (N % 32) := by
  rw [show (4294967296 : Nat) = 2 ^ 32 by decide, ← Nat.pow_mul, ← Nat.pow_add]
  congr 1
  omega
/-- left: a magnitude times 2 to the N-th -/
theorem left_any (v : Value) (X N L : Nat) (w : World) (h : MagN w v X L) (hL : N / 32 + L ≤ 536870912) :
    Calls Tryz.prog 115 #[v, .int .u64 (N : Int)] w fun e w' => ∃ v', e = .returned v' ∧ MagN w' v' (X * 2 ^ N) (N / 32 + L + 1) ∧ Below w.heap.size w w' := by
  obtain ⟨ws, h1, h2, rfl, h4⟩ := h
  have h1' := h1
  obtain ⟨A, c, rfl, -⟩ := h1
  rcases Nat.eq_zero_or_pos ws.length with h0 | h0
  · have hz := List.eq_nil_of_length_eq_zero h0
    subst hz
    exact (left_nil A c N w).mono fun e w' ⟨a, b⟩ => by subst b; exact ⟨_, a, by simp only [val, Nat.zero_mul]; exact MagN.zero0 _ _, Below.refl _ _⟩
  · refine (left_core A ws.length c (N / 32) (N % 32) N ws w h1' (by omega) (by omega) (by omega) h0).mono ?_
    rintro e w' ⟨k, os, a1, a2, a3, a4, a5, a6, a7⟩
    rw [a5, ← two_words] at a6
    exact ⟨_, a1, a6.more (by omega), a7⟩

set_option maxRecDepth 8000 in
set_option maxHeartbeats 4000000 in
/-- Lsh: a number times 2 to the N-th, written into any number, the same one too -/
theorem Lsh_any (z p : Addr) (x : Int) (N L : Nat) (w : World) (hz : Slot w z) (hp : IntAt w p x L) (hL : N / 32 + L ≤ 536870912) (hN : N ≤ 9223372036854775807) :
    Calls Tryz.prog 62 #[.pointer (some z), .pointer (some p), .int .u64 (N : Int)] w (Gives w z (x * ((2 ^ N : Nat) : Int)) (N / 32 + L + 1)) := by
  obtain ⟨b1, o1, s1, A1, k1, c1, m, rfl, hb1, h3, h4, h5, h6, h7⟩ := hp.open
  have HO := Lib.hid (fun (W : World) (hW : Below w.heap.size w W) => left_any _ m N L W (h5.below hW) hL)
  have HZ := Lib.hid hz
  have hr : (if s1 = true then -((m * 2 ^ N : Nat) : Int) else ((m * 2 ^ N : Nat) : Int)) = x * ((2 ^ N : Nat) : Int) := by
    rw [h6, Int.natCast_mul]; cases s1 <;> simp [Int.neg_mul]
  have HR := Lib.hid hr
  have hNi : (N : Int) ≤ 9223372036854775807 := by omega
  obtain ⟨P, hP⟩ : ∃ P, 2 ^ N = P := ⟨_, rfl⟩
  rw [hP] at HR HO ⊢
  clear h5 hz hp h6 h7 hr hP
  go_enter Tryz.func62, Tryz.ntmps62
  go_wp2_with fail
  go_region_with (first | (go_at_call 115; refine (HO.out _ (Below.refl _ _).drew).mono ?_; rintro e w1 ⟨v, rfl, hm, hb⟩; have HB := Lib.hid (And.intro hm ((Below.refl w.heap.size w).drew.trans hb)); have f3 := (HB.out.2.cell (p := ⟨b1, o1, none⟩) hb1).trans h3) | (go_at_call 39; refine (put_any z s1 v (m * P) (N / 32 + L + 1) _ (HZ.out.below HB.out.2) HB.out.1).mono ?_; rintro e w2 hg; have HG := Lib.hid (hg.of_below HB.out.2); obtain ⟨rfl, -⟩ := id hg))
  all_goals (clear hg hb hm; go_wp2_with fail; go_ret; have h9 := HG.out; rw [HR.out] at h9; exact h9)

set_option maxRecDepth 8000 in
set_option maxHeartbeats 1000000 in
/-- Set: the same number -/
theorem Set_any (z p : Addr) (x : Int) (L : Nat) (w : World) (hz : Slot w z) (hp : IntAt w p x L) (hL : L ≤ 1099511627776) :
    Calls Tryz.prog 54 #[.pointer (some z), .pointer (some p)] w (Gives w z x L) := by
  obtain ⟨b, off, neg, u, m, rfl, hb, h3, h4, h5, h6, h7⟩ := hp
  obtain ⟨ws, g1, g2, g3, g4⟩ := h5
  have G1 := Lib.hid g1
  have G2 := Lib.hid (And.intro g2 (And.intro g3 g4))
  have HZ := Lib.hid hz
  have HX := Lib.hid (And.intro h6 h7)
  clear g1 g2 g3 g4 hz h6 h7
  cases neg
  · go_enter Tryz.func54, Tryz.ntmps54
    go_wp2_with fail
    go_region_law (first | (refine step_append_words _ (by rfl) _ _ (by rfl) u ws (by simp [Act.eval]) (by simp [Act.eval]) G1.out.drew (by have := G2.out.2.2; omega) ?_; intro v1 w1 hm1 hb1; have hb2 : Below w.heap.size w w1 := (Below.refl _ _).drew.trans hb1; have q3 := (hb2.cell (p := ⟨b, off, none⟩) hb).trans h3) | (go_simp; go_at_call 39; refine (put_pos z _ m L x _ (HZ.out.below hb2) ⟨ws, hm1, G2.out⟩ (by have := HX.out.1; simp at this; omega)).mono ?_; rintro e w2 hg; have HG := Lib.hid (hg.of_below hb2); obtain ⟨rfl, -, -⟩ := hg))
    all_goals (go_wp2_with fail; go_ret; exact HG.out)
  · go_enter Tryz.func54, Tryz.ntmps54
    go_wp2_with fail
    go_region_law (first | (refine step_append_words _ (by rfl) _ _ (by rfl) u ws (by simp [Act.eval]) (by simp [Act.eval]) G1.out.drew (by have := G2.out.2.2; omega) ?_; intro v1 w1 hm1 hb1; have hb2 : Below w.heap.size w w1 := (Below.refl _ _).drew.trans hb1; have q3 := (hb2.cell (p := ⟨b, off, none⟩) hb).trans h3) | (go_simp; go_at_call 39; refine (put_neg z _ m L x _ (HZ.out.below hb2) ⟨ws, hm1, G2.out⟩ (by have := HX.out.1; simp at this; omega)).mono ?_; rintro e w2 hg; have HG := Lib.hid (hg.of_below hb2); obtain ⟨rfl, -, -⟩ := hg))
    all_goals (go_wp2_with fail; go_ret; exact HG.out)
end Go.Proofs.YtbidlkmagbjllaaGreatDoor.Bg
