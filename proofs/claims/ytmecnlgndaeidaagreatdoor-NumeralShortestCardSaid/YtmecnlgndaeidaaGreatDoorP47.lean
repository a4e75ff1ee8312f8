/- SN14 in one text. -/
import Derived.Test.YtmecnlgndaeidaaGreatDoorP46

namespace Go.Proofs.YtmecnlgndaeidaaGreatDoor.Sh
open Go Go.RowKit

set_option maxRecDepth 8000 in
set_option maxHeartbeats 8000000 in
theorem shortest_main (f : Nat) (w : World) (hT : Nb.Tab64 w) (hP : Nb.TabP w) (hf : f < 18446744073709551616) (h1 : f % 9223372036854775808 < 9218868437227405312) (h0 : f % 9223372036854775808 ≠ 0) :
    Calls Tryz.prog 3 #[.int .u64 f] w (Yes w) := by
  have hfb := Nb.run_frombits (f : Int) w
  have HF := Lib.hid (Nb.rfinite_any f w hf)
  have hz := Nx.eq_zero f
  rw [decide_eq_false h0] at hz
  have hab := fun W => abs_any f W hf
  obtain ⟨X, hX⟩ : ∃ X, f % 9223372036854775808 = X := ⟨_, rfl⟩
  rw [hX] at h1 h0 hab
  have HAb := Lib.hid hab
  have H1 := Lib.hid (And.intro (by rw [hX]; exact h1 : f % 9223372036854775808 < 9218868437227405312) (And.intro h1 h0))
  have HS := Lib.hid (Nb.Short_pos X w h1 (by omega) hT hP)
  have HAw := Lib.hid (fun W (hW : Below w.heap.size w W) => Nb.awake_any W (tabs_below hT hP hW).1 (tabs_below hT hP hW).2)
  have HPW := Lib.hid (fun W (hW : Below w.heap.size w W) => (tabs_below hT hP hW).2)
  clear hT hP h1 h0 hX hab
  go_enter Tryz.func3, Tryz.ntmps3
  go_wp2_with fail
  refine HF.out.mono ?_
  rintro e w1 ⟨⟨r, rfl, hr⟩, hw⟩
  obtain rfl := hw.symm
  obtain rfl : r = true := hr.2 H1.out.1
  clear hr
  go_wp2_with fail
  refine (HAb.out _).mono ?_
  rintro e w1 ⟨rfl, hw⟩
  obtain rfl := hw.symm
  go_wp2_with fail
  refine HS.out.mono ?_
  rintro e w2 ⟨p, q, n, d, E, d0, ds, hs, rfl, b2⟩
  obtain ⟨hdig, hd17, hd18⟩ := few_data hs
  have hlen := Nb.shortD_len hs
  have hfil := preT_filter hdig
  have hne := preT_ne hdig
  have hpl := preT_len d0 ds
  obtain ⟨it, hit⟩ : ∃ it, Lib.itoa (E + (ds.length + 1 : Nat) - n) = it := ⟨_, rfl⟩
  have hitl : it.length ≤ 21 := by
    rw [← hit]
    have hE := Nb.few_exp hs.few hs.q0 H1.out.2.1 (by have := H1.out.2.2; omega) hs.val
    have hn := hs.few.n0
    exact Lib.itoa_length_le _ (by omega) (by omega)
  have hst := shortT_pre d0 ds (E + (ds.length + 1 : Nat) - n)
  rw [hit] at hst
  rw [hst]
  obtain ⟨pre, hpre⟩ : ∃ pre, preT d0 ds = pre := ⟨_, rfl⟩
  rw [hpre] at hfil hne hpl ⊢
  obtain ⟨S, hS⟩ : ∃ S : ByteArray, (⟨(pre ++ 101 :: it).toArray⟩ : ByteArray) = S := ⟨_, rfl⟩
  have hSl : S.data.toList = pre ++ 101 :: it := by rw [← hS]
  have hSz : S.size = pre.length + it.length + 1 := by rw [← Nb.size_list, hSl]; simp; omega
  rw [hS]
  obtain ⟨np, hnp⟩ : ∃ np, pre.length = np := ⟨_, rfl⟩
  have hnp20 : np ≤ 19 := by omega
  obtain ⟨sz, hsz⟩ : ∃ sz, S.size = sz := ⟨_, rfl⟩
  have hszb : np < sz ∧ sz ≤ 41 := by omega
  have hn := hs.few.n0
  have HD := Lib.hid (And.intro hs (And.intro b2 (And.intro hlen (And.intro hfil (And.intro hne (And.intro hSl hnp))))))
  have hn1 := hn.1
  have hn17 := hn.2
  have hsz1 := hszb.1
  have hsz2 := hszb.2
  have HSZ := Lib.hid hsz
  clear hs hdig hd17 hd18 hlen hfil hne hpl hit hitl hst hpre hS hSl hSz hnp b2 hn hszb HS HF
  go_wp2_with fail
  go_loopw [5, 6, 7] (fun dv av iv wr => ∃ (k : Nat) (D : ByteArray), dv = .string D ∧ av = .int .i64 (-1) ∧ iv = .int .i64 (k : Int) ∧ k ≤ np ∧ D.size ≤ k ∧ Hid (D.data.toList = (pre.take k).filter (fun b => b != 46)) ∧ w2 = wr) (fun _ _ iv _ => np + 1 - (intOf iv).toNat)
  case atStart => exact ⟨0, ⟨#[]⟩, rfl, rfl, rfl, Nat.zero_le _, Nat.le_refl _, Lib.hid rfl, rfl⟩
  case round =>
    obtain ⟨k, D, rfl, rfl, rfl, hk, hDk, hD, rfl⟩ := hrel
    obtain ⟨hs, hb2, hlen, hfil, hne, hSl, hnp⟩ := HD.out
    by_cases hkn : k = np
    · subst hkn
      have hx : (pre ++ 101 :: it)[k]? = some 101 := by
        rw [List.getElem?_append_right (by omega), hnp, Nat.sub_self]; rfl
      have hidx := text_idx hSl hx (X := 101) rfl
      have hDn : D.size = n := by
        have h1 := hD.out
        rw [List.take_of_length_le (by omega), hfil] at h1
        rw [← Nb.size_list, h1, hlen]
      have hkz : k < sz := by omega
      have hn0 : ((n : Int) == 0) = false := by simp; omega
      have hkneg : decide ((k : Int) < 0) = false := decide_eq_false (by omega)
      clear hs hb2 hlen hfil hne hSl hnp hx hD hDk hk
      have HB2 := Lib.hid HD.out.2.1
      go_wp2_with fail
      refine (HAw.out _ HB2.out).mono ?_
      rintro e w3 ⟨rfl, b3⟩
      have H3 : Hid (Below w.heap.size w w3) := Lib.hid (HB2.out.trans (b3.mono HB2.out.size))
      clear b3
      by_cases c1 : n = 1
      · subst c1
        go_wp2_with fail
        go_ret
        exact ⟨rfl, H3.out⟩
      · have hn2 : 2 ≤ n := by omega
        have hnb : ((n : Int) == 1) = false := by simp; omega
        go_wp2_with fail
        refine (HAb.out _).mono ?_
        rintro e w4 ⟨rfl, hw⟩
        obtain rfl := hw.symm
        have HO := Lib.hid (Bg.of_pos X w3 H1.out.2.1 (by have := H1.out.2.2; omega))
        go_wp2_with fail
        refine HO.out.mono ?_
        rintro e w4 ⟨z, m, t, rfl, hm, hd2, ht, hiz, b4⟩
        obtain ⟨F, hF⟩ : ∃ F : Int, bigX X + t = F := ⟨_, rfl⟩
        have hF2 : -1074 ≤ F ∧ F ≤ 1040 := by
          have := H1.out.2.1
          rw [← hF]
          unfold bigX
          split <;> omega
        have hmm : 0 < m ∧ m < 9007199254740992 := by
          have h1 : bigM X < 9007199254740992 := by unfold bigM; split <;> omega
          have h2 : m * 1 ≤ m * 2 ^ t := Nat.mul_le_mul_left _ (Nat.two_pow_pos t)
          omega
        rw [hF]
        obtain ⟨W5, hW5⟩ : ∃ W5, w4.alloc (.cells #[.pointer (some z), .int .i64 F] 31) = W5 := ⟨_, rfl⟩
        have h45 : Below w4.heap.size w4 W5 := by rw [← hW5]; exact (Below.refl _ _).alloc (Nat.le_refl _) _
        have q0 : W5.cell? ⟨w4.heap.size, 0, none⟩ = some (.pointer (some z)) := by rw [← hW5]; simp [go_sem]
        have q1 : W5.cell? ⟨w4.heap.size, 1, none⟩ = some (.int .i64 F) := by rw [← hW5]; simp [go_sem]
        have H5 : Hid (Below w.heap.size w W5) := Lib.hid (H3.out.trans ((b4.trans (h45.mono b4.size)).mono H3.out.size))
        have HNb := Lib.hid (Bg.neighbours_any z m (n - 1) F W5 (hiz.below h45) hmm.1 hmm.2 hF2 ⟨by omega, by omega⟩ (HPW.out W5 H5.out))
        rw [show ((n - 1 : Nat) : Int) = (n : Int) - 1 by omega] at HNb
        have HMF := Lib.hid (And.intro hm hF)
        clear hm hd2 ht hiz b4 hF hF2 hmm h45 HO
        go_wp2_with fail
        refine HNb.out.mono ?_
        rintro e w6 ⟨g, a, K, S1, S2, rfl, s1, s2, hg, t1, t2, z1, z2, a1, a2, a3, k1, k2, b6⟩
        obtain ⟨nh1, nh2, a0, a18⟩ := neigh_not HD.out.1 hn2 H1.out.2.1 HMF.out.1 HMF.out.2 a1 a2 a3
        have H6 : Hid (Below w.heap.size w w6 ∧ w6.cell? ⟨g, 0, none⟩ = some (.string S1) ∧ w6.cell? ⟨g, 1, none⟩ = some (.string S2) ∧ g < w6.heap.size) := Lib.hid ⟨H5.out.trans (b6.mono H5.out.size), s1, s2, hg⟩
        have HT : Hid (∀ (j : Nat), j < 2 → ∀ wr : World, wr.cell? ⟨g, 0, none⟩ = some (.string S1) → wr.cell? ⟨g, 1, none⟩ = some (.string S2) → ∃ (T : ByteArray) (qq : Nat), wr.cell? ⟨g, j, none⟩ = some (.string T) ∧ T.data.toList = (Nb.nbT qq K).list ∧ T.size ≤ 100 ∧ 0 < qq ∧ qq < 10 ^ 18 ∧ ¬ Nb.Hits qq K X) := Lib.hid (by
          intro j hj wr c0 c1
          rcases j with _ | _ | j
          · exact ⟨S1, a, c0, t1, z1, a0, by omega, nh1⟩
          · exact ⟨S2, a + 1, c1, t2, z2, by omega, a18, nh2⟩
          · omega)
        have HK := Lib.hid (And.intro k1 k2)
        clear s1 s2 hg t1 t2 z1 z2 a1 a2 a3 k1 k2 b6 nh1 nh2 a0 a18 HNb q0 q1 hW5
        go_wp2_with fail
        go_loopw [71] (fun iv wr => ∃ j : Nat, iv = .int .i64 (j : Int) ∧ j ≤ 2 ∧ Hid (Below w.heap.size w wr ∧ wr.cell? ⟨g, 0, none⟩ = some (.string S1) ∧ wr.cell? ⟨g, 1, none⟩ = some (.string S2) ∧ g < wr.heap.size)) (fun iv _ => 3 - (intOf iv).toNat)
        case atStart => exact ⟨0, rfl, by omega, H6⟩
        case round =>
          clear H6
          obtain ⟨j, rfl, hj, hh⟩ := hrel
          by_cases hj2 : j < 2
          · obtain ⟨T, qq, hc, hT, hTz, q0, q18, hnh⟩ := HT.out j hj2 wr hh.out.2.1 hh.out.2.2.1
            have HPa := Lib.hid (Nb.parse_any T (Nb.nbT qq K) wr hT (Nb.nbT_ok q0 q18) (by omega))
            have HQ := Lib.hid (And.intro q0 (And.intro q18 hnh))
            have hji : (j : Int) < 2 := by omega
            clear hT hTz q0 q18 hnh
            go_wp2_with fail
            refine HPa.out.mono ?_
            rintro e w7 ⟨f7, c7, rfl, says, b7⟩
            have hcs := Nb.nbT_not HQ.out.1 HQ.out.2.1 HK.out.1 HK.out.2 (by have := H1.out.2.2; omega : 0 < X) HQ.out.2.2 says
            have H7 : Hid (Below w.heap.size w w7 ∧ w7.cell? ⟨g, 0, none⟩ = some (.string S1) ∧ w7.cell? ⟨g, 1, none⟩ = some (.string S2) ∧ g < w7.heap.size) := Lib.hid ⟨hh.out.1.trans (b7.mono hh.out.1.size), (b7.cell (p := ⟨g, 0, none⟩) hh.out.2.2.2).trans hh.out.2.1, (b7.cell (p := ⟨g, 1, none⟩) hh.out.2.2.2).trans hh.out.2.2.1, Nat.lt_of_lt_of_le hh.out.2.2.2 b7.size⟩
            clear says b7 HPa hc
            rcases hcs with ⟨rfl, rfl⟩ | ⟨rfl, hfl, hfx⟩
            · go_wp2_with fail
              go_roundw
              case rel => exact ⟨j + 1, Nb.int_eq (by omega), by omega, H7⟩
              case measure => simp [intOf]; omega
            · have hfe := fl_ne hfl H1.out.2.1 hfx
              clear hfl hfx
              go_wp2_with fail
              refine (HAb.out _).mono ?_
              rintro e w8 ⟨rfl, hw⟩
              obtain rfl := hw.symm
              go_wp2_with fail
              go_roundw
              case rel => exact ⟨j + 1, Nb.int_eq (by omega), by omega, H7⟩
              case measure => simp [intOf]; omega
          · obtain rfl : j = 2 := by omega
            go_wp2_with fail
            go_ret
            exact ⟨rfl, hh.out.1⟩
    · have hk' : k < pre.length := by omega
      obtain ⟨x, hx0⟩ : ∃ x, pre[k]? = some x := ⟨_, List.getElem?_eq_getElem hk'⟩
      have hx : (pre ++ 101 :: it)[k]? = some x := by rw [List.getElem?_append_left hk']; exact hx0
      have hx101 : x ≠ 101 := hne x (List.mem_of_getElem? hx0)
      obtain ⟨xn, hxn⟩ : ∃ xn : Nat, x.toNat = xn := ⟨_, rfl⟩
      have hidx := text_idx hSl hx (X := (xn : Int)) (by rw [hxn])
      have hpc := text_piece hSl hx
      have hxi : ((xn : Int) == 101) = false := by
        have : xn ≠ 101 := fun h => hx101 (UInt8.toNat_inj.1 (by rw [hxn, h]; rfl))
        simp; omega
      have htk : pre.take (k + 1) = pre.take k ++ [x] := by rw [List.take_add_one, hx0]; rfl
      have hkz : k < sz := by omega
      have HT := Lib.hid (And.intro hpc (And.intro htk hxn))
      have hDs : D.size ≤ 19 := by omega
      have hk20 : (k : Int) ≤ 19 := by omega
      obtain ⟨R, hR⟩ : ∃ R, S.extract k (k + 1) = R := ⟨_, rfl⟩
      have hRs : R.size = 1 := by rw [← hR, ← Nb.size_list, hpc]; rfl
      have HRR := Lib.hid hR
      clear hs hb2 hlen hfil hne hSl hnp hx hpc htk hx0 hk' hx101
      by_cases h46 : xn = 46
      · subst h46
        clear hDs hR hRs
        go_wp2_with fail
        go_roundw
        case rel => exact ⟨k + 1, D, rfl, rfl, Nb.int_eq (by omega), by omega, by omega, Lib.hid (by
          rw [HT.out.2.1, List.filter_append, ← hD.out]
          have : x = 46 := UInt8.toNat_inj.1 HT.out.2.2
          subst this
          simp), trivial⟩
        case measure => simp [intOf]; omega
      · have hx46 : ((xn : Int) == 46) = false := by simp; omega
        go_wp2_with fail
        go_roundw
        case rel => exact ⟨k + 1, D ++ R, rfl, rfl, Nb.int_eq (by omega), by omega, by rw [ByteArray.size_append, hRs]; omega, Lib.hid (by
          rw [HT.out.2.1, List.filter_append, ← hD.out, ByteArray.data_append, Array.toList_append, ← HRR.out, HT.out.1]
          have h9 : (x != 46) = true := by
            have : x ≠ 46 := fun h => h46 (by rw [← HT.out.2.2, h]; rfl)
            simpa using this
          rw [List.filter_cons, if_pos h9]; rfl), trivial⟩
        case measure => simp [intOf]; omega
theorem shortest_any (f : Nat) (w : World) (hT : Nb.Tab64 w) (hP : Nb.TabP w) (hf : f < 18446744073709551616) : Calls Tryz.prog 3 #[.int .u64 f] w (Yes w) := by
  by_cases h : 9218868437227405312 ≤ f % 9223372036854775808 ∨ f % 9223372036854775808 = 0
  · exact shortest_far f w hT hP hf h
  · exact shortest_main f w hT hP hf (by omega) (by omega)
end Go.Proofs.YtmecnlgndaeidaaGreatDoor.Sh
