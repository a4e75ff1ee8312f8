/- W3 in one text. -/
import Derived.BigQuiet
import Derived.Deep.QuietTactic
import Derived.Deep.DeepCutAuto
import Derived.Deep.RegionLaw
import Derived.Deep.RegionHeld3
import Derived.Test.YtebacmmfjadalaaGreatP52
import Derived.Test.YtebacmmfjadalaaGreatP53
import Derived.Test.YtebacmmfjadalaaGreatP21

namespace Go.Proofs.YtebacmmfjadalaaGreat
open Go Go.RowKit Go.WideShapes

theorem newE_len {cs : List (Int × Int × Int)} {win : Int} (h : newE cs win = 0) : cs.length ≤ 64 := by
  unfold newE at h
  split at h
  · cases h
  · omega
/-- steps behind a slice -/
def StAt (w : World) (A : Option Addr) (xs : List In) : Prop := xs = [] ∨ ∃ b off, A = some ⟨b, off, none⟩ ∧ b < w.heap.size ∧ ∀ i e, xs[i]? = some e → ∀ j, j < 5 → w.cell? ⟨b, off + i * 5 + j, none⟩ = e.row[j]?

set_option maxRecDepth 8000 in
set_option maxHeartbeats 16000000 in
theorem does_walk (A0 : Option Addr) (c0 : Nat) (cs : List (Int × Int × Int)) (win : Int) (A1 : Option Addr) (c1 : Nat) (ls : List In) (w : World) (hc : ClRow w A0 cs) (hA : cs.length = 0 ∨ A0 ≠ none) (hl : cs.length * 24 ≤ 140737488355328) (hx : StAt w A1 ls) (hok : ∀ e ∈ ls, InOk w e) :
    Calls Tryz.prog 5 #[.slice A0 cs.length c0, .int .i64 win, .slice A1 ls.length c1] w fun e w' => e = .returned (.bool true) ∧ Below w.heap.size w w' := by
  have HX := Lib.hid (And.intro hx hok)
  obtain ⟨n, hn⟩ : ∃ n, ls.length = n := ⟨_, rfl⟩
  have HN := Lib.hid hn
  obtain ⟨m0, hm0⟩ : ∃ m, cs.length = m := ⟨_, rfl⟩
  have HM0 := Lib.hid hm0
  rw [hm0] at hA hl
  have HC := Lib.hid (And.intro hc (And.intro hA hl))
  rw [hn, hm0]
  clear hn hm0 hok hx hc hA hl
  by_cases h300 : 300 < n
  · have h3 : (300 : Int) < (n : Int) := by omega
    go_enter Tryz.func5, Tryz.ntmps5
    go_wp2_with fail
    refine (awake_join w).mono ?_
    rintro e w1 ⟨rfl, hb⟩
    go_wp2_with fail
    go_ret
    exact ⟨rfl, hb⟩
  have h3 : ¬ (300 : Int) < (n : Int) := by omega
  go_enter Tryz.func5, Tryz.ntmps5
  go_wp2_with (at_builtin; refine wpList_append_clocks _ rfl (.const (.slice none 0 0)) (.tmp 26) rfl A0 m0 c0 cs rfl rfl HM0.out HC.out.1 HC.out.2.1 HC.out.2.2 ?_; intro A2 c2 w3 hc3 hb3; have HC3 := Lib.hid (And.intro hc3 hb3); clear hc3 hb3)
  refine (new_all A2 c2 m0 cs win w3 HM0.out HC3.out.1).mono ?_
  rintro e w4 (⟨hE, rfl, sv, hs, hj, hz, hlt4, hb4⟩ | ⟨hE, rfl, hb4⟩)
  case inr =>
    have HB4 := Lib.hid (back_of HC3.out.2 hb4)
    have HE := Lib.hid hE
    have HON := Lib.hid (onew_all A0 c0 m0 cs win w4 HM0.out (HC.out.1.below HB4.out))
    obtain ⟨ER, hER⟩ : ∃ y, newE cs win = y := ⟨_, rfl⟩
    rw [hER] at hE ⊢
    have hE' : (ER != 0) = true := by simpa using hE
    have HER := Lib.hid hER
    clear hb4 hER hE
    go_wp2_with fail
    refine HON.out.mono ?_
    rintro e w5 (⟨hE, y, sb, rfl, -⟩ | ⟨-, rfl, hb5⟩)
    · exact absurd hE HE.out
    have HB5 := Lib.hid (back_of HB4.out hb5)
    rw [HER.out]
    clear hb5 HON
    go_wp2_with fail
    refine (awake_join w5).mono ?_
    rintro e w6 ⟨rfl, hb6⟩
    go_wp2_with fail
    go_ret
    exact ⟨rfl, back_of HB5.out hb6⟩
  case inl =>
    have HB4 := Lib.hid (back_of HC3.out.2 (hb4.mono (Nat.le_refl _)))
    have HL64 := Lib.hid (newE_len hE)
    have HJ4 := Lib.hid (And.intro hE (And.intro hs (And.intro hj (And.intro hz (And.intro hlt4 hb4)))))
    have HON := Lib.hid (onew_all A0 c0 m0 cs win w4 HM0.out (HC.out.1.below HB4.out))
    obtain ⟨x, hxe⟩ : ∃ x, w3.heap.size = x := ⟨_, rfl⟩
    rw [hxe]
    have HXE := Lib.hid hxe
    clear hE hs hj hz hlt4 hb4 hxe
    go_wp2_with fail
    refine HON.out.mono ?_
    rintro e w5 (⟨-, y, sb, rfl, ho⟩ | ⟨hE, -, -⟩)
    case inr => exact absurd HJ4.out.1 hE
    have HBJ := Lib.hid (show BJ w w5 cs x w4.heap.size ⟨sv, win, .slice none 0 0, false, 0, 0, 0, 0, 0, 0, 0⟩ (cs.map sn0) [] [] 0 y sb w5.heap.size (oj0 A0 c0 cs.length win sb) (List.replicate cs.length os0) [] A0 c0 by
      rw [← HXE.out]
      refine BJ.start HJ4.out.1 HC3.out.2 HJ4.out.2.1 HJ4.out.2.2.1 HJ4.out.2.2.2.1 HJ4.out.2.2.2.2.1 HJ4.out.2.2.2.2.2 ?_
      have h := ho.out
      rw [← HM0.out] at h
      exact h)
    clear ho HON
    generalize w4.heap.size = B at *
    generalize w5.heap.size = D at *
    clear HJ4 HXE HB4 HC3
    go_wp2_with fail
    go_loopw [7, 53] (fun xv iv wr => ∃ (k x B : Nat) (j : Jn) (sns : List Sn) (xs told : List El) (o : OJ) (oss : List OS) (ys : List El), k ≤ n ∧ xv = .pointer (some ⟨x, 0, none⟩) ∧ iv = .int .i64 (k : Int) ∧ Hid (BJ w wr cs x B j sns xs told k y sb D o oss ys A0 c0)) (fun _ iv _ => n - (intOf iv).toNat)
    case atStart => exact ⟨0, _, _, _, _, [], [], _, _, [], by omega, rfl, rfl, HBJ⟩
    case round =>
      clear HBJ
      obtain ⟨k, x, B, j, sns, xs, told, o, oss, ys, hk, rfl, rfl, hh⟩ := hrel
      by_cases hlt : k < n
      · obtain ⟨a, ha⟩ := get_someI (xs := ls) (i := k) (by have := HN.out; omega)
        rcases HX.out.1 with h0 | ⟨g1, o1, rfl, q1, hc1⟩
        · rw [h0] at ha; simp at ha
        have HA := Lib.hid (And.intro ha (HX.out.2 a (List.mem_of_getElem? ha)))
        have d1 := fun m hm => (hh.out.bel.cell (p := ⟨g1, o1 + k * 5 + m, none⟩) q1).trans (hc1 k a ha m hm)
        have x0 := d1 0 (by omega)
        have x1 := d1 1 (by omega)
        have x2 := d1 2 (by omega)
        have x3 := d1 3 (by omega)
        have x4 := d1 4 (by omega)
        have hki : (k : Int) < (n : Int) := by omega
        have hk0 : (0 : Int) ≤ (k : Int) := by omega
        clear d1 hc1 ha q1
        obtain ⟨kd, se, sq, st, av, an, ac, us⟩ := a
        rw [Nat.add_zero] at x0
        simp only [In.row, List.getElem?_cons_zero, List.getElem?_cons_succ] at x0 x1 x2 x3 x4
        have HOF := Lib.hid (fun W (hW : Below w.heap.size w W) => of_fl se sq st av an ac us W (HA.out.2.below hW).len (HA.out.2.below hW).at_ HA.out.2.big)
        have HB1 := Lib.hid ((Below.refl wr.heap.size wr).alloc (Nat.le_refl _) (.cells #[.int .i64 kd, .int .i64 se, .int .u32 sq, .int .u32 st, .slice av an ac] 70))
        go_wp2_with fail
        clear x0 x1 x2 x3 x4
        have y0 : (wr.alloc (.cells #[.int .i64 kd, .int .i64 se, .int .u32 sq, .int .u32 st, .slice av an ac] 70)).cell? ⟨wr.heap.size, 0, none⟩ = some (.int .i64 kd) := by simp [go_sem]
        have y1 : (wr.alloc (.cells #[.int .i64 kd, .int .i64 se, .int .u32 sq, .int .u32 st, .slice av an ac] 70)).cell? ⟨wr.heap.size, 1, none⟩ = some (.int .i64 se) := by simp [go_sem]
        have y2 : (wr.alloc (.cells #[.int .i64 kd, .int .i64 se, .int .u32 sq, .int .u32 st, .slice av an ac] 70)).cell? ⟨wr.heap.size, 2, none⟩ = some (.int .u32 sq) := by simp [go_sem]
        have y3 : (wr.alloc (.cells #[.int .i64 kd, .int .i64 se, .int .u32 sq, .int .u32 st, .slice av an ac] 70)).cell? ⟨wr.heap.size, 3, none⟩ = some (.int .u32 st) := by simp [go_sem]
        have y4 : (wr.alloc (.cells #[.int .i64 kd, .int .i64 se, .int .u32 sq, .int .u32 st, .slice av an ac] 70)).cell? ⟨wr.heap.size, 4, none⟩ = some (.slice av an ac) := by simp [go_sem]
        have hs1 : wr.heap.size < (wr.alloc (.cells #[.int .i64 kd, .int .i64 se, .int .u32 sq, .int .u32 st, .slice av an ac] 70)).heap.size := by simp
        generalize (wr.alloc (.cells #[.int .i64 kd, .int .i64 se, .int .u32 sq, .int .u32 st, .slice av an ac] 70)) = W1 at *
        have HT1 := Lib.hid (hh.out.below HB1.out)
        have HSZ := Lib.hid (And.intro hh.out.jr.inv.big hh.out.oi.big)
        have HOUT := Lib.hid (fun b (hb : wr.heap.size ≤ b) => And.intro (hh.out.jr.out hb) (hh.out.oi.out hb))
        generalize wr.heap.size = bx at *
        clear hh HB1
        refine (HOF.out _ HT1.out.bel).mono ?_
        rintro e w2 ⟨⟨B1, k1, rfl, hf1, hnw1⟩, hb2⟩
        have HB2 := Lib.hid (hb2.alloc hb2.size (.cells #[.int .i64 se, .int .u32 sq, .int .u32 st, .slice B1 an k1] 38))
        have HF2 := Lib.hid (And.intro (hf1.below ((Below.refl w2.heap.size w2).alloc (Nat.le_refl _) (.cells #[.int .i64 se, .int .u32 sq, .int .u32 st, .slice B1 an k1] 38))) (show ∀ b f, B1 = some ⟨b, f, none⟩ → bx ≤ b ∧ b < w2.heap.size from fun b f hB => by
          rcases hnw1 with q | ⟨b'', q, q', q''⟩
          · rw [q] at hB; cases hB
          · rw [q] at hB; injection hB with hB; injection hB with hB
            omega))
        have z0 : (w2.alloc (.cells #[.int .i64 se, .int .u32 sq, .int .u32 st, .slice B1 an k1] 38)).cell? ⟨w2.heap.size, 0, none⟩ = some (.int .i64 se) := by simp [go_sem]
        have z1 : (w2.alloc (.cells #[.int .i64 se, .int .u32 sq, .int .u32 st, .slice B1 an k1] 38)).cell? ⟨w2.heap.size, 1, none⟩ = some (.int .u32 sq) := by simp [go_sem]
        have z2 : (w2.alloc (.cells #[.int .i64 se, .int .u32 sq, .int .u32 st, .slice B1 an k1] 38)).cell? ⟨w2.heap.size, 2, none⟩ = some (.int .u32 st) := by simp [go_sem]
        have z3 : (w2.alloc (.cells #[.int .i64 se, .int .u32 sq, .int .u32 st, .slice B1 an k1] 38)).cell? ⟨w2.heap.size, 3, none⟩ = some (.slice B1 an k1) := by simp [go_sem]
        have hs2 : w2.heap.size < (w2.alloc (.cells #[.int .i64 se, .int .u32 sq, .int .u32 st, .slice B1 an k1] 38)).heap.size := by simp
        have hsb : bx < w2.heap.size := Nat.lt_of_lt_of_le hs1 hb2.size
        clear hf1 hnw1
        go_upto_region 13 with fail
        generalize (w2.alloc (.cells #[.int .i64 se, .int .u32 sq, .int .u32 st, .slice B1 an k1] 38)) = W3 at *
        have y0' := (HB2.out.cell (p := ⟨bx, 0, none⟩) hs1).trans y0
        have y1' := (HB2.out.cell (p := ⟨bx, 1, none⟩) hs1).trans y1
        have y2' := (HB2.out.cell (p := ⟨bx, 2, none⟩) hs1).trans y2
        have y3' := (HB2.out.cell (p := ⟨bx, 3, none⟩) hs1).trans y3
        have y4' := (HB2.out.cell (p := ⟨bx, 4, none⟩) hs1).trans y4
        generalize w2.heap.size = by_ at *
        have hsW1 : bx < W3.heap.size := Nat.lt_trans hsb hs2
        have HT3 := Lib.hid (HT1.out.below HB2.out)
        have hbyx := Lib.hid (HOUT.out by_ (Nat.le_of_lt hsb))
        have HK : Hid (k ≤ 300) := Lib.hid (by omega)
        have HW32 := Lib.hid HA.out.2.w32
        clear hb2 y0 y1 y2 y3 y4 HT1 HB2 hs1
        by_cases hk1 : kd = 1
        case pos =>
          subst hk1
          have HFL := Lib.hid (JR.flush x B j sns xs told k W3 HT3.out.jr (by have := HK.out; omega))
          go_wp2_with fail
          refine HFL.out.mono ?_
          rintro e w4 ⟨ov, j', mid, rfl, hp⟩
          have HPF := Lib.hid hp.out
          have HOI4 := Lib.hid (HT3.out.oi.ft hp.out.ft (fun b hb => HT3.out.farO (hb.imp id .inr)))
          have hyl : ys.length = xs.length := by have := HT3.out.ro.keys.length_eq; simpa using this
          have HYL := Lib.hid hyl
          have HOF4 := Lib.hid (oflush_any y sb D o oss ys w4 HOI4.out (by have := HT3.out.jr.len; have := HK.out; omega) (by have h1 := HT3.out.ro.ks; have h2 := HT3.out.jr.jp.cs; omega) (by have h1 := HT3.out.ro.ks; have h2 := HT3.out.jr.jp.cs; have := HT3.out.jr.len; have := HK.out; omega) (fun ha => by
            have h1 := HT3.out.ro.any
            have h2 := HT3.out.ro.top (h1.symm.trans ha)
            have h3 := HT3.out.jr.jp.num.t0
            have h4 := HT3.out.jr.jp.num.t1
            omega))
          have hbk := hp.out.ft.block by_ hs2 (fun hb => hbyx.out.1.no (hb.imp id .inr))
          have hby4 := Nat.lt_of_lt_of_le hs2 hp.out.ft.size
          have t0 := (World.cell?_of_block (a := ⟨by_, 0, none⟩) hbk).trans z0
          have t1 := (World.cell?_of_block (a := ⟨by_, 1, none⟩) hbk).trans z1
          have t2 := (World.cell?_of_block (a := ⟨by_, 2, none⟩) hbk).trans z2
          have t3 := (World.cell?_of_block (a := ⟨by_, 3, none⟩) hbk).trans z3
          obtain ⟨wA, wc, hwv⟩ := HOI4.out.row.slice
          have HWV := Lib.hid hwv
          rw [hwv] at HOF4
          obtain ⟨oA, oc, hov⟩ := hp.out.out.slice
          subst hov
          clear hp hbk z0 z1 z2 z3 HFL hyl hwv y0' y1' y2' y3' y4'
          go_wp2_with fail
          refine HOF4.out.mono ?_
          rintro e w5 ⟨rfl, hq⟩
          have HBF := Lib.hid (HT3.out.flush HPF.out hq.out)
          have hbk := hq.out.2.block by_ hby4 (fun hb => hbyx.out.2.own (.inl hb))
          have hby5 := Nat.lt_of_lt_of_le hby4 hq.out.2.size
          have u0 := (World.cell?_of_block (a := ⟨by_, 0, none⟩) hbk).trans t0
          have u1 := (World.cell?_of_block (a := ⟨by_, 1, none⟩) hbk).trans t1
          have u2 := (World.cell?_of_block (a := ⟨by_, 2, none⟩) hbk).trans t2
          have u3 := (World.cell?_of_block (a := ⟨by_, 3, none⟩) hbk).trans t3
          have HSM := Lib.hid (tsame_any (.slice oA mid.length oc) o.wait mid ys w5 HBF.out.2.1.tl HBF.out.2.2.2.2.1.tl HBF.out.2.2.1 HBF.out.2.2.2.1 (by
            have h1 := congrArg List.length HBF.out.1
            simp only [List.length_map] at h1
            have := HYL.out
            have := HT3.out.jr.len
            have := HK.out
            omega))
          rw [decide_eq_true HBF.out.1.symm, HWV.out] at HSM
          clear hq hbk t0 t1 t2 t3 HOF4
          go_wp2_with fail
          refine HSM.out.mono ?_
          rintro e w6 ⟨rfl, hb6⟩
          have HB6 := Lib.hid (HBF.out.2.2.2.2.2.below hb6)
          have v0 := (hb6.cell (p := ⟨by_, 0, none⟩) hby5).trans u0
          have v1 := (hb6.cell (p := ⟨by_, 1, none⟩) hby5).trans u1
          have v2 := (hb6.cell (p := ⟨by_, 2, none⟩) hby5).trans u2
          have v3 := (hb6.cell (p := ⟨by_, 3, none⟩) hby5).trans u3
          clear hb6 u0 u1 u2 u3 HSM
          have HST := Lib.hid (state_any HB6.out (by have := HK.out; omega) se sq st B1 an k1 HW32.out.1.1 HW32.out.1.2)
          go_wp2_with fail
          refine HST.out.mono ?_
          rintro e w9 ⟨rfl, hb9⟩
          have HB9 := Lib.hid ((HB6.out.below hb9).mono (Nat.le_succ k))
          clear hb9 HST
          go_wp2_with fail
          go_roundw
          case rel => exact ⟨k + 1, x, B, j', sns, [], told ++ mid, _, oss, [], by omega, rfl, by go_num, HB9⟩
          case measure => simp [intOf]; omega
        case neg =>
        have hk1' : (kd == 1) = false := by simpa using hk1
        by_cases hk2 : kd = 2
        case pos =>
          subst hk2
          have HCL := Lib.hid (clone_any x B j sns xs W3 HT3.out.jr.inv HT3.out.jr.vi (by rw [HT3.out.ro.len]; exact HL64.out) (by have := HT3.out.jr.len; have := HK.out; omega))
          go_wp2_with fail
          refine HCL.out.mono ?_
          rintro e w4 ⟨x', B', s', v', xs', rfl, hp⟩
          have HCB := Lib.hid (HT3.out.clone hp.out)
          have hby4 := Nat.lt_of_lt_of_le hs2 hp.out.bel.size
          have HB34 := Lib.hid (show Below W3.heap.size W3 w4 from hp.out.bel)
          have t0 := (HB34.out.cell (p := ⟨by_, 0, none⟩) hs2).trans z0
          have t1 := (HB34.out.cell (p := ⟨by_, 1, none⟩) hs2).trans z1
          have t2 := (HB34.out.cell (p := ⟨by_, 2, none⟩) hs2).trans z2
          have t3 := (HB34.out.cell (p := ⟨by_, 3, none⟩) hs2).trans z3
          have HF4 := Lib.hid (HF2.out.1.below HB34.out)
          have HPU := Lib.hid (JR.push x B j sns xs told k se sq st B1 an k1 (us.map Int.toNat) w4 HCB.out.2.1.jr (by have := HK.out; omega) HF4.out HA.out.2.big HA.out.2.lt (fun b f hB => (HOUT.out b (HF2.out.2 b f hB).1).1) HA.out.2.w32.2.1 HA.out.2.w32.2.2 HA.out.2.w32.1.1 HA.out.2.w32.1.2)
          clear hp z0 z1 z2 z3 HCL y0' y1' y2' y3' y4'
          go_wp2_with fail
          refine HPU.out.mono ?_
          rintro e w5 ⟨kind, er, ov, j2, sns2, xs2, mid, rfl, hq⟩
          have HBA := Lib.hid (HCB.out.1.aside HCB.out.2.1 HCB.out.2.2 hq.out)
          have hbk := hq.out.ft.block by_ hby4 hbyx.out.1.no
          have u0 := (World.cell?_of_block (a := ⟨by_, 0, none⟩) hbk).trans t0
          have u1 := (World.cell?_of_block (a := ⟨by_, 1, none⟩) hbk).trans t1
          have u2 := (World.cell?_of_block (a := ⟨by_, 2, none⟩) hbk).trans t2
          have u3 := (World.cell?_of_block (a := ⟨by_, 3, none⟩) hbk).trans t3
          obtain ⟨oA, oc, hov⟩ := hq.out.out.slice
          subst hov
          clear hq hbk t0 t1 t2 t3 HPU
          have HST := Lib.hid (state_any HBA.out (by have := HK.out; omega) se sq st B1 an k1 HW32.out.1.1 HW32.out.1.2)
          go_wp2_with fail
          refine HST.out.mono ?_
          rintro e w9 ⟨rfl, hb9⟩
          have HB9 := Lib.hid ((HBA.out.below hb9).mono (Nat.le_succ k))
          clear hb9 HST
          go_wp2_with fail
          go_roundw
          case rel => exact ⟨k + 1, x', B', _, sns, xs', told, o, oss, ys, by omega, rfl, by go_num, HB9⟩
          case measure => simp [intOf]; omega
        case neg =>
        have hk2' : (kd == 2) = false := by simpa using hk2
        go_wp2_with fail
        refine (HOF.out _ HT3.out.bel).mono ?_
        rintro e w7 ⟨⟨B7, k7, rfl, hf7, hnw7⟩, hb7⟩
        have HT7 := Lib.hid (HT3.out.below hb7)
        have HF7 := Lib.hid (HF2.out.1.below hb7)
        have hfar7 : ∀ b f, B7 = some ⟨b, f, none⟩ → Out x j xs b := fun b f hB => HT3.out.jr.out (by
          rcases hnw7 with q | ⟨b'', q, q', -⟩
          · rw [q] at hB; cases hB
          · rw [q] at hB; injection hB with hB; injection hB with hB
            omega)
        have HPU := Lib.hid (JR.push x B j sns xs told k se sq st B7 an k7 (us.map Int.toNat) w7 HT7.out.jr (by have := HK.out; omega) hf7 HA.out.2.big HA.out.2.lt hfar7 HA.out.2.w32.2.1 HA.out.2.w32.2.2 HA.out.2.w32.1.1 HA.out.2.w32.1.2)
        have v0 := (hb7.cell (p := ⟨by_, 0, none⟩) hs2).trans z0
        have v1 := (hb7.cell (p := ⟨by_, 1, none⟩) hs2).trans z1
        have v2 := (hb7.cell (p := ⟨by_, 2, none⟩) hs2).trans z2
        have v3 := (hb7.cell (p := ⟨by_, 3, none⟩) hs2).trans z3
        have hby7 := Nat.lt_of_lt_of_le hs2 hb7.size
        clear hf7 hnw7 hb7 hfar7 z0 z1 z2 z3 y0' y1' y2' y3' y4'
        go_wp2_with fail
        refine HPU.out.mono ?_
        rintro e w8 ⟨kind, er, ov, j', sns', xs', mid, rfl, hp⟩
        have HPL := Lib.hid hp.out
        have HBP := Lib.hid (HT7.out.push hp.out)
        have hbk := hp.out.ft.block by_ hby7 hbyx.out.1.no
        have hby8 := Nat.lt_of_lt_of_le hby7 hp.out.ft.size
        have t0 := (World.cell?_of_block (a := ⟨by_, 0, none⟩) hbk).trans v0
        have t1 := (World.cell?_of_block (a := ⟨by_, 1, none⟩) hbk).trans v1
        have t2 := (World.cell?_of_block (a := ⟨by_, 2, none⟩) hbk).trans v2
        have t3 := (World.cell?_of_block (a := ⟨by_, 3, none⟩) hbk).trans v3
        have HF8 := Lib.hid (HF7.out.ft hp.out.ft (fun b f hB _ => (HOUT.out b (HF2.out.2 b f hB).1).1.no))
        have HOP := Lib.hid (opush_how y sb D o oss ys cs j sns xs told se sq st B1 an k1 (us.map Int.toNat) w8 HBP.out.oi HT7.out.ro A0 c0 HT7.out.cl (HC.out.1.below HBP.out.bel) HF8.out HA.out.2.big HA.out.2.lt HA.out.2.w32.2.1 HA.out.2.w32.2.2 HA.out.2.w32.1.1 HA.out.2.w32.1.2 HT7.out.jr.jp k (by have := HK.out; omega) HT7.out.jr.few (fun b f hB => ⟨(HOUT.out b (HF2.out.2 b f hB).1).2, Nat.le_trans HSZ.out.2 (HF2.out.2 b f hB).1⟩) kind er j' sns' xs' mid hp.out.how)
        have HKEEP := Lib.hid (fun b f (hB : B1 = some ⟨b, f, none⟩) => HBP.out.keep b (Nat.lt_trans (HF2.out.2 b f hB).2 hby7) (HOUT.out b (HF2.out.2 b f hB).1).1)
        obtain ⟨oA, oc, hov⟩ := hp.out.out.slice
        subst hov
        clear hp hbk v0 v1 v2 v3 HPU
        go_wp2_with fail
        refine HOP.out.mono ?_
        rintro e w9 ⟨mv, o', oss', ys', mid', rfl, hq⟩
        have HBJ9 := Lib.hid (HBP.out.done HKEEP.out hq.out)
        have HKP := Lib.hid (BP.kept HT7.out HPL.out hq.out.ft)
        have hno := fun hf => hbyx.out.2.own hf
        have hbk := hq.out.ft.block by_ hby8 hno
        have hby9 := Nat.lt_of_lt_of_le hby8 hq.out.ft.size
        have u0 := (World.cell?_of_block (a := ⟨by_, 0, none⟩) hbk).trans t0
        have u1 := (World.cell?_of_block (a := ⟨by_, 1, none⟩) hbk).trans t1
        have u2 := (World.cell?_of_block (a := ⟨by_, 2, none⟩) hbk).trans t2
        have u3 := (World.cell?_of_block (a := ⟨by_, 3, none⟩) hbk).trans t3
        have HSM := Lib.hid (tsame_any (.slice oA mid.length oc) mv mid mid' w9 HKP.out.1.tl hq.out.out.tl HKP.out.2 hq.out.ok (by
          have h1 := HBJ9.out.jr.len
          rw [List.length_append] at h1
          have := HK.out
          omega))
        rw [decide_eq_true hq.out.keys.symm] at HSM
        obtain ⟨mA, mc, hmv⟩ := hq.out.out.slice
        subst hmv
        clear hq HOP HKEEP HBP t0 t1 t2 t3 HKP hbk hno
        go_wp2_with fail
        refine HSM.out.mono ?_
        rintro e w10 ⟨rfl, hb10⟩
        have HB10 := Lib.hid (HBJ9.out.below hb10)
        have s0 := (hb10.cell (p := ⟨by_, 0, none⟩) hby9).trans u0
        have s1 := (hb10.cell (p := ⟨by_, 1, none⟩) hby9).trans u1
        have s2 := (hb10.cell (p := ⟨by_, 2, none⟩) hby9).trans u2
        have s3 := (hb10.cell (p := ⟨by_, 3, none⟩) hby9).trans u3
        clear hb10 u0 u1 u2 u3 HSM
        have HST := Lib.hid (state_any HB10.out (by have := HK.out; omega) se sq st B1 an k1 HW32.out.1.1 HW32.out.1.2)
        go_wp2_with fail
        refine HST.out.mono ?_
        rintro e w11 ⟨rfl, hb9⟩
        have HB9 := Lib.hid (HB10.out.below hb9)
        clear hb9 HST
        go_wp2_with fail
        go_roundw
        case rel => exact ⟨k + 1, x, B, j', sns', xs', told ++ mid, o', oss', ys', by omega, rfl, by go_num, HB9⟩
        case measure => simp [intOf]; omega
      · have hkc : ¬ (k : Int) < (n : Int) := by omega
        go_wp2_with fail
        refine (awake_join wr).mono ?_
        rintro e w6 ⟨rfl, hb6⟩
        go_wp2_with fail
        go_ret
        exact ⟨rfl, back_of hh.out.bel hb6⟩
end Go.Proofs.YtebacmmfjadalaaGreat
