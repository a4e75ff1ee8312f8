/- JoinWindow: for every list of clocks, every window and every list of readings the law answers true. No condition. -/
import Derived.BigQuiet
import Derived.Deep.QuietTactic
import Derived.Deep.DeepCutAuto
import Derived.Deep.RegionLaw
import Derived.Deep.RegionHeld3
import Derived.Test.YtebacmmfjadalaaGreatP51
import Derived.Test.YtebacmmfjadalaaGreatP52
import Derived.Test.YtebacmmfjadalaaGreatP21

namespace Go.Proofs.YtebacmmfjadalaaGreat
open Go Go.RowKit Go.WideShapes

set_option maxRecDepth 8000 in
set_option maxHeartbeats 16000000 in
theorem window_walk (A0 : Option Addr) (c0 : Nat) (cs : List (Int × Int × Int)) (win : Int) (A1 : Option Addr) (c1 : Nat) (ls : List In) (w : World) (hc : ClRow w A0 cs) (hA : cs.length = 0 ∨ A0 ≠ none) (hl : cs.length * 24 ≤ 140737488355328) (hx : RdAt w A1 ls) (hok : ∀ e ∈ ls, InOk w e) :
    Calls Tryz.prog 3 #[.slice A0 cs.length c0, .int .i64 win, .slice A1 ls.length c1] w fun e w' => e = .returned (.bool true) ∧ Below w.heap.size w w' := by
  have HX := Lib.hid (And.intro hx hok)
  obtain ⟨n, hn⟩ : ∃ n, ls.length = n := ⟨_, rfl⟩
  have HN := Lib.hid hn
  obtain ⟨m0, hm0⟩ : ∃ m, cs.length = m := ⟨_, rfl⟩
  have HM0 := Lib.hid hm0
  rw [hm0] at hA hl
  have HC := Lib.hid (And.intro hc (And.intro hA hl))
  rw [hn, hm0]
  clear hn hm0 hok hx hc hA hl
  go_enter Tryz.func3, Tryz.ntmps3
  go_wp2_with (at_builtin; refine wpList_append_clocks _ rfl (.const (.slice none 0 0)) (.tmp 23) rfl A0 m0 c0 cs rfl rfl HM0.out HC.out.1 HC.out.2.1 HC.out.2.2 ?_; intro A2 c2 w3 hc3 hb3; have HC3 := Lib.hid (And.intro hc3 hb3); clear hc3 hb3)
  refine (new_all A2 c2 m0 cs win w3 HM0.out HC3.out.1).mono ?_
  rintro e w4 (⟨hE, rfl, sv, hs, hj, hz, hlt4, hb4⟩ | ⟨hE, rfl, hb4⟩)
  case inr =>
    have HB4 := Lib.hid (back_of HC3.out.2 hb4)
    have HE := Lib.hid hE
    have HON := Lib.hid (onew_all A0 c0 m0 cs win w4 HM0.out (HC.out.1.below HB4.out))
    obtain ⟨ER, hER⟩ : ∃ y, newE cs win = y := ⟨_, rfl⟩
    rw [hER] at hE ⊢
    have hE' : (ER != 0) = true := by simpa using hE
    have HER := Lib.hid hER
    clear hb4 hER hE
    go_wp2_with fail
    refine HON.out.mono ?_
    rintro e w5 (⟨hE, y, sb, rfl, -⟩ | ⟨-, rfl, hb5⟩)
    · exact absurd hE HE.out
    have HB5 := Lib.hid (back_of HB4.out hb5)
    rw [HER.out]
    clear hb5 HON
    go_wp2_with fail
    refine (awake_join w5).mono ?_
    rintro e w6 ⟨rfl, hb6⟩
    go_wp2_with fail
    go_ret
    exact ⟨rfl, back_of HB5.out hb6⟩
  case inl =>
    have HB4 := Lib.hid (back_of HC3.out.2 (hb4.mono (Nat.le_refl _)))
    have HWIN := Lib.hid (newE_zero hE)
    have HJ4 := Lib.hid (And.intro hE (And.intro hs (And.intro hj (And.intro hz (And.intro hlt4 hb4)))))
    have HON := Lib.hid (onew_all A0 c0 m0 cs win w4 HM0.out (HC.out.1.below HB4.out))
    obtain ⟨x, hxe⟩ : ∃ x, w3.heap.size = x := ⟨_, rfl⟩
    rw [hxe]
    have HXE := Lib.hid hxe
    clear hE hs hj hz hlt4 hb4 hxe
    go_wp2_with fail
    refine HON.out.mono ?_
    rintro e w5 (⟨-, y, sb, rfl, ho⟩ | ⟨hE, -, -⟩)
    case inr => exact absurd HJ4.out.1 hE
    have HBJ := Lib.hid (show BJ w w5 cs x w4.heap.size ⟨sv, win, .slice none 0 0, false, 0, 0, 0, 0, 0, 0, 0⟩ (cs.map sn0) [] [] 0 y sb w5.heap.size (oj0 A0 c0 cs.length win sb) (List.replicate cs.length os0) [] A0 c0 by
      rw [← HXE.out]
      refine BJ.start HJ4.out.1 HC3.out.2 HJ4.out.2.1 HJ4.out.2.2.1 HJ4.out.2.2.2.1 HJ4.out.2.2.2.2.1 HJ4.out.2.2.2.2.2 ?_
      have h := ho.out
      rw [← HM0.out] at h
      exact h)
    clear ho HON
    generalize w4.heap.size = B at *
    generalize w5.heap.size = D at *
    by_cases h200 : 200 < n
    · have h3 : (200 : Int) < (n : Int) := by omega
      go_wp2_with fail
      refine (awake_join w5).mono ?_
      rintro e w6 ⟨rfl, hb6⟩
      go_wp2_with fail
      go_ret
      exact ⟨rfl, back_of HBJ.out.bel hb6⟩
    have h3 : ¬ (200 : Int) < (n : Int) := by omega
    clear HJ4 HXE HB4 HC3
    go_wp2_with fail
    go_loopw [51] (fun iv wr => ∃ (k : Nat) (j : Jn) (sns : List Sn) (xs told : List El) (o : OJ) (oss : List OS) (ys : List El), k ≤ n ∧ iv = .int .i64 (k : Int) ∧ Hid (BJ w wr cs x B j sns xs told k y sb D o oss ys A0 c0 ∧ HorIs j ∧ j.win = win)) (fun iv _ => n - (intOf iv).toNat)
    case atStart => exact ⟨0, _, _, [], [], _, _, [], by omega, rfl, Lib.hid ⟨HBJ.out, (fun h => by cases h), rfl⟩⟩
    case round =>
      obtain ⟨k, j, sns, xs, told, o, oss, ys, hk, rfl, hh⟩ := hrel
      clear HBJ
      by_cases hlt : k < n
      · obtain ⟨a, ha⟩ := get_someI (xs := ls) (i := k) (by have := HN.out; omega)
        rcases HX.out.1 with h0 | ⟨g1, o1, rfl, q1, hc1⟩
        · rw [h0] at ha; simp at ha
        have HA := Lib.hid (And.intro ha (HX.out.2 a (List.mem_of_getElem? ha)))
        have d1 := fun m hm => (hh.out.1.bel.cell (p := ⟨g1, o1 + k * 4 + m, none⟩) q1).trans (hc1 k a ha m hm)
        have x0 := d1 0 (by omega)
        have x1 := d1 1 (by omega)
        have x2 := d1 2 (by omega)
        have x3 := d1 3 (by omega)
        have hki : (k : Int) < (n : Int) := by omega
        have hk0 : (0 : Int) ≤ (k : Int) := by omega
        clear d1 hc1 ha q1
        obtain ⟨at_, se, sq, st, av, an, ac, us⟩ := a
        rw [Nat.add_zero] at x0
        simp only [In.row4, List.getElem?_cons_zero, List.getElem?_cons_succ] at x0 x1 x2 x3
        have HOF := Lib.hid (fun W (hW : Below w.heap.size w W) => of_fl se sq st av an ac us W (HA.out.2.below hW).len (HA.out.2.below hW).at_ HA.out.2.big)
        have HB1 := Lib.hid ((Below.refl wr.heap.size wr).alloc (Nat.le_refl _) (.cells #[.int .i64 se, .int .u32 sq, .int .u32 st, .slice av an ac] 35))
        go_wp2_with fail
        clear x0 x1 x2 x3
        have y0 : (wr.alloc (.cells #[.int .i64 se, .int .u32 sq, .int .u32 st, .slice av an ac] 35)).cell? ⟨wr.heap.size, 0, none⟩ = some (.int .i64 se) := by simp [go_sem]
        have y1 : (wr.alloc (.cells #[.int .i64 se, .int .u32 sq, .int .u32 st, .slice av an ac] 35)).cell? ⟨wr.heap.size, 1, none⟩ = some (.int .u32 sq) := by simp [go_sem]
        have y2 : (wr.alloc (.cells #[.int .i64 se, .int .u32 sq, .int .u32 st, .slice av an ac] 35)).cell? ⟨wr.heap.size, 2, none⟩ = some (.int .u32 st) := by simp [go_sem]
        have y3 : (wr.alloc (.cells #[.int .i64 se, .int .u32 sq, .int .u32 st, .slice av an ac] 35)).cell? ⟨wr.heap.size, 3, none⟩ = some (.slice av an ac) := by simp [go_sem]
        have hs1 : wr.heap.size < (wr.alloc (.cells #[.int .i64 se, .int .u32 sq, .int .u32 st, .slice av an ac] 35)).heap.size := by simp
        generalize wr.alloc (.cells #[.int .i64 se, .int .u32 sq, .int .u32 st, .slice av an ac] 35) = W1 at *
        have HT1 := Lib.hid (hh.out.1.below HB1.out)
        have HSZ := Lib.hid (And.intro hh.out.1.jr.inv.big hh.out.1.oi.big)
        have HHO := Lib.hid hh.out.2.1
        have HJW : Hid (j.win = win) := Lib.hid hh.out.2.2
        have HOUT := Lib.hid (fun b (hb : wr.heap.size ≤ b) => And.intro (hh.out.1.jr.out hb) (hh.out.1.oi.out hb))
        generalize wr.heap.size = bx at *
        clear hh HB1
        refine (HOF.out _ HT1.out.bel).mono ?_
        rintro e w2 ⟨⟨B1, k1, rfl, hf1, hnw1⟩, hb2⟩
        have HB2 := Lib.hid (hb2.alloc hb2.size (.cells #[.int .i64 se, .int .u32 sq, .int .u32 st, .slice B1 an k1] 38))
        have HF2 := Lib.hid (And.intro (hf1.below ((Below.refl w2.heap.size w2).alloc (Nat.le_refl _) (.cells #[.int .i64 se, .int .u32 sq, .int .u32 st, .slice B1 an k1] 38))) (show ∀ b f, B1 = some ⟨b, f, none⟩ → bx ≤ b ∧ b < w2.heap.size from fun b f hB => by
          rcases hnw1 with q | ⟨b'', q, q', q''⟩
          · rw [q] at hB; cases hB
          · rw [q] at hB; injection hB with hB; injection hB with hB
            omega))
        have z0 : (w2.alloc (.cells #[.int .i64 se, .int .u32 sq, .int .u32 st, .slice B1 an k1] 38)).cell? ⟨w2.heap.size, 0, none⟩ = some (.int .i64 se) := by simp [go_sem]
        have z1 : (w2.alloc (.cells #[.int .i64 se, .int .u32 sq, .int .u32 st, .slice B1 an k1] 38)).cell? ⟨w2.heap.size, 1, none⟩ = some (.int .u32 sq) := by simp [go_sem]
        have z2 : (w2.alloc (.cells #[.int .i64 se, .int .u32 sq, .int .u32 st, .slice B1 an k1] 38)).cell? ⟨w2.heap.size, 2, none⟩ = some (.int .u32 st) := by simp [go_sem]
        have z3 : (w2.alloc (.cells #[.int .i64 se, .int .u32 sq, .int .u32 st, .slice B1 an k1] 38)).cell? ⟨w2.heap.size, 3, none⟩ = some (.slice B1 an k1) := by simp [go_sem]
        have hs2 : w2.heap.size < (w2.alloc (.cells #[.int .i64 se, .int .u32 sq, .int .u32 st, .slice B1 an k1] 38)).heap.size := by simp
        have hsb : bx < w2.heap.size := Nat.lt_of_lt_of_le hs1 hb2.size
        clear hf1 hnw1
        go_upto_region 12 with fail
        generalize w2.alloc (.cells #[.int .i64 se, .int .u32 sq, .int .u32 st, .slice B1 an k1] 38) = W3 at *
        have y0' := (HB2.out.cell (p := ⟨bx, 0, none⟩) hs1).trans y0
        have y1' := (HB2.out.cell (p := ⟨bx, 1, none⟩) hs1).trans y1
        have y2' := (HB2.out.cell (p := ⟨bx, 2, none⟩) hs1).trans y2
        have y3' := (HB2.out.cell (p := ⟨bx, 3, none⟩) hs1).trans y3
        generalize w2.heap.size = by_ at *
        have hsW1 : bx < W3.heap.size := Nat.lt_trans hsb hs2
        have HT3 := Lib.hid (HT1.out.below HB2.out)
        clear hb2 y0 y1 y2 y3 HT1 HB2 hs1
        go_cut [72] from 52 to 71 (fun v wx => ∃ b : Bool, v = .bool b ∧ Hid ((b = true → 0 ≤ se ∧ se < (m0 : Int) ∧ j.some = true) ∧ (b = false → NearIs j sns se st an (us.map Int.toNat) true)) ∧ W3 = wx)
        case first =>
          by_cases c0 : 0 ≤ se
          case neg =>
            have HNR : Hid (NearIs j sns se st an (us.map Int.toNat) true) := Lib.hid (fun _ h _ _ _ => by
              exfalso
              unfold pushE at h
              split at h
              · rename_i q; exact q h
              · rename_i q
                have := (chkE_zero (se := se) (n := an) (bs := us.map Int.toNat) (by simpa using q)).1
                omega)
            go_wp2_with fail
            go_meet
            exact ⟨false, rfl, Lib.hid ⟨fun e => (by cases e), fun _ => HNR.out⟩, rfl⟩
          case pos =>
          obtain ⟨sN, rfl⟩ := Int.eq_ofNat_of_zero_le c0
          by_cases c1 : (sN : Int) < (m0 : Int)
          case neg =>
            have HNR : Hid (NearIs j sns (sN : Int) st an (us.map Int.toNat) true) := Lib.hid (fun _ _ _ s hs => by
              exfalso
              rw [Int.toNat_natCast] at hs
              have h1 := (List.getElem?_eq_some_iff.1 hs).1
              have h2 := HT3.out.ro.len
              have h3 := HM0.out
              omega)
            go_wp2_with fail
            go_meet
            exact ⟨false, rfl, Lib.hid ⟨fun e => (by cases e), fun _ => HNR.out⟩, rfl⟩
          case pos =>
          have o5 := HT3.out.oi.at_ 5 (by omega)
          simp only [OJ.row, List.getElem?_cons_zero, List.getElem?_cons_succ] at o5
          rw [HT3.out.ro.any] at o5
          obtain ⟨jb, hjb⟩ : ∃ b, j.some = b := ⟨_, rfl⟩
          rw [hjb] at o5
          have HJB := Lib.hid hjb
          have HC01 := Lib.hid (And.intro c0 c1)
          clear hjb
          go_wp2_with fail
          go_meet
          exact ⟨jb, rfl, Lib.hid ⟨fun e => ⟨HC01.out.1, HC01.out.2, HJB.out.trans e⟩, fun e _ _ h => (by rw [HJB.out, e] at h; cases h)⟩, rfl⟩
        case rest =>
        obtain ⟨cb1, rfl, HCB, rfl⟩ := hcut
        go_upto_if 72 with (fail)
        go_cut [14, 15, 16, 17, 18] from 72 to 109 (fun v _ _ _ _ wx => ∃ nb : Bool, v = .bool nb ∧ Hid (NearIs j sns se st an (us.map Int.toNat) nb ∧ Below W3.heap.size W3 wx))
        case first =>
          cases cb1 with
          | false =>
            have HNR := Lib.hid (HCB.out.2 rfl)
            have HRF := Lib.hid (Below.refl W3.heap.size W3)
            go_wp2_with fail
            go_meet
            exact ⟨true, rfl, Lib.hid ⟨HNR.out, HRF.out⟩⟩
          | true =>
          obtain ⟨c0, c1, hsm⟩ := HCB.out.1 rfl
          obtain ⟨sN, rfl⟩ := Int.eq_ofNat_of_zero_le c0
          have o4 := HT3.out.oi.at_ 4 (by omega)
          have o2 := HT3.out.oi.at_ 2 (by omega)
          simp only [OJ.row, List.getElem?_cons_zero, List.getElem?_cons_succ] at o2 o4
          have hsl : sN < sns.length := by have := HT3.out.ro.len; have := HM0.out; omega
          obtain ⟨s, hs⟩ : ∃ s, sns[sN]? = some s := ⟨sns[sN], List.getElem?_eq_getElem hsl⟩
          obtain ⟨u, hu, hrs⟩ := HT3.out.ro.at hs
          obtain ⟨SA, SC, hsen, hsa⟩ := HT3.out.oi.sen
          rw [HT3.out.ro.olen, HM0.out] at hsen hsa
          have hsa : SA = some ⟨sb, 0, none⟩ := by
            rcases hsa with h | h
            · omega
            · exact h
          subst hsa
          rw [hsen] at o2
          have s0 := HT3.out.oi.sn sN _ hu 0 (by omega)
          simp only [OS.row, List.getElem?_cons_zero, Nat.add_zero] at s0
          rw [hrs.last] at s0
          obtain ⟨ul, hul⟩ : ∃ x, s.last = x := ⟨_, rfl⟩
          rw [hul] at s0
          rw [HT3.out.ro.top hsm] at o4
          obtain ⟨jt, hjt⟩ : ∃ x, j.top = x := ⟨_, rfl⟩
          rw [hjt] at o4
          have hwn := HT3.out.jr.jp.num
          have hjt0 := hwn.t0
          have hjt1 := hwn.t1
          rw [hjt] at hjt0 hjt1
          have hw0 := HWIN.out.1
          have hw1 := HWIN.out.2
          have hwr : IntKind.i64.wrap (jt - win) = jt - win := by rw [IntKind.wrap_i64]; omega
          obtain ⟨cb, coff, hA0, hcb, hcl⟩ := ClRow.at HC.out.1 sN (by have := HM0.out; omega)
          subst hA0
          have hclk := HT3.out.ro.clk sN s hs
          have hk1 : (cs.getD sN (0, 0, 0)).1 = s.o := by rw [← hclk]
          have hk2 : (cs.getD sN (0, 0, 0)).2.1 = s.n := by rw [← hclk]
          have hk3 : (cs.getD sN (0, 0, 0)).2.2 = s.d := by rw [← hclk]
          rw [hk1, hk2, hk3] at hcl
          have k0' := (HT3.out.bel.cell (p := ⟨cb, coff + sN * 3, none⟩) hcb).trans hcl.1
          have k1' := (HT3.out.bel.cell (p := ⟨cb, coff + sN * 3 + 1, none⟩) hcb).trans hcl.2.1
          have k2' := (HT3.out.bel.cell (p := ⟨cb, coff + sN * 3 + 2, none⟩) hcb).trans hcl.2.2
          have hcb3 := Nat.lt_of_lt_of_le hcb HT3.out.bel.size
          obtain ⟨co, hco⟩ : ∃ x, s.o = x := ⟨_, rfl⟩
          obtain ⟨cn, hcn⟩ : ∃ x, s.n = x := ⟨_, rfl⟩
          obtain ⟨cd, hcd⟩ : ∃ x, s.d = x := ⟨_, rfl⟩
          rw [hco] at k0'
          rw [hcn] at k1'
          rw [hcd] at k2'
          have hst := HA.out.2.w32.2
          simp only at hst
          obtain ⟨hst0, hst1⟩ := hst
          have HUN := Lib.hid (fun W => runwrap_any ul st W hst0 hst1)
          obtain ⟨uv, huv⟩ : ∃ x, Ck.unwV ul st = x := ⟨_, rfl⟩
          obtain ⟨ue, hue⟩ : ∃ x, Ck.unwE ul st = x := ⟨_, rfl⟩
          rw [huv, hue] at HUN
          have HTM := Lib.hid (fun W => Bg.rtime_any co cn cd uv W)
          obtain ⟨tv, htv⟩ : ∃ x, Ck.timeV co cn cd uv = x := ⟨_, rfl⟩
          obtain ⟨te, hte⟩ : ∃ x, Ck.timeE co cn cd uv = x := ⟨_, rfl⟩
          rw [htv, hte] at HTM
          unfold clk at HTM
          have HUE : Hid (∀ nb, (nb = true → ue = 0 → te = 0 → jt - win ≤ tv) → NearIs j sns (sN : Int) st an (us.map Int.toNat) nb) := Lib.hid (fun nb hnb h1 h2 _ s' hs' => by
            rw [Int.toNat_natCast, hs] at hs'
            injection hs' with hs'
            subst hs'
            obtain ⟨-, p2, p3⟩ := pushE_parts (s := s) h2 (by rw [Int.toNat_natCast]; exact hs)
            rw [hul, hue] at p2
            rw [hul, huv, hco, hcn, hcd, hte] at p3
            rw [hul, huv, hco, hcn, hcd, htv, hjt, HJW.out]
            exact hnb h1 p2 p3)
          have hyw : y < W3.heap.size := by have := HT3.out.oi.big; have := HT3.out.oi.yB; omega
          have hsw : sb < W3.heap.size := by have := HT3.out.oi.big; have := HT3.out.oi.sB; omega
          have hsN0 : (0 : Int) ≤ (sN : Int) := by omega
          clear hs hu hrs hsa hsen hul hjt hwn hclk hk1 hk2 hk3 hcl hco hcn hcd huv hue htv hte hsm hcb hsl HCB
          go_upto_region 13 with fail
          have hcur : Below W3.heap.size W3 W3.drew := (Below.refl _ _).drew
          go_region_held3 (fun w' => w'.cell? ⟨y, 2, none⟩ = some (.slice (some ⟨sb, 0, none⟩) m0 SC) ∧ w'.cell? ⟨by_, 0, none⟩ = some (.int .i64 sN) ∧ w'.cell? ⟨by_, 2, none⟩ = some (.int .u32 st) ∧ w'.cell? ⟨sb, sN * 4, none⟩ = some (.int .i64 ul))
            (first | exact ⟨(hcur.cell (by exact hyw)).trans o2, (hcur.cell (by exact hs2)).trans z0, (hcur.cell (by exact hs2)).trans z2, (hcur.cell (by exact hsw)).trans s0⟩)
            (first | (go_at_call 10; refine (HUN.out _).mono ?_; rintro e w4 ⟨rfl, hb4⟩; replace hcur := back_of hcur hb4; clear hb4))
          have v0 := (hcur.cell (p := ⟨by_, 0, none⟩) (by exact hs2)).trans z0
          have v1 := (hcur.cell (p := ⟨cb, coff + sN * 3, none⟩) (by exact hcb3)).trans k0'
          have v2 := (hcur.cell (p := ⟨cb, coff + sN * 3 + 1, none⟩) (by exact hcb3)).trans k1'
          have v3 := (hcur.cell (p := ⟨cb, coff + sN * 3 + 2, none⟩) (by exact hcb3)).trans k2'
          have v4 := (hcur.cell (p := ⟨y, 4, none⟩) (by exact hyw)).trans o4
          have HCU := Lib.hid hcur
          have hyw4 := Nat.lt_of_lt_of_le hyw hcur.size
          clear hcur HUN z0 z1 z2 z3 y0' y1' y2' y3' o2 o4 s0 k0' k1' k2'
          by_cases hue0 : ue = 0
          case neg =>
            have hue1 : (ue == 0) = false := by simpa using hue0
            have HNR := Lib.hid (HUE.out true (fun _ h => absurd h hue0))
            go_wp2_with fail
            go_meet
            exact ⟨true, rfl, Lib.hid ⟨HNR.out, HCU.out⟩⟩
          case pos =>
          subst hue0
          go_wp2_with fail
          refine (HTM.out _).mono ?_
          rintro e w5 ⟨rfl, hb5⟩
          have v5 := (hb5.cell (p := ⟨y, 4, none⟩) (by exact hyw4)).trans v4
          have HC5 := Lib.hid (back_of HCU.out hb5)
          clear hb5 v0 v1 v2 v3 v4 HTM
          by_cases hte0 : te = 0
          case neg =>
            have hte1 : (te == 0) = false := by simpa using hte0
            have HNR := Lib.hid (HUE.out true (fun _ _ h => absurd h hte0))
            go_wp2_with fail
            go_meet
            exact ⟨true, rfl, Lib.hid ⟨HNR.out, HC5.out⟩⟩
          case pos =>
          subst hte0
          go_wp2_with fail
          go_meet
          exact ⟨decide (jt - win ≤ tv), rfl, Lib.hid ⟨HUE.out _ (fun h _ _ => by simpa using h), HC5.out⟩⟩
        case rest =>
          obtain ⟨nb, rfl, hnb⟩ := hcut
          rename World => wc
          have HNB := Lib.hid hnb.out.1
          have hsbk := hnb.out.2
          have t0 := (hsbk.cell (p := ⟨bx, 0, none⟩) hsW1).trans y0'
          have t1 := (hsbk.cell (p := ⟨bx, 1, none⟩) hsW1).trans y1'
          have t2 := (hsbk.cell (p := ⟨bx, 2, none⟩) hsW1).trans y2'
          have t3 := (hsbk.cell (p := ⟨bx, 3, none⟩) hsW1).trans y3'
          have v0 := (hsbk.cell (p := ⟨by_, 0, none⟩) hs2).trans z0
          have v1 := (hsbk.cell (p := ⟨by_, 1, none⟩) hs2).trans z1
          have v2 := (hsbk.cell (p := ⟨by_, 2, none⟩) hs2).trans z2
          have v3 := (hsbk.cell (p := ⟨by_, 3, none⟩) hs2).trans z3
          have HT6 := Lib.hid (HT3.out.below hsbk)
          have HF6 := Lib.hid (HF2.out.1.below hsbk)
          have hby6 := Nat.lt_of_lt_of_le hs2 hsbk.size
          clear hnb hsbk HT3 y0' y1' y2' y3' z0 z1 z2 z3
          go_wp2_with fail
          refine (HOF.out _ HT6.out.bel).mono ?_
          rintro e w7 ⟨⟨B7, k7, rfl, hf7, hnw7⟩, hb7⟩
          have HT7 := Lib.hid (HT6.out.below hb7)
          have HF7 := Lib.hid (HF6.out.below hb7)
          have hfar7 : ∀ b f, B7 = some ⟨b, f, none⟩ → Out x j xs b := fun b f hB => (HOUT.out b (by
            have hsz := HT6.out.jr.inv.big
            rcases hnw7 with q | ⟨b'', q, q', -⟩
            · rw [q] at hB; cases hB
            · rw [q] at hB; injection hB with hB; injection hB with hB
              omega)).1
          have HPU := Lib.hid (JR.push x B j sns xs told k se sq st B7 an k7 (us.map Int.toNat) w7 HT7.out.jr (by omega) hf7 HA.out.2.big HA.out.2.lt hfar7 HA.out.2.w32.2.1 HA.out.2.w32.2.2 HA.out.2.w32.1.1 HA.out.2.w32.1.2)
          have u0 := (hb7.cell (p := ⟨by_, 0, none⟩) hby6).trans v0
          have u1 := (hb7.cell (p := ⟨by_, 1, none⟩) hby6).trans v1
          have u2 := (hb7.cell (p := ⟨by_, 2, none⟩) hby6).trans v2
          have u3 := (hb7.cell (p := ⟨by_, 3, none⟩) hby6).trans v3
          have hby7 := Nat.lt_of_lt_of_le hby6 hb7.size
          clear hf7 hnw7 hb7 hfar7 t0 t1 t2 t3 v0 v1 v2 v3
          go_wp2_with fail
          refine HPU.out.mono ?_
          rintro e w8 ⟨kind, er, ov, j', sns', xs', mid, rfl, hp⟩
          have HBP := Lib.hid (HT7.out.push hp.out)
          have HHOW := Lib.hid hp.out.how
          have hno := (HOUT.out by_ (Nat.le_of_lt hsb)).1.no
          have hbk := hp.out.ft.block by_ hby7 hno
          have t0 := (World.cell?_of_block (a := ⟨by_, 0, none⟩) hbk).trans u0
          have t1 := (World.cell?_of_block (a := ⟨by_, 1, none⟩) hbk).trans u1
          have t2 := (World.cell?_of_block (a := ⟨by_, 2, none⟩) hbk).trans u2
          have t3 := (World.cell?_of_block (a := ⟨by_, 3, none⟩) hbk).trans u3
          have HF8 := Lib.hid (HF7.out.ft hp.out.ft (fun b f hB _ => (HOUT.out b (HF2.out.2 b f hB).1).1.no))
          have HOP := Lib.hid (opush_how y sb D o oss ys cs j sns xs told se sq st B1 an k1 (us.map Int.toNat) w8 HBP.out.oi HT7.out.ro A0 c0 HT7.out.cl (HC.out.1.below HBP.out.bel) HF8.out HA.out.2.big HA.out.2.lt HA.out.2.w32.2.1 HA.out.2.w32.2.2 HA.out.2.w32.1.1 HA.out.2.w32.1.2 HT7.out.jr.jp k (by omega) HT7.out.jr.few (fun b f hB => ⟨(HOUT.out b (HF2.out.2 b f hB).1).2, Nat.le_trans HSZ.out.2 (HF2.out.2 b f hB).1⟩) kind er j' sns' xs' mid hp.out.how)
          have HKEEP := Lib.hid (fun b f (hB : B1 = some ⟨b, f, none⟩) => HBP.out.keep b (Nat.lt_trans (HF2.out.2 b f hB).2 hby7) (HOUT.out b (HF2.out.2 b f hB).1).1)
          have HNXT : Hid (HorIs j' ∧ j'.win = win) := Lib.hid ⟨hor_how hp.out.how HHO.out, (win_how hp.out.how).trans HJW.out⟩
          have HNL : Hid (er = 0 → kind = 4 → nb = false) := Lib.hid (fun h1 h2 => by
            have h := HHOW.out
            rw [h1, h2] at h
            exact near_late h HHO.out HNB.out)
          obtain ⟨oA, oc, hov⟩ := hp.out.out.slice
          subst hov
          clear hp hno hbk u0 u1 u2 u3 HPU
          go_wp2_with fail
          refine HOP.out.mono ?_
          rintro e w9 ⟨mv, o', oss', ys', mid', rfl, hq⟩
          have HBJ := Lib.hid (HBP.out.done HKEEP.out hq.out)
          obtain ⟨mA, mc, hmv⟩ := hq.out.out.slice
          subst hmv
          clear hq HOP HKEEP HBP t0 t1 t2 t3
          by_cases her : er = 0
          case neg =>
            have her1 : (er == 0) = false := by simpa using her
            go_wp2_with fail
            go_roundw
            case rel => exact ⟨k + 1, j', sns', xs', told ++ mid, o', oss', ys', by omega, by go_num, Lib.hid ⟨HBJ.out, HNXT.out⟩⟩
            case measure => simp [intOf]; omega
          case pos =>
          by_cases hkd : kind = 4
          case neg =>
            have hkd1 : (kind == 4) = false := by simpa using hkd
            subst her
            go_wp2_with fail
            go_roundw
            case rel => exact ⟨k + 1, j', sns', xs', told ++ mid, o', oss', ys', by omega, by go_num, Lib.hid ⟨HBJ.out, HNXT.out⟩⟩
            case measure => simp [intOf]; omega
          case pos =>
          have hnb := HNL.out her hkd
          subst her hkd hnb
          go_wp2_with fail
          go_roundw
          case rel => exact ⟨k + 1, j', sns', xs', told ++ mid, o', oss', ys', by omega, by go_num, Lib.hid ⟨HBJ.out, HNXT.out⟩⟩
          case measure => simp [intOf]; omega
      · have hkc : ¬ (k : Int) < (n : Int) := by omega
        go_wp2_with fail
        refine (awake_join wr).mono ?_
        rintro e w6 ⟨rfl, hb6⟩
        go_wp2_with fail
        go_ret
        exact ⟨rfl, back_of hh.out.1.bel hb6⟩
end Go.Proofs.YtebacmmfjadalaaGreat

namespace Go.Proofs.YtebacmmfjadalaaGreat
open Go.ChangeShapes Go.WideShapes Go.ChangeAt Go.RowKit Go.Joins

theorem rd_some {W : World} {A : Option Addr} {xs : List In} (h : RdAt W A xs) : xs.length = 0 ∨ A ≠ none := by
  rcases h with h | ⟨b, off, h, -⟩
  · exact .inl (by rw [h]; rfl)
  · exact .inr (by rw [h]; simp)
theorem sized_each {H : Type} {P : Program} {ts : List TypeId} {ds : List (DataW H)} (h : (DataW.weightsEach P ts ds).all (· ≤ reachBytes) = true) {j : Nat} {t : TypeId} {d : DataW H} (ht : ts[j]? = some t) (hd : ds[j]? = some d) : ∀ k ∈ d.weights P t, k ≤ reachBytes := fun k hk => by
  simpa using List.all_eq_true.1 h k (DataW.weights_mem_each ht hd k hk)
set_option linter.unusedVariables false
set_option maxRecDepth 100000 in
theorem window_lifted (os : Os) (started : os.Started) (H : Type) (enc : TypeId × Value → H) :
    ReturnsInHanded {} Tryz.checked os 3 .any (Rows.joinWindowSpec.pre6 enc Tryz.prog Tryz.f3 Rows.joinWindowRow.domain false) (Rows.joinWindowSpec.post enc Tryz.prog Tryz.f3 false true false false) := by
  refine returnsInHanded_of_change_sized (C := Tryz.checked) own started (by kernel_rfl) Tryz.func3
    (ChangeSpec.witness6 (enc := enc) (C := Tryz.checked) false ⟨#[], #[.slice none 0 0, .int .i64 0, .slice none 0 0], []⟩ 8 (by kernel_rfl) (by kernel_rfl) (by kernel_rfl) (by kernel_rfl)) ?_
  intro W base args ds gs before hval0 hW _ hsz0 _
  have hval : ∀ (j : Nat) t v, Tryz.f3.params[j]? = some t → args[j]? = some v → Value.okWide Tryz.prog W .any base t v := hval0
  have hW' := hW
  obtain ⟨p, q, hA0, hV, rfl, hfz, hnd⟩ := hW
  have hA : DataW.TrodAll enc Tryz.prog W 0 (fun _ => true) true Tryz.f3.params.toList args.toList ds p := hA0
  rw [Tryz.params3] at hA hval hsz0
  obtain ⟨v0, v1, v2, d0, d1, d2, p0, p1, p2, rfl, rfl, rfl, h0, h1, h2⟩ := trodAll_three hA
  obtain ⟨rfl, rfl⟩ := trodVars_none hV
  obtain ⟨win, rfl, -, -, -⟩ := open_int Tryz.underlying2 (hval 1 2 v1 rfl rfl) h1
  obtain ⟨A0, c0, cs, rfl, hc, hn, hl⟩ := open_clocks (sized_each hsz0 (j := 0) rfl rfl) (hval 0 22 v0 rfl rfl) h0
  obtain ⟨A1, c1, ls, rfl, hr, hok⟩ := open_readings (sized_each hsz0 (j := 2) rfl rfl) (hval 2 23 v2 rfl rfl) h2
  refine (window_walk A0 c0 cs win A1 c1 ls W hc hn hl hr hok).mono fun e W' ⟨he, hb⟩ => ⟨_, he, ?_⟩
  exact Ck.law_post laid (readable_of (by kernel_rfl)) rfl Tryz.underlying4 rfl rfl hW' hb

theorem window_holds : Rows.JoinWindowSaid :=
  OpenClaim.holds_of_wide 3 Tryz.f3 rfl rfl rfl rfl rfl rfl rfl ⟨rfl, rfl, rfl, rfl, rfl⟩ rfl rfl rfl rfl rfl (by kernel_rfl) Tryz.func3 (by kernel_rfl)
    (of_decide_eq_true (by kernel_rfl)) (by unfold Func.isWrapper; first | (rw [if_pos (by decide +kernel)]; kernel_rfl) | (rw [if_neg (by decide +kernel)]; exact ⟨rfl, rfl⟩))
    (fun os started H enc _ => window_lifted os started H enc)
#print axioms window_holds
end Go.Proofs.YtebacmmfjadalaaGreat
