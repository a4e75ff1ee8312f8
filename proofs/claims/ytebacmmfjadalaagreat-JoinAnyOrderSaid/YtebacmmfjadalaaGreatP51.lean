/- W1 in one text. -/
import Derived.BigQuiet
import Derived.Deep.QuietTactic
import Derived.Test.YtebacmmfjadalaaGreatP18
import Derived.Test.YtebacmmfjadalaaGreatP34
import Derived.Deep.LoopGhost
import Derived.Deep.DeepCutAuto
import Derived.Deep.RegionLaw
import Derived.Test.YtebacmmfjadalaaGreatP36
import Derived.Test.YtebacmmfjadalaaGreatP50

namespace Go.Proofs.YtebacmmfjadalaaGreat
open Go Go.RowKit Go.WideShapes

/-- all readings so far, with their times -/
structure AL (w W : World) (cs : List (Int × Int × Int)) (ov : Value) (es : List El) (rs : List In) : Prop where
  row : Row w.heap.size W ov es
  keys : es.map El.key = rs.map (rkey cs)
  ok : ∀ e ∈ es, ElOk W e ∧ W32 e ∧ Away e ov.ownBlock
  bel : Below w.heap.size w W
  good : ∀ r ∈ rs, Good cs r
  dist : rs.Pairwise (fun a b => ¬ (a.se = b.se ∧ a.sq = b.sq))
theorem AL.below {w W W' : World} {cs : List (Int × Int × Int)} {ov : Value} {es : List El} {rs : List In} (h : AL w W cs ov es rs) (hb : Below W.heap.size W W') : AL w W' cs ov es rs :=
  ⟨h.row.below hb, h.keys, fun e he => ⟨(h.ok e he).1.below hb, (h.ok e he).2⟩, h.bel.trans (hb.mono h.bel.size), h.good, h.dist⟩
theorem AL.snoc {w W W' : World} {cs : List (Int × Int × Int)} {ov ov' : Value} {es : List El} {rs : List In} {e : El} {r : In} (h : AL w W cs ov es rs) (hr : Row w.heap.size W' ov' (es ++ [e])) (hg : W.grownBy W' ov.ownBlock) (ha : ov'.ownBlock = ov.ownBlock ∨ ov'.ownBlock = some W.heap.size)
    (hk : e.key = rkey cs r) (he : ElOk W e) (h32 : W32 e) (haw : Away e ov.ownBlock) (hgood : Good cs r) (hd : ∀ a ∈ rs, ¬ (a.se = r.se ∧ a.sq = r.sq)) : AL w W' cs ov' (es ++ [e]) (rs ++ [r]) := by
  have hF : Ft W W' (fun b => ov.ownBlock = some b) := ⟨hg.os, hg.tape, hg.output, hg.size, fun b hb hn => hg.block b hb (fun e => hn e.symm)⟩
  have hall : ∀ a ∈ es ++ [e], ElOk W a ∧ W32 a ∧ Away a ov.ownBlock := fun a h' => by
    rcases List.mem_append.1 h' with q | q
    · exact h.ok a q
    · rw [List.mem_singleton.1 q]; exact ⟨he, h32, haw⟩
  refine ⟨hr, ?_, fun a h' => ?_, h.bel.trans (hF.below h.bel.size (fun b hb => (h.row.lt hb).1)), fun a h' => ?_, ?_⟩
  · rw [List.map_append, List.map_append, h.keys, List.map_cons, List.map_nil, hk]; rfl
  · obtain ⟨q1, q2, q3⟩ := hall a h'
    refine ⟨q1.ft hF (fun b f hv hb => q3 b f hv hb), q2, fun b f hv => ?_⟩
    rcases ha with q | q
    · rw [q]; exact q3 b f hv
    · rw [q]
      intro q'
      injection q' with q'
      have := q1.lt hv
      omega
  · rcases List.mem_append.1 h' with q | q
    · exact h.good a q
    · rw [List.mem_singleton.1 q]; exact hgood
  · refine List.pairwise_append.2 ⟨h.dist, List.pairwise_singleton _ _, fun a h1 b h2 => ?_⟩
    rw [List.mem_singleton.1 h2]
    exact hd a h1

set_option maxRecDepth 8000 in
set_option maxHeartbeats 16000000 in
theorem any_walk (A0 : Option Addr) (c0 : Nat) (cs : List (Int × Int × Int)) (win : Int) (A1 : Option Addr) (c1 : Nat) (ls : List In) (A3 : Option Addr) (np c3 : Nat) (ps : Nat → Int) (w : World) (hc : ClRow w A0 cs) (hA : cs.length = 0 ∨ A0 ≠ none) (hl : cs.length * 24 ≤ 140737488355328) (hx : RdAt w A1 ls) (hok : ∀ e ∈ ls, InOk w e) (hA1 : ls.length = 0 ∨ A1 ≠ none)
    (hp : 0 < np → ∃ b off, A3 = some ⟨b, off, none⟩ ∧ b < w.heap.size ∧ ∀ i, i < np → w.cell? ⟨b, off + i, none⟩ = some (.int .i64 (ps i)) ∧ -9223372036854775808 ≤ ps i ∧ ps i ≤ 9223372036854775807) :
    Calls Tryz.prog 4 #[.slice A0 cs.length c0, .int .i64 win, .slice A1 ls.length c1, .slice A3 np c3] w fun e w' => e = .returned (.bool true) ∧ Below w.heap.size w w' := by
  have HX := Lib.hid (And.intro hx hok)
  have HP := Lib.hid hp
  obtain ⟨n, hn⟩ : ∃ n, ls.length = n := ⟨_, rfl⟩
  have HN := Lib.hid hn
  obtain ⟨m0, hm0⟩ : ∃ m, cs.length = m := ⟨_, rfl⟩
  have HM0 := Lib.hid hm0
  rw [hm0] at hA hl
  rw [hn] at hA1
  have HC := Lib.hid (And.intro hc (And.intro hA hl))
  have HAA := Lib.hid hA1
  rw [hn, hm0]
  clear hn hm0 hok hx hc hA hl hA1 hp
  by_cases h60 : 60 < n
  · have h3 : (60 : Int) < (n : Int) := by omega
    go_enter Tryz.func4, Tryz.ntmps4
    go_wp2_with fail
    refine (awake_join w).mono ?_
    rintro e w1 ⟨rfl, hb⟩
    go_wp2_with fail
    go_ret
    exact ⟨rfl, hb⟩
  have h3 : ¬ (60 : Int) < (n : Int) := by omega
  go_enter Tryz.func4, Tryz.ntmps4
  go_wp2_with fail
  go_loopw [9, 34] (fun ov iv wr => ∃ (k : Nat) (es : List El), k ≤ n ∧ iv = .int .i64 (k : Int) ∧ Hid (AL w wr cs ov es (ls.take k))) (fun _ iv _ => n - (intOf iv).toNat)
  case atStart => exact ⟨0, [], by omega, rfl, Lib.hid ⟨World.ownsRow_nil _ _ _ _, rfl, fun e he => by simp at he, Below.refl _ _, fun r hr => by simp at hr, List.Pairwise.nil⟩⟩
  case round =>
    obtain ⟨k, es, hk, rfl, hh⟩ := hrel
    by_cases hlt : k < n
    · obtain ⟨a, ha⟩ := get_someI (xs := ls) (i := k) (by have := HN.out; omega)
      rcases HX.out.1 with h0 | ⟨g1, o1, rfl, q1, hc1⟩
      · rw [h0] at ha; simp at ha
      have HRD := Lib.hid (And.intro q1 hc1)
      have HA := Lib.hid (And.intro ha (HX.out.2 a (List.mem_of_getElem? ha)))
      have d1 := fun m hm => (hh.out.bel.cell (p := ⟨g1, o1 + k * 4 + m, none⟩) q1).trans (hc1 k a ha m hm)
      have x0 := d1 0 (by omega)
      have x1 := d1 1 (by omega)
      have x2 := d1 2 (by omega)
      have x3 := d1 3 (by omega)
      have hki : (k : Int) < (n : Int) := by omega
      have hk0 : (0 : Int) ≤ (k : Int) := by omega
      clear d1 hc1 ha q1
      obtain ⟨at_, se, sq, st, av, an, ac, us⟩ := a
      rw [Nat.add_zero] at x0
      simp only [In.row4, List.getElem?_cons_zero, List.getElem?_cons_succ] at x0 x1 x2 x3
      have HOF := Lib.hid (fun W (hW : Below w.heap.size w W) => of_fl se sq st av an ac us W (HA.out.2.below hW).len (HA.out.2.below hW).at_ HA.out.2.big)
      have HB1 := Lib.hid ((Below.refl wr.heap.size wr).alloc (Nat.le_refl _) (.cells #[.int .i64 se, .int .u32 sq, .int .u32 st, .slice av an ac] 35))
      go_wp2_with fail
      clear x0 x1 x2 x3
      have y0 : (wr.alloc (.cells #[.int .i64 se, .int .u32 sq, .int .u32 st, .slice av an ac] 35)).cell? ⟨wr.heap.size, 0, none⟩ = some (.int .i64 se) := by simp [go_sem]
      have y1 : (wr.alloc (.cells #[.int .i64 se, .int .u32 sq, .int .u32 st, .slice av an ac] 35)).cell? ⟨wr.heap.size, 1, none⟩ = some (.int .u32 sq) := by simp [go_sem]
      have hs1 : wr.heap.size < (wr.alloc (.cells #[.int .i64 se, .int .u32 sq, .int .u32 st, .slice av an ac] 35)).heap.size := by simp
      generalize wr.alloc (.cells #[.int .i64 se, .int .u32 sq, .int .u32 st, .slice av an ac] 35) = W1 at *
      have HT1 := Lib.hid (hh.out.below HB1.out)
      have HOW := Lib.hid (fun g hg => (HT1.out.row.lt (g := g) hg).2)
      generalize wr.heap.size = bx at *
      clear hh HB1
      refine (HOF.out _ HT1.out.bel).mono ?_
      rintro e w2 ⟨⟨B1, k1, rfl, hf1, hnw1⟩, hb2⟩
      have HB2 := Lib.hid (hb2.alloc hb2.size (.cells #[.int .i64 se, .int .u32 sq, .int .u32 st, .slice B1 an k1] 38))
      have HF2 := Lib.hid (And.intro (hf1.below ((Below.refl w2.heap.size w2).alloc (Nat.le_refl _) (.cells #[.int .i64 se, .int .u32 sq, .int .u32 st, .slice B1 an k1] 38))) (show ∀ b f, B1 = some ⟨b, f, none⟩ → W1.heap.size ≤ b from fun b f hB => by
        rcases hnw1 with q | ⟨b'', q, q', -⟩
        · rw [q] at hB; cases hB
        · rw [q] at hB; injection hB with hB; injection hB with hB
          omega))
      have z0 : (w2.alloc (.cells #[.int .i64 se, .int .u32 sq, .int .u32 st, .slice B1 an k1] 38)).cell? ⟨w2.heap.size, 0, none⟩ = some (.int .i64 se) := by simp [go_sem]
      have z1 : (w2.alloc (.cells #[.int .i64 se, .int .u32 sq, .int .u32 st, .slice B1 an k1] 38)).cell? ⟨w2.heap.size, 1, none⟩ = some (.int .u32 sq) := by simp [go_sem]
      have z2 : (w2.alloc (.cells #[.int .i64 se, .int .u32 sq, .int .u32 st, .slice B1 an k1] 38)).cell? ⟨w2.heap.size, 2, none⟩ = some (.int .u32 st) := by simp [go_sem]
      have z3 : (w2.alloc (.cells #[.int .i64 se, .int .u32 sq, .int .u32 st, .slice B1 an k1] 38)).cell? ⟨w2.heap.size, 3, none⟩ = some (.slice B1 an k1) := by simp [go_sem]
      have hs2 : w2.heap.size < (w2.alloc (.cells #[.int .i64 se, .int .u32 sq, .int .u32 st, .slice B1 an k1] 38)).heap.size := by simp
      have hsb : bx < w2.heap.size := Nat.lt_of_lt_of_le hs1 hb2.size
      clear hf1 hnw1
      go_wp2_with fail
      generalize w2.alloc (.cells #[.int .i64 se, .int .u32 sq, .int .u32 st, .slice B1 an k1] 38) = W3 at *
      have y0' := (HB2.out.cell (p := ⟨bx, 0, none⟩) hs1).trans y0
      have y1' := (HB2.out.cell (p := ⟨bx, 1, none⟩) hs1).trans y1
      generalize w2.heap.size = by_ at *
      have HT3 := Lib.hid (HT1.out.below HB2.out)
      have HCK := Lib.hid (rchk_any se sq st B1 an k1 (us.map Int.toNat) W3 HF2.out.1 HA.out.2.big HA.out.2.lt)
      obtain ⟨ck, hck⟩ : ∃ y, chkE se an (us.map Int.toNat) = y := ⟨_, rfl⟩
      rw [hck] at HCK
      have HCKE := Lib.hid hck
      clear hck hb2 y0 y1 HT1
      go_wp2_with fail
      refine HCK.out.mono ?_
      rintro e w4 ⟨rfl, hb4⟩
      have hsW := Nat.lt_of_lt_of_le hs2 hb4.size
      have y0 := (hb4.cell (p := ⟨bx, 0, none⟩) (Nat.lt_trans hsb hs2)).trans y0'
      have y1 := (hb4.cell (p := ⟨bx, 1, none⟩) (Nat.lt_trans hsb hs2)).trans y1'
      have u0 := (hb4.cell (p := ⟨by_, 0, none⟩) hs2).trans z0
      have u1 := (hb4.cell (p := ⟨by_, 1, none⟩) hs2).trans z1
      have u2 := (hb4.cell (p := ⟨by_, 2, none⟩) hs2).trans z2
      have u3 := (hb4.cell (p := ⟨by_, 3, none⟩) hs2).trans z3
      have HT4 := Lib.hid (HT3.out.below hb4)
      have HF4 := Lib.hid (And.intro (HF2.out.1.below hb4) HF2.out.2)
      clear hb4 z0 z1 z2 z3 y0' y1' HCK HT3 HF2
      by_cases c0k : ck = 0
      · subst c0k
        obtain ⟨se0, -, -⟩ := chkE_zero HCKE.out
        obtain ⟨s0, rfl⟩ := Int.eq_ofNat_of_zero_le se0
        by_cases c1k : m0 ≤ s0
        · have c1' : (m0 : Int) ≤ (s0 : Int) := by omega
          go_wp2_with fail
          refine (awake_join w4).mono ?_
          rintro e w5 ⟨rfl, hb5⟩
          go_wp2_with fail
          go_ret
          exact ⟨rfl, back_of HT4.out.bel hb5⟩
        have c1' : ¬ (m0 : Int) ≤ (s0 : Int) := by omega
        by_cases c2k : 2147483648 ≤ st
        · go_wp2_with fail
          refine (awake_join w4).mono ?_
          rintro e w5 ⟨rfl, hb5⟩
          go_wp2_with fail
          go_ret
          exact ⟨rfl, back_of HT4.out.bel hb5⟩
        obtain ⟨wo, hwo⟩ : ∃ wo : World, wo = wr := ⟨_, rfl⟩
        clear hwo
        go_wp2_with fail
        go_loopw [13] (fun jv wq => ∃ j : Nat, j ≤ k ∧ jv = .int .i64 (j : Int) ∧ Hid (Below w4.heap.size w4 wq ∧ ∀ (m : Nat) (e : In), m < j → ls[m]? = some e → ¬ (e.se = (s0 : Int) ∧ e.sq = sq))) (fun jv _ => k - (intOf jv).toNat)
        case atStart => exact ⟨0, by omega, rfl, Lib.hid ⟨Below.refl _ _, fun m e hm => by omega⟩⟩
        case round =>
          obtain ⟨j, hj, rfl, hq⟩ := hrel
          have v0 := (hq.out.1.cell (p := ⟨bx, 0, none⟩) (Nat.lt_trans hsb hsW)).trans y0
          have v1 := (hq.out.1.cell (p := ⟨bx, 1, none⟩) (Nat.lt_trans hsb hsW)).trans y1
          by_cases hjk : j < k
          · have hjk' : (j : Int) < (k : Int) := by omega
            have hjn : (j : Int) < (n : Int) := by omega
            have hj0 : (0 : Int) ≤ (j : Int) := by omega
            obtain ⟨d, hd⟩ := get_someI (xs := ls) (i := j) (by have := HN.out; omega)
            have hbw : Below w.heap.size w wr := HT4.out.bel.trans (hq.out.1.mono HT4.out.bel.size)
            have d1 := fun m hm => (hbw.cell (p := ⟨g1, o1 + j * 4 + m, none⟩) HRD.out.1).trans (HRD.out.2 j d hd m hm)
            have x0 := d1 0 (by omega)
            have x1 := d1 1 (by omega)
            have HD := Lib.hid hd
            have HBW := Lib.hid hbw
            clear d1 hd hbw
            obtain ⟨dat, dse, dsq, dst, dv, dn, dc, dus⟩ := d
            rw [Nat.add_zero] at x0
            simp only [In.row4, List.getElem?_cons_zero, List.getElem?_cons_succ] at x0 x1
            have HNX := Lib.hid (fun nq => (show Below w4.heap.size w4 (wr.drewN nq) from ⟨hq.out.1.os, hq.out.1.tape, hq.out.1.output, hq.out.1.size, hq.out.1.block⟩))
            go_wp2_with fail
            by_cases e1 : dse = (s0 : Int)
            · by_cases e2 : dsq = sq
              · subst e1 e2
                go_quiet (fail)
                go_wp2_with fail
                refine (awake_join _).mono ?_
                rintro e w5 ⟨rfl, hb5⟩
                go_wp2_with fail
                go_ret
                exact ⟨rfl, back_of (HT4.out.bel.trans ((HNX.out _).mono HT4.out.bel.size)) hb5⟩
              · subst e1
                go_quiet (fail)
                go_wp2_with fail
                go_roundw
                case rel => exact ⟨j + 1, by omega, by go_num, Lib.hid ⟨HNX.out _, fun m e hm he => by
                  rcases (by omega : m < j ∨ m = j) with q | q
                  · exact hq.out.2 m e q he
                  · subst q
                    rw [HD.out] at he
                    injection he with he
                    subst he
                    exact fun q => e2 q.2⟩⟩
                case measure => simp [intOf]; omega
            · have e1' : (dse == (s0 : Int)) = false := by simpa using e1
              go_quiet (fail)
              go_wp2_with fail
              go_roundw
              case rel => exact ⟨j + 1, by omega, by go_num, Lib.hid ⟨HNX.out _, fun m e hm he => by
                rcases (by omega : m < j ∨ m = j) with q | q
                · exact hq.out.2 m e q he
                · subst q
                  rw [HD.out] at he
                  injection he with he
                  subst he
                  exact fun q => e1 q.1⟩⟩
              case measure => simp [intOf]; omega
          · have hjk' : ¬ (j : Int) < (k : Int) := by omega
            have hje : k = j := by omega
            subst hje
            have HDN := Lib.hid hq.out.2
            have HT5 := Lib.hid (HT4.out.below hq.out.1)
            have HBW := Lib.hid HT5.out.bel
            obtain ⟨cb, coff, rfl, hcb, hcl⟩ := ClRow.at HC.out.1 s0 (by have := HM0.out; omega)
            obtain ⟨co, hco⟩ : ∃ y, (cs.getD s0 (0, 0, 0)).1 = y := ⟨_, rfl⟩
            obtain ⟨cn, hcn⟩ : ∃ y, (cs.getD s0 (0, 0, 0)).2.1 = y := ⟨_, rfl⟩
            obtain ⟨cd, hcd⟩ : ∃ y, (cs.getD s0 (0, 0, 0)).2.2 = y := ⟨_, rfl⟩
            rw [hco, hcn, hcd] at hcl
            have HCC := Lib.hid (And.intro hco (And.intro hcn hcd))
            have k0 := (HBW.out.cell (p := ⟨cb, coff + s0 * 3, none⟩) hcb).trans hcl.1
            have k1' := (HBW.out.cell (p := ⟨cb, coff + s0 * 3 + 1, none⟩) hcb).trans hcl.2.1
            have k2' := (HBW.out.cell (p := ⟨cb, coff + s0 * 3 + 2, none⟩) hcb).trans hcl.2.2
            have t0 := (hq.out.1.cell (p := ⟨by_, 0, none⟩) hsW).trans u0
            have t1 := (hq.out.1.cell (p := ⟨by_, 1, none⟩) hsW).trans u1
            have t2 := (hq.out.1.cell (p := ⟨by_, 2, none⟩) hsW).trans u2
            have t3 := (hq.out.1.cell (p := ⟨by_, 3, none⟩) hsW).trans u3
            have HF5 := Lib.hid (And.intro (HF4.out.1.below hq.out.1) HF4.out.2)
            have hsW5 := Nat.lt_of_lt_of_le hsW hq.out.1.size
            have hcb5 := Nat.lt_of_lt_of_le hcb HBW.out.size
            have HTM := Lib.hid (fun W => Bg.rtime_any co cn cd st W)
            obtain ⟨tv, htv⟩ : ∃ y, Ck.timeV co cn cd st = y := ⟨_, rfl⟩
            obtain ⟨te, hte⟩ : ∃ y, Ck.timeE co cn cd st = y := ⟨_, rfl⟩
            rw [htv, hte] at HTM
            have HTE := Lib.hid (And.intro htv hte)
            unfold clk at HTM
            have hst := HA.out.2.w32.2
            simp only at hst
            obtain ⟨hst0, hst1⟩ := hst
            have hcv : IntKind.i64.wrap st = st := by rw [IntKind.wrap_i64]; omega
            have hs0m : (s0 : Int) < (m0 : Int) := by omega
            have hs00 : (0 : Int) ≤ (s0 : Int) := by omega
            clear hcl hco hcn hcd htv hte hq v0 v1 y0 y1 u0 u1 u2 u3 hcb
            go_wp2_with fail
            have hcur : Below wr.heap.size wr wr.drew := (Below.refl _ _).drew
            go_region_held3 (fun w' => w'.cell? ⟨cb, coff + s0 * 3, none⟩ = some (.int .i64 co) ∧ w'.cell? ⟨cb, coff + s0 * 3 + 1, none⟩ = some (.int .i64 cn) ∧ w'.cell? ⟨cb, coff + s0 * 3 + 2, none⟩ = some (.int .i64 cd) ∧ w'.cell? ⟨by_, 0, none⟩ = some (.int .i64 s0) ∧ w'.cell? ⟨by_, 2, none⟩ = some (.int .u32 st))
              (first | exact ⟨(hcur.cell (by exact hcb5)).trans k0, (hcur.cell (by exact hcb5)).trans k1', (hcur.cell (by exact hcb5)).trans k2', (hcur.cell (by exact hsW5)).trans t0, (hcur.cell (by exact hsW5)).trans t2⟩)
              (first | (go_at_call 11; refine (HTM.out _).mono ?_; rintro e w6 ⟨rfl, hb6⟩; replace hcur := back_of hcur hb6; clear hb6))
            have HT6 := Lib.hid (HT5.out.below hcur)
            have HF6 := Lib.hid (And.intro (HF5.out.1.below hcur) HF5.out.2)
            have f0 := (hcur.cell (p := ⟨by_, 0, none⟩) (by exact hsW5)).trans t0
            have f1 := (hcur.cell (p := ⟨by_, 1, none⟩) (by exact hsW5)).trans t1
            have f2 := (hcur.cell (p := ⟨by_, 2, none⟩) (by exact hsW5)).trans t2
            have f3 := (hcur.cell (p := ⟨by_, 3, none⟩) (by exact hsW5)).trans t3
            clear hcur k0 k1' k2' t0 t1 t2 t3 HTM HBW HF5 HF4
            by_cases ete : te = 0
            · subst ete
              have HALC := Lib.hid (HT6.out.below ((Below.refl w6.heap.size w6).alloc (Nat.le_refl _) (.cells #[.int .i64 tv, .int .i64 s0, .int .u32 sq, .int .u32 st, .slice B1 an k1] 63)))
              have hel : es.length ≤ 1099511627776 := by
                have h := congrArg List.length HT6.out.keys
                simp only [List.length_map, List.length_take] at h
                omega
              go_wp2_with (at_builtin; refine wpList_append_el _ rfl (.tmp 96) (.tmp 100) 41 w.heap.size rfl Tryz.underlying41 u9 es ⟨tv, s0, sq, st, B1, an, k1, us.map Int.toNat⟩ rfl HALC.out.row HALC.out.bel.size hel ⟨w6.heap.size, 0, none⟩ 1 rfl (row_new' w6 _ _ _ _ _ _ _ _) ?_; intro v7 w7 hr7 hg7 ha7; have H7 := Lib.hid (And.intro hr7 (And.intro hg7 ha7)); clear hr7 hg7 ha7)
              go_roundw
              case rel =>
                refine ⟨k + 1, es ++ [⟨tv, s0, sq, st, B1, an, k1, us.map Int.toNat⟩], by omega, by go_num, Lib.hid ?_⟩
                have hsn := HALC.out.snoc (r := ⟨at_, s0, sq, st, av, an, ac, us⟩) H7.out.1 H7.out.2.1 H7.out.2.2 ?_ (ElOk.below ⟨HF6.out.1, HA.out.2.lt, HA.out.2.big⟩ ((Below.refl _ _).alloc (Nat.le_refl _) _)) HA.out.2.w32 ?_ ?_ ?_
                · rw [List.take_add_one, HA.out.1]
                  exact hsn
                · show tv :: (s0 : Int) :: sq :: st :: (an : Int) :: (us.map Int.toNat).map keyN = Ck.timeV (cs.getD ((s0 : Int).toNat) (0, 0, 0)).1 (cs.getD ((s0 : Int).toNat) (0, 0, 0)).2.1 (cs.getD ((s0 : Int).toNat) (0, 0, 0)).2.2 st :: (s0 : Int) :: sq :: st :: (an : Int) :: (us.map Int.toNat).map keyN
                  rw [Int.toNat_natCast, HCC.out.1, HCC.out.2.1, HCC.out.2.2, HTE.out.1]
                · intro b f hv hq
                  have h1 := HF6.out.2 b f hv
                  have h2 := HOW.out b hq
                  omega
                · refine ⟨HCKE.out, by have := HM0.out; show (s0 : Int) < _; omega, by show st < _; omega, ?_⟩
                  show Ck.timeE (cs.getD ((s0 : Int).toNat) (0, 0, 0)).1 (cs.getD ((s0 : Int).toNat) (0, 0, 0)).2.1 (cs.getD ((s0 : Int).toNat) (0, 0, 0)).2.2 st = 0
                  rw [Int.toNat_natCast, HCC.out.1, HCC.out.2.1, HCC.out.2.2, HTE.out.2]
                · intro a ha
                  obtain ⟨m, hm⟩ := List.mem_iff_getElem?.1 ha
                  have hml : m < k := by
                    have := (List.getElem?_eq_some_iff.1 hm).1
                    rw [List.length_take] at this
                    omega
                  rw [List.getElem?_take_of_lt hml] at hm
                  exact HDN.out m a hml hm
              case measure => simp [intOf]; omega
            · go_wp2_with fail
              refine (awake_join _).mono ?_
              rintro e w7 ⟨rfl, hb7⟩
              go_wp2_with fail
              go_ret
              exact ⟨rfl, back_of HT6.out.bel hb7⟩
      · go_wp2_with fail
        refine (awake_join w4).mono ?_
        rintro e w5 ⟨rfl, hb5⟩
        go_wp2_with fail
        go_ret
        exact ⟨rfl, back_of HT4.out.bel hb5⟩
    · have hkc : ¬ (k : Int) < (n : Int) := by omega
      have HT0 := Lib.hid (show AL w wr cs u9 es ls by
        have h := hh.out
        rw [List.take_of_length_le (by have := HN.out; omega)] at h
        exact h)
      have hel : es.length = n := by
        have h := congrArg List.length HT0.out.keys
        simp only [List.length_map] at h
        have := HN.out
        omega
      have HEL := Lib.hid hel
      clear hh hel
      go_wp2_with fail
      refine (rlist_any u9 es wr HT0.out.row.tl (fun e he => ⟨(HT0.out.ok e he).1, (HT0.out.ok e he).2.1⟩) (by have := HEL.out; omega)).mono ?_
      rintro e w2 ⟨vd, zs, rfl, hr2, hp2, hs2, hb2⟩
      have HW := Lib.hid (show WT w w2 cs vd zs ls from ⟨hr2.tl, fun e he => (HT0.out.ok e (hp2.mem_iff.1 he)).1.below hb2, by rw [← HT0.out.keys]; exact hp2.map _, hs2, HT0.out.bel.trans (hb2.mono HT0.out.bel.size), HT0.out.good, HT0.out.dist⟩)
      have hzl : zs.length = n := hp2.length_eq.trans HEL.out
      have HZL := Lib.hid hzl
      clear hr2 hp2 hs2 hb2 HT0 HEL hzl hkc
      go_wp2_with fail
      go_loopw [17] (fun qv wq => ∃ q : Int, 0 ≤ q ∧ q ≤ 2 ∧ qv = .int .i64 q ∧ Hid (Below w2.heap.size w2 wq)) (fun qv _ => (2 - intOf qv).toNat)
      case atStart => exact ⟨0, by omega, by omega, rfl, Lib.hid (Below.refl _ _)⟩
      case round =>
        rename World => wq
        obtain ⟨q, hq0, hq, rfl, hbq⟩ := hrel
        by_cases hq2 : q < 2
        · have HWQ := Lib.hid (HW.out.below hbq.out)
          go_wp2_with (at_builtin; refine wpList_append_clocks _ rfl (.const (.slice none 0 0)) (.tmp 110) rfl A0 m0 c0 cs rfl rfl HM0.out (HC.out.1.below HWQ.out.bel) HC.out.2.1 HC.out.2.2 ?_; intro A2 c2 w3 hc3 hb3; have HC3 := Lib.hid (And.intro hc3 hb3); clear hc3 hb3)
          refine (new_all A2 c2 m0 cs win w3 HM0.out HC3.out.1).mono ?_
          rintro e w4 (⟨hE, rfl, sv, hs, hj, hz, hlt4, hb4⟩ | ⟨hE, rfl, hb4⟩)
          case inr =>
            have HB4 := Lib.hid (back_of HWQ.out.bel (back_of HC3.out.2 hb4))
            obtain ⟨ER, hER⟩ : ∃ y, newE cs win = y := ⟨_, rfl⟩
            rw [hER] at hE ⊢
            have hE' : ¬ ER = 0 := hE
            clear hb4 hER hE
            go_wp2_with fail
            refine (awake_join w4).mono ?_
            rintro e w5 ⟨rfl, hb5⟩
            go_wp2_with fail
            go_ret
            exact ⟨rfl, back_of HB4.out hb5⟩
          case inl =>
            have HT := Lib.hid (TR.start hE HC3.out.2 hs hj hz hlt4 hb4)
            clear hE hs hj hz hb4
            obtain ⟨x, hxe⟩ : ∃ x, w3.heap.size = x := ⟨_, rfl⟩
            rw [hxe] at HT ⊢
            clear hlt4 hxe
            go_wp2_with (at_builtin; refine wpList_append_reads _ rfl (.const (.slice none 0 0)) (.tmp 121) rfl w4.heap.size (.slice none 0 0) A1 n c1 [] ls rfl rfl (World.ownsRow_nil _ _ _ _) (Nat.le_refl _) HN.out (HX.out.1.below (HWQ.out.bel.trans (HT.out.bel.mono HWQ.out.bel.size))) HAA.out (by simp only [List.length_nil]; omega) ?_; intro v5 w5 hr5 hb5; rw [List.nil_append] at hr5; obtain ⟨A5, c5, hv5⟩ := hr5.slice; rw [HN.out] at hv5; subst hv5; have HR5 := Lib.hid (RD.start HT.out hr5 hb5); clear hr5 hb5)
            go_loopg [20, 21, 22, 23] n (fun gk lv tv fv kv wr => ∃ (k : Nat) (j : Jn) (sns : List Sn) (xs told : List El) (lf done : List In) (f : Bool), lv = .slice A5 gk c5 ∧ fv = .bool f ∧ kv = .int .i64 (k : Int) ∧ Hid (lf.length = gk ∧ done.length = k ∧ RD wq wr cs ls x w4.heap.size j sns xs told tv A5 c5 lf done f))
            case atStart => exact ⟨0, _, _, [], [], ls, [], true, rfl, rfl, rfl, Lib.hid ⟨HN.out, rfl, HR5.out⟩⟩
            case round =>
              obtain ⟨k, j, sns, xs, told, lf, done, f, rfl, rfl, rfl, hh⟩ := hrel
              clear HR5
              by_cases hL : 0 < gk
              · obtain ⟨g, hA5, hlg⟩ : ∃ g, A5 = some ⟨g, 0, none⟩ ∧ LG wq wr x j xs u21 g c5 lf := by
                  rcases hh.out.2.2.left with e | e
                  · have h := hh.out.1
                    rw [e] at h
                    simp only [List.length_nil] at h
                    omega
                  · exact e
                subst hA5
                have HLG := Lib.hid hlg
                clear hlg
                have hL' : (0 : Int) < (gk : Int) := by omega
                have HPL := Lib.hid hL
                have HBW := Lib.hid (HWQ.out.bel.trans (hh.out.2.2.tr.bel.mono HWQ.out.bel.size))
                go_upto_region 36 with fail
                go_cut [135] (fun v wx => ∃ b : Bool, v = .bool b ∧ Hid (b = true → k < np) ∧ wr = wx)
                case first =>
                  by_cases c1 : q = 1
                  · subst c1
                    by_cases c2 : (k : Int) < (np : Int)
                    · go_wp2_with fail
                      go_meet
                      exact ⟨true, rfl, Lib.hid (fun _ => by omega), rfl⟩
                    · go_wp2_with fail
                      go_meet
                      exact ⟨false, rfl, Lib.hid (fun e => by cases e), rfl⟩
                  · have c1' : (q == 1) = false := by simpa using c1
                    go_wp2_with fail
                    go_meet
                    exact ⟨false, rfl, Lib.hid (fun e => by cases e), rfl⟩
                case rest =>
                  obtain ⟨b, rfl, hb, rfl⟩ := hcut
                  go_upto_if 135 with (fail)
                  go_cut [24] (fun v wx => ∃ ii : Nat, v = .int .i64 (ii : Int) ∧ Hid (ii < gk) ∧ wr = wx)
                  case first =>
                    cases b
                    · go_wp2_with fail
                      go_meet
                      exact ⟨0, rfl, HPL, rfl⟩
                    · have hk := hb.out rfl
                      obtain ⟨b3, o3, hA3, hl3, hps⟩ := HP.out (by omega)
                      obtain ⟨P, hPe⟩ : ∃ y, ps k = y := ⟨_, rfl⟩
                      obtain ⟨p1, p2, p3⟩ := hps k hk
                      rw [hPe] at p1 p2 p3
                      have x0 := (HBW.out.cell (p := ⟨b3, o3 + k, none⟩) hl3).trans p1
                      obtain ⟨ii, i1, i2, i3, i4⟩ := pick_rem P hL
                      clear hps p1 hPe hb
                      subst hA3
                      have hk0 : (0 : Int) ≤ (k : Int) := by omega
                      have hkp : (k : Int) < (np : Int) := by omega
                      have hz : ((gk : Int) == 0) = false := by simp; omega
                      go_wp2_with fail
                      go_meet
                      exact ⟨ii, by rw [show wrap64 (P.tmod (gk : Int) + (gk : Int)) = P.tmod (gk : Int) + (gk : Int) from IntWalk.wrap64_in _ (by have := HN.out; have := hh.out.2.2.perm.length_eq; rw [List.length_append] at this; have := hh.out.1; omega), i2], Lib.hid i1, rfl⟩
                  case rest =>
                    obtain ⟨ii, rfl, hii, rfl⟩ := hcut
                    clear hb b
                    obtain ⟨r, hr⟩ := get_someI (xs := lf) (i := ii) (by have := hii.out; have := hh.out.1; omega)
                    have hmem : r ∈ ls := hh.out.2.2.perm.mem_iff.1 (List.mem_append_right _ (List.mem_of_getElem? hr))
                    have HR := Lib.hid (And.intro hr (And.intro ((HX.out.2 r hmem).below HBW.out) (HWQ.out.good r hmem)))
                    have d1 := HLG.out.lf.rd hr
                    have x0 := d1 0 (by omega)
                    have x1 := d1 1 (by omega)
                    have x2 := d1 2 (by omega)
                    have x3 := d1 3 (by omega)
                    clear d1 hr hmem
                    obtain ⟨at_, se, sq, st, av, an, ac, us⟩ := r
                    rw [Nat.add_zero] at x0
                    simp only [In.row4, List.getElem?_cons_zero, List.getElem?_cons_succ] at x0 x1 x2 x3
                    have hi0 : (0 : Int) ≤ (ii : Int) := by omega
                    have hi1 : (ii : Int) < (gk : Int) := by have := hii.out; omega
                    have HOF := Lib.hid (of_fl se sq st av an ac us wr HR.out.2.1.len HR.out.2.1.at_ HR.out.2.1.big)
                    go_wp2_with fail
                    refine HOF.out.mono ?_
                    rintro e w6 ⟨⟨B1, k1, rfl, hf1, hnw1⟩, hb6⟩
                    have HR6 := Lib.hid (And.intro hh.out.1 (And.intro hh.out.2.1 (hh.out.2.2.below hb6)))
                    have hfar : ∀ b f, B1 = some ⟨b, f, none⟩ → Out x j xs b := fun b f hB => hh.out.2.2.tr.jr.out (by
                      rcases hnw1 with e | ⟨b', e, e', -⟩
                      · rw [e] at hB; cases hB
                      · rw [e] at hB; injection hB with hB; injection hB with hB
                        omega)
                    have hkn : k + gk = n := by
                      have h1 := hh.out.2.2.perm.length_eq
                      rw [List.length_append] at h1
                      have h2 := hh.out.1
                      have h3 := hh.out.2.1
                      have h4 := HN.out
                      omega
                    have HKN := Lib.hid hkn
                    have HPU := Lib.hid (JR.push x w4.heap.size j sns xs told done.length se sq st B1 an k1 (us.map Int.toNat) w6 HR6.out.2.2.tr.jr (by have := HR6.out.2.1; omega) hf1 HR.out.2.1.big HR.out.2.1.lt hfar HR.out.2.1.w32.2.1 HR.out.2.1.w32.2.2 HR.out.2.1.w32.1.1 HR.out.2.1.w32.1.2)
                    clear hf1 hnw1 hfar hb6 hh HOF x0 x1 x2 x3 hkn
                    go_wp2_with fail
                    refine HPU.out.mono ?_
                    rintro e w7 ⟨kind, er, ov, j', sns', xs', mid, rfl, hp⟩
                    have HHH := Lib.hid (push_good HR6.out.2.2.si HR.out.2.2 HR.out.2.1.w32 (HR6.out.2.2.new HWQ.out.dist HR.out.1) HR6.out.2.2.tr.jr.jp hp.out.how)
                    have her := HHH.out.1
                    have hk2 : (kind == 2) = false := by simpa using HHH.out.2.1
                    subst her
                    obtain ⟨oA, oc, hov⟩ := hp.out.out.slice
                    subst hov
                    clear HPU
                    go_upto_region 43 with fail
                    go_cut [22] (fun v wx => v = .bool (f && decide (kind = 1)) ∧ w7 = wx)
                    case first =>
                      cases f
                      · go_wp2_with fail
                        go_meet
                        exact ⟨rfl, rfl⟩
                      · by_cases ck : kind = 1
                        · subst ck
                          go_wp2_with fail
                          go_meet
                          exact ⟨rfl, rfl⟩
                        · have ck' : (kind == 1) = false := by simpa using ck
                          go_wp2_with fail
                          go_meet
                          exact ⟨by rw [decide_eq_false ck]; rfl, rfl⟩
                    case rest =>
                      obtain ⟨rfl, rfl⟩ := hcut
                      have HQ := Lib.hid (HR6.out.2.2.tr.pushed hp.out)
                      have HO := Lib.hid hp.out.out
                      have HLP := Lib.hid ((show LG wq w6 x j xs u21 g c5 lf from by
                        rcases HR6.out.2.2.left with e | ⟨g', e, e'⟩
                        · have h := HR6.out.1
                          rw [e] at h
                          simp only [List.length_nil] at h
                          have := HPL.out
                          omega
                        · injection e with e
                          injection e with e
                          subst e
                          exact e').pushed hp.out)
                      have HTO := Lib.hid (HR6.out.2.2.tok.pushed HR6.out.2.2.tr HR6.out.2.2.ag hp.out)
                      obtain ⟨pl, hpl⟩ : ∃ y, (told ++ mid).length = y := ⟨_, rfl⟩
                      have HPLN := Lib.hid hpl
                      have hpb : pl ≤ 1099511627776 := by have := HQ.out.jr.len; have := HR6.out.2.1; have := HKN.out; omega
                      clear hpl
                      go_wp2_with (at_builtin; refine wpList_append_els _ rfl (.tmp 169) (.tmp 170) 41 wq.heap.size w6.heap.size rfl Tryz.underlying41 u21 _ told mid rfl rfl HQ.out.row HQ.out.bel.size HO.out (by have h := HPLN.out; rw [List.length_append] at h; omega) ?_; intro v8 w8 hr8 hg8 ha8; have HT8 := Lib.hid (HQ.out.append hr8 hg8 ha8); have HL8 := Lib.hid (HLP.out.appended hg8 ha8); have HO8 := Lib.hid (HTO.out.appended hg8 ha8); obtain ⟨tA, tc, hv8⟩ := hr8.slice; rw [HPLN.out] at hv8; subst hv8; clear hr8 hg8 ha8)
                      have HD := Lib.hid ((Below.refl w8.heap.size w8).drew)
                      obtain ⟨AD, hAD, hda⟩ := (HL8.out.below HD.out).lf.args (i := ii) (by have := hii.out; have := HR6.out.1; omega)
                      have hlen := HR6.out.1
                      have HS1 := Lib.hid (show (flat4 (lf.drop (ii + 1))).length = (gk - (ii + 1)) * 4 by rw [hda.len, hlen])
                      have HS2 := Lib.hid hda.cells
                      have HS3 := Lib.hid hda.one
                      have HS4 := Lib.hid hda.spare
                      have hroom : ii + (gk - (ii + 1)) ≤ c5 := by have := hda.room; rw [hlen] at this; exact this
                      have hic : ii ≤ c5 := by omega
                      have hc5 : c5 ≤ 9223372036854775807 := HL8.out.lf.cm
                      obtain ⟨i0, hi00, hz0, hz1, hz2⟩ := info_parts infoR
                      have hkk : k + gk ≤ 60 := by have := HKN.out; omega
                      have hwr : IntKind.i64.wrap ((ii : Int) + 1) = (ii : Int) + 1 := by rw [IntKind.wrap_i64]; omega
                      have hp0 : (0 : Int) ≤ (ii : Int) + 1 := by omega
                      have hp1 : (ii : Int) + 1 ≤ (gk : Int) := by omega
                      have hp2 : ((ii : Int) + 1).toNat = ii + 1 := by omega
                      have HRD8 := Lib.hid (RD.step (W5 := w8.drew) HR6.out.2.2 HR.out.1 HHH.out.2.2.1 HHH.out.2.2.2 rfl (HT8.out.below HD.out) (HL8.out.below HD.out) rfl (fun g' hg' => by
                        injection hg' with hg'
                        injection hg' with hg'
                        subst hg'
                        exact ⟨HL8.out.out, HL8.out.lf.lt⟩) (fun e he => ⟨(HO8.out e he).1.below HD.out, (HO8.out e he).2⟩))
                      have HER := Lib.hid (show (lf.eraseIdx ii).length = gk - 1 by rw [List.length_eraseIdx_of_lt (by omega), hlen])
                      clear hda HLP HTO HQ HO hp hlen
                      go_region_law (refine step_append_room rfl (.tmp 174) (.tmp 178) 23 rfl 35 i0 4 Tryz.underlying23 hi00 hz1 g 0 ii c5 (by simp [Act.eval, Act.put]) AD (gk - (ii + 1)) (c5 - (ii + 1)) (flat4 (lf.drop (ii + 1))) (by simp [Act.eval, Act.put]) HS1.out HS2.out HS3.out hroom HS4.out ?_)
                      go_wp2_with fail
                      go_roundg (gk - 1)
                      case measure => omega
                      case rel => exact ⟨k + 1, j', sns', xs', told ++ mid, lf.eraseIdx ii, done ++ [⟨at_, se, sq, st, av, an, ac, us⟩], f && decide (kind = 1), by rw [show ii + (gk - (ii + 1)) = gk - 1 by omega], rfl, by go_num, Lib.hid ⟨HER.out, by rw [List.length_append, List.length_singleton, HR6.out.2.1], by have h := HRD8.out; rw [Nat.zero_add] at h; exact h⟩⟩
              · have hg0 : gk = 0 := by omega
                subst hg0
                have hlf : lf = [] := List.length_eq_zero_iff.1 hh.out.1
                subst hlf
                have hdn : done.length ≤ 60 := by
                  have h1 := hh.out.2.2.perm.length_eq
                  rw [List.append_nil] at h1
                  have h4 := HN.out
                  omega
                have HFL := Lib.hid (JR.flush x w4.heap.size j sns xs told done.length wr hh.out.2.2.tr.jr (by omega))
                go_wp2_with fail
                refine HFL.out.mono ?_
                rintro e w6 ⟨ov, j', mid, rfl, hp⟩
                have HQ := Lib.hid (hh.out.2.2.tr.flushed hp.out)
                have HO := Lib.hid hp.out.out
                have HTO := Lib.hid (hh.out.2.2.tok.flushed hh.out.2.2.tr hh.out.2.2.ag hp.out)
                have HEQ : Hid (f = true → (told ++ mid).map El.key = zs.map El.key) := Lib.hid (fun hf => by
                  have h := hh.out.2.2
                  rw [hf] at h
                  exact h.told hp.out (HWQ.out.below h.tr.bel))
                obtain ⟨oA, oc, hov⟩ := hp.out.out.slice
                subst hov
                obtain ⟨pl, hpl⟩ : ∃ y, (told ++ mid).length = y := ⟨_, rfl⟩
                have HPLN := Lib.hid hpl
                have hpb : pl ≤ 1099511627776 := by have := HQ.out.jr.len; omega
                clear hpl hp HFL hh
                go_upto_region 47 with (at_builtin; refine wpList_append_els _ rfl (.tmp 180) (.tmp 182) 41 wq.heap.size wr.heap.size rfl Tryz.underlying41 u21 _ told mid rfl rfl HQ.out.row HQ.out.bel.size HO.out (by have h := HPLN.out; rw [List.length_append] at h; omega) ?_; intro v8 w8 hr8 hg8 ha8; have HT8 := Lib.hid (HQ.out.append hr8 hg8 ha8); have HO8 := Lib.hid (HTO.out.appended hg8 ha8); obtain ⟨tA, tc, hv8⟩ := hr8.slice; rw [HPLN.out] at hv8; subst hv8; clear hr8 hg8 ha8)
                have HW8 := Lib.hid (HWQ.out.below HT8.out.bel)
                have HB8 := Lib.hid (back_of hbq.out HT8.out.bel)
                have hwq : IntKind.i64.wrap (q + 1) = q + 1 := by rw [IntKind.wrap_i64]; omega
                clear HQ HO HTO
                cases f
                · go_wp2_with fail
                  go_roundw
                  case rel => exact ⟨q + 1, by omega, by omega, rfl, HB8⟩
                  case measure => simp [intOf]; omega
                · have HS := Lib.hid (tsame_any (.slice tA pl tc) vd (told ++ mid) zs w8 HT8.out.row.tl HW8.out.row (fun e he => (HO8.out e he).1) HW8.out.ok (by have := HPLN.out; omega))
                  rw [decide_eq_true (HEQ.out rfl)] at HS
                  go_wp2_with fail
                  refine HS.out.mono ?_
                  rintro e w9 ⟨rfl, hb9⟩
                  have HB9 := Lib.hid (back_of HB8.out hb9)
                  clear HS hb9
                  go_wp2_with fail
                  go_roundw
                  case rel => exact ⟨q + 1, by omega, by omega, rfl, HB9⟩
                  case measure => simp [intOf]; omega
        · have HB := Lib.hid (back_of HW.out.bel hbq.out)
          go_wp2_with fail
          refine (awake_join wq).mono ?_
          rintro e w5 ⟨rfl, hb5⟩
          go_wp2_with fail
          go_ret
          exact ⟨rfl, back_of HB.out hb5⟩
end Go.Proofs.YtebacmmfjadalaaGreat
