/- G3 in one text. -/
import Derived.Test.YtebacmmfjadalaaGreatP19
import Derived.Deep.DeepCutAuto

namespace Go.Proofs.YtebacmmfjadalaaGreat
open Go Go.RowKit

set_option maxRecDepth 100000 in
set_option maxHeartbeats 16000000 in
theorem push_take (x B : Nat) (j : Jn) (sns : List Sn) (xs : List El) (se : Nat) (sq st : Int) (A : Option Addr) (n c : Nat) (bs : List Nat) (w0 w : World) (hi : Inv w0 w x B j sns xs) (hfl : FlAt w A n bs) (hl : n * 8 ≤ 140737488355328) (hlt64 : Lt64 bs) (hfar : ∀ b f, A = some ⟨b, f, none⟩ → b ≠ x ∧ j.sen.ownBlock ≠ some b ∧ j.wait.ownBlock ≠ some b) (hvi : VI w B j.wait xs) (hq : chkE se n bs = 0) (s : Sn) (hs : sns[se]? = some s) (st0 : 0 ≤ st) (st1 : st ≤ 4294967295) (hsb : ∀ g, j.sen.ownBlock = some g → g < B) (cnt t : Int) (u1 : Ck.unwV s.last st = cnt) (u2 : Ck.unwE s.last st = 0) (t1 : Ck.timeV s.o s.n s.d cnt = t) (t2 : Ck.timeE s.o s.n s.d cnt = 0) (q0 : 0 ≤ sq) (q1 : sq ≤ 4294967295) (m0 : 0 ≤ s.most) (m1 : s.most ≤ 4294967295) (dn : Nat) (hdn : (s.most - sq) % 4294967296 = (dn : Int)) (hno : below' s sq = false ∨ (dn < 64 ∧ s.most - sq = (dn : Int) ∧ bitAt s dn = false)) (hlate : j.some = false ∨ j.hor ≤ t)
    (m : Nat) (hm : xs.length = m) (hm2 : m < 4096) (c0 : 0 ≤ j.ct) (c1 : j.ct ≤ 4611686018427387904) (k0 : 0 ≤ j.cs) (k1 : j.cs ≤ 4611686018427387904) (b3 : -2251799813685248 ≤ j.top) (b4 : j.top ≤ 2251799813685248) (b5 : 0 ≤ j.win) (b6 : j.win ≤ 2251799813685248) :
    Calls Tryz.prog 12 #[.pointer (some ⟨x, 0, none⟩), .agg #[.int .i64 se, .int .u32 sq, .int .u32 st, .slice A n c]] w fun e w' => ∃ ov v' e0 sb, e = .returned (.tuple #[.int .i64 1, ov, .int .i64 0]) ∧ Hid (j.sen.ownBlock = some sb ∧ e0.key = t :: (se : Int) :: sq :: st :: (n : Int) :: bs.map keyN ∧ Took w w' x B sb se j sns xs s sq cnt t e0 ov v') := by
  have hi := hi.rebase
  have HJ := Lib.hid (And.intro hi (And.intro hvi hs))
  have HVAL := Lib.hid (And.intro hfl (And.intro hlt64 hfar))
  obtain ⟨S, win, V, sm, top, hor, ct, cd, co, cl, cs⟩ := j
  have hxB := hi.xB
  have hxw : x < w.heap.size := by have := hi.big; have := hi.xB; omega
  have hb1 := (Below.refl w.heap.size w).alloc (Nat.le_refl _) (.cells #[.int .i64 se, .int .u32 sq, .int .u32 st, .slice A n c] 38)
  have hi1 := hi.below hb1
  have HI1 := Lib.hid hi1
  have HB1 := Lib.hid hb1
  have HPC := Lib.hid (pcheck_any se sq st A n c bs _ (hfl.below hb1) hl)
  rw [hq] at HPC
  obtain ⟨sb, scap, hgv, hg1, hg2, hsa, hsz⟩ := hi.sn.at hs
  simp only at hgv
  subst hgv
  obtain ⟨so, sn', sd, slast, ssm, smost, staken⟩ := s
  have HSA := Lib.hid hsa
  obtain ⟨snl, hsnl⟩ : ∃ y, sns.length = y := ⟨_, rfl⟩
  have hsel : se < snl := by rw [← hsnl]; exact (List.getElem?_eq_some_iff.1 hs).1
  have hsel' : (se : Int) < (snl : Int) := by omega
  have hse0 : (0 : Int) ≤ (se : Int) := by omega
  have HSNL := Lib.hid hsnl
  clear hi hsa hfl hq hs hsnl hvi hlt64 hfar
  unfold below' at hno
  simp only at hno hdn c0 c1 k0 k1 b3 b4 b5 b6 hlate
  have hsb := hsb sb rfl
  simp only at u1 u2 t1 t2 m0 m1
  have HUN := Lib.hid (fun W => unwrap_any slast st W st0 st1)
  rw [u1, u2] at HUN
  have HTI := Lib.hid (fun W => time_any so sn' sd cnt W)
  rw [t1, t2] at HTI
  unfold clk at HTI
  have HTB := timeV_bd so sn' sd cnt
  rw [t1] at HTB
  obtain ⟨ht0, ht1⟩ := HTB
  clear u1 u2 t1 t2
  obtain ⟨b, hb⟩ : ∃ b, (ssm && decide (sq ≤ smost)) = b := ⟨_, rfl⟩
  rw [hb] at hno
  have HNO := Lib.hid hno
  have HTKN := Lib.hid (show ssm = true → sq ≤ smost → smost - sq < 64 from fun q1 q2 => by
    rw [q1, decide_eq_true q2] at hb
    rcases hno with h | ⟨h1, h2, -⟩
    · rw [h] at hb; cases hb
    · omega)
  have HBD := Lib.hid (And.intro hb hdn)
  have HLATE := Lib.hid hlate
  clear hno hb hdn hlate
  go_enter Tryz.func12, Tryz.ntmps12
  go_wp2_with fail
  refine (ready_any x true _ hi1.jn.2.2.2.2.2.2.2).mono ?_
  rintro e w1 ⟨rfl, rfl⟩
  go_wp2_with fail
  refine HPC.out.mono ?_
  rintro e w2 ⟨rfl, hb2⟩
  have HI2 := Lib.hid (hi1.below hb2)
  have hbb := HB1.out.trans (hb2.mono HB1.out.size)
  have HB2 := Lib.hid hbb
  have r0 : w2.cell? ⟨w.heap.size, 0, none⟩ = some (.int .i64 se) := (hb2.cell (p := ⟨w.heap.size, 0, none⟩) (by simp)).trans (by simp [go_sem])
  have r1 : w2.cell? ⟨w.heap.size, 1, none⟩ = some (.int .u32 sq) := (hb2.cell (p := ⟨w.heap.size, 1, none⟩) (by simp)).trans (by simp [go_sem])
  have r2 : w2.cell? ⟨w.heap.size, 2, none⟩ = some (.int .u32 st) := (hb2.cell (p := ⟨w.heap.size, 2, none⟩) (by simp)).trans (by simp [go_sem])
  have r3 : w2.cell? ⟨w.heap.size, 3, none⟩ = some (.slice A n c) := (hb2.cell (p := ⟨w.heap.size, 3, none⟩) (by simp)).trans (by simp [go_sem])
  have hbx : w.heap.size < w2.heap.size := Nat.lt_of_lt_of_le (by simp) hb2.size
  have HSA2 := Lib.hid (HSA.out.same (fun i => hbb.cell (p := ⟨sb, i, none⟩) hg2))
  have HZ2 := Lib.hid (fun i => (hbb.frozen (p := ⟨sb, i, none⟩) hg2).trans (hsz i))
  obtain ⟨s0, s1, s2, s3, s4, s5, s6⟩ := HSA2.out
  simp only at s0 s1 s2 s3 s4 s5 s6
  obtain ⟨g0, g1, g2, g3, g4, g5, ⟨g6, g7, g8, g9, g10⟩, g11⟩ := HI2.out.jn
  simp only at g0 g1 g2 g3 g4 g5 g6 g7 g8 g9 g10 g11
  rw [HSNL.out] at g0
  clear hi1 hb2 hbb HI1 HB1 HSA hsz
  generalize hbxe : w.heap.size = bx at *
  have HBXE := Lib.hid hbxe
  clear hbxe
  go_wp2_with fail
  go_region
  all_goals go_wp2_with fail
  go_region
  all_goals go_wp2_with fail
  go_region_held3 (fun w' => w'.cell? ⟨sb, se * 7 + 3, none⟩ = some (.int .i64 slast) ∧ w'.cell? ⟨bx, 2, none⟩ = some (.int .u32 st))
    (first | exact ⟨s3, r2⟩)
    (first | (go_at_call 31; refine (HUN.out _).mono ?_; rintro e w3 ⟨rfl, rfl⟩))
  go_wp2_with fail
  refine (HTI.out _).mono ?_
  rintro e w3 ⟨rfl, hb3⟩
  have hb23 : Below w2.heap.size w2 w3 := (Below.refl w2.heap.size w2).drew.drew.drew.trans hb3
  have HI3 := Lib.hid (HI2.out.below hb23)
  have HSA3 := Lib.hid (HSA2.out.same (fun i => hb23.cell (p := ⟨sb, i, none⟩) (Nat.lt_of_lt_of_le hsb HI2.out.big)))
  have HZS := Lib.hid (fun i => (hb23.frozen (p := ⟨sb, i, none⟩) (Nat.lt_of_lt_of_le hsb HI2.out.big)).trans (HZ2.out i))
  have HB3 := Lib.hid (HB2.out.trans (hb23.mono (Nat.le_of_lt hbx)))
  have p0 := (hb23.cell (p := ⟨bx, 0, none⟩) hbx).trans r0
  have p1 := (hb23.cell (p := ⟨bx, 1, none⟩) hbx).trans r1
  have p2 := (hb23.cell (p := ⟨bx, 2, none⟩) hbx).trans r2
  have p3 := (hb23.cell (p := ⟨bx, 3, none⟩) hbx).trans r3
  have hbx3 := Nat.lt_of_lt_of_le hbx hb23.size
  have HAG := Lib.hid (age_any sb (se * 7) _ sq w3 HSA3.out)
  simp only at HAG
  clear HTI HUN hb3 hb23 r0 r1 r2 r3 g0 g1 g2 g3 g4 g5 g6 g7 g8 g9 g10 g11 s0 s1 s2 s3 s4 s5 s6 HI2 HSA2 HZ2
  rw [HBD.out.1, HBD.out.2] at HAG
  go_wp2_with fail
  refine HAG.out.mono ?_
  rintro e w4 ⟨rfl, rfl⟩
  obtain ⟨g0, g1, g2, g3, g4, g5, ⟨g6, g7, g8, g9, g10⟩, g11⟩ := HI3.out.jn
  simp only at g0 g1 g2 g3 g4 g5 g6 g7 g8 g9 g10 g11
  have s6 := HSA3.out.2.2.2.2.2.2
  simp only at s6
  clear HAG
  go_upto_region 16 with (fail)
  go_cut [69] (fun v wx => v = .bool false ∧ w3.drew = wx)
  case first => as_aux_lemma =>
    have hno := HNO.out
    cases b
    · go_wp2_with fail
      go_meet
      exact ⟨rfl, rfl⟩
    · obtain ⟨h1, -, h3⟩ : dn < 64 ∧ smost - sq = (dn : Int) ∧ bitAt ⟨so, sn', sd, slast, ssm, smost, staken⟩ dn = false := by
        rcases hno with h | h
        · cases h
        · exact h
      unfold bitAt at h3
      simp only at h3
      clear hno
      have d1 : decide ((dn : Int) < 64) = true := by simp; omega
      have d2 : (dn : Int) < 64 := by omega
      go_wp2_with fail
      go_meet
      exact ⟨rfl, rfl⟩
  case rest => as_aux_lemma =>
    obtain ⟨rfl, rfl⟩ := hcut
    go_upto_region 19 with (fail)
    go_cut [94] (fun v wx => v = .bool false ∧ w3.drew = wx)
    case first => as_aux_lemma =>
      have hno := HNO.out
      cases b
      · go_wp2_with fail
        go_meet
        exact ⟨rfl, rfl⟩
      · obtain ⟨h1, -, -⟩ : dn < 64 ∧ smost - sq = (dn : Int) ∧ bitAt ⟨so, sn', sd, slast, ssm, smost, staken⟩ dn = false := by
          rcases hno with h | h
          · cases h
          · exact h
        clear hno
        have d3 : decide (64 ≤ (dn : Int)) = false := by simp; omega
        have d4 : ¬ 64 ≤ (dn : Int) := by omega
        go_wp2_with fail
        go_meet
        exact ⟨rfl, rfl⟩
    case rest => as_aux_lemma =>
      obtain ⟨rfl, rfl⟩ := hcut
      go_upto_region 22 with (fail)
      go_cut [109] (fun v wx => v = .bool false ∧ w3.drew = wx)
      case first => as_aux_lemma =>
        have hla := HLATE.out
        cases sm
        · clear hla
          go_wp2_with fail
          go_meet
          exact ⟨rfl, rfl⟩
        · have hlt : ¬ t < hor := by
            rcases hla with h | h
            · cases h
            · omega
          have d5 : decide (t < hor) = false := by simpa using hlt
          clear hla
          go_wp2_with fail
          go_meet
          exact ⟨rfl, rfl⟩
      case rest => as_aux_lemma =>
        obtain ⟨rfl, rfl⟩ := hcut
        obtain ⟨VA, VC, hV⟩ := HI3.out.row.slice
        simp only at hV
        rw [hm] at hV
        subst hV
        have hm3 : ¬ (4096 : Int) ≤ (m : Int) := by omega
        have hm4 : (m : Int) < 4096 := by omega
        go_upto_region 27 with (fail)
        have hxsb : x ≠ sb := fun e => HJ.out.1.sn.ne (congrArg some e.symm)
        have hg2' : sb < bx := hg2
        have hvo := HJ.out.1.row.old
        rw [HBXE.out] at hvo
        have HVB := Lib.hid (show ¬ (Value.slice VA m VC).ownBlock = some bx from hvo)
        have HF3 := Lib.hid (show Ft w w3 (fun k => k = x ∨ k = sb ∨ (Value.slice VA m VC).ownBlock = some k) from Ft.of_below (by rw [HBXE.out]; exact HB3.out) _)
        have HI5 := Lib.hid (((HI3.out.below ((Below.refl w3.heap.size w3).drew)).take rfl HJ.out.2.2 hsb hxsb sq))
        have HTK := Lib.hid (take_sets sb (se * 7) _ sq w3.drew (HSA3.out.same (fun i => rfl)) (fun i => HZS.out i) q0 (by omega) m0 (by simp only; omega) (fun hh1 hh2 => HTKN.out hh1 hh2))
        clear hvo s6
        go_wp2_with fail
        refine HTK.out.mono ?_
        rintro e w5 ⟨rfl, rfl⟩
        have y0 := (tkW_cell (w := w3.drew) (b := sb) (off := se * 7) (s := ⟨so, sn', sd, slast, ssm, smost, staken⟩) (q := sq) (a := ⟨bx, 0, none⟩) (by show bx ≠ sb; omega)).trans p0
        have y1 := (tkW_cell (w := w3.drew) (b := sb) (off := se * 7) (s := ⟨so, sn', sd, slast, ssm, smost, staken⟩) (q := sq) (a := ⟨bx, 1, none⟩) (by show bx ≠ sb; omega)).trans p1
        have y2 := (tkW_cell (w := w3.drew) (b := sb) (off := se * 7) (s := ⟨so, sn', sd, slast, ssm, smost, staken⟩) (q := sq) (a := ⟨bx, 2, none⟩) (by show bx ≠ sb; omega)).trans p2
        have y3 := (tkW_cell (w := w3.drew) (b := sb) (off := se * 7) (s := ⟨so, sn', sd, slast, ssm, smost, staken⟩) (q := sq) (a := ⟨bx, 3, none⟩) (by show bx ≠ sb; omega)).trans p3
        have hbx5 : bx < (tkW w3.drew sb (se * 7) ⟨so, sn', sd, slast, ssm, smost, staken⟩ sq).heap.size := by rw [tkW_size]; exact hbx3
        have HF5 := Lib.hid ((HF3.out.drew).tk (off := se * 7) (s := ⟨so, sn', sd, slast, ssm, smost, staken⟩) (q := sq) (b := sb) (.inr (.inl rfl)))
        clear HTK g0 g1 g2 g3 g4 g5 g6 g7 g8 g9 g10 g11 p0 p1 p2 p3 hbx3 HSA3 HZS HI3 HF3 HB3 HB2
        generalize tkW w3.drew sb (se * 7) ⟨so, sn', sd, slast, ssm, smost, staken⟩ sq = w5 at *
        have hsel2 : se < sns.length := (List.getElem?_eq_some_iff.1 HJ.out.2.2).1
        have hsI : (sns.set se (tk ⟨so, sn', sd, slast, ssm, smost, staken⟩ sq))[se]? = some (tk ⟨so, sn', sd, slast, ssm, smost, staken⟩ sq) := by rw [List.getElem?_set_self hsel2]
        have hlast : (tk ⟨so, sn', sd, slast, ssm, smost, staken⟩ sq).last = slast := by unfold tk; split <;> rfl
        obtain ⟨s', hs'⟩ : ∃ s', tk ⟨so, sn', sd, slast, ssm, smost, staken⟩ sq = s' := ⟨_, rfl⟩
        rw [hs'] at HI5 hsI hlast
        have HTKE := Lib.hid hs'
        obtain ⟨g', cap', hgv', _, _, hsa', hsz'⟩ := HI5.out.sn.at hsI
        have e1 : sb = g' := by injection hgv' with e1; injection e1 with e1; injection e1
        subst e1
        clear hgv'
        have s3 := hsa'.2.2.2.1
        rw [hlast] at s3
        have HSI := Lib.hid hsI
        have g6 := HI5.out.jn.2.2.2.2.2.2.1.1
        simp only at g6
        have g6f := HI5.out.fz 6
        have hsbx : ¬ sb = x := by omega
        have hxsb' : ¬ x = sb := by omega
        have HHL := Lib.hid hlast
        have s3f := hsz' (se * 7 + 3)
        clear hs' hsI hlast hsa' hsz' hsel2
        go_wp2_with fail
        have HI6 := Lib.hid ((HI5.out.last rfl HSI.out hsb hxsb (max slast cnt)).ct (ct + 1))
        have hbsb : bx ≠ sb := by omega
        have hbxx : bx ≠ x := by omega
        have z0 := (two_other (W := w5) (i := se * 7 + 3) (k := 6) (m := 0) (u := .int .i64 (max slast cnt)) (v := .int .i64 (ct + 1)) hbsb hbxx).trans y0
        have z1 := (two_other (W := w5) (i := se * 7 + 3) (k := 6) (m := 1) (u := .int .i64 (max slast cnt)) (v := .int .i64 (ct + 1)) hbsb hbxx).trans y1
        have z2 := (two_other (W := w5) (i := se * 7 + 3) (k := 6) (m := 2) (u := .int .i64 (max slast cnt)) (v := .int .i64 (ct + 1)) hbsb hbxx).trans y2
        have z3 := (two_other (W := w5) (i := se * 7 + 3) (k := 6) (m := 3) (u := .int .i64 (max slast cnt)) (v := .int .i64 (ct + 1)) hbsb hbxx).trans y3
        have hbx6 : bx < ((w5.setCell ⟨sb, se * 7 + 3, none⟩ (.int .i64 (max slast cnt))).setCell ⟨x, 6, none⟩ (.int .i64 (ct + 1))).heap.size := by simp [World.setCell]; exact hbx5
        have HF6 := Lib.hid ((HF5.out.set (p := ⟨sb, se * 7 + 3, none⟩) (.inr (.inl rfl)) (.int .i64 (max slast cnt))).set (p := ⟨x, 6, none⟩) (.inl rfl) (.int .i64 (ct + 1)))
        clear y0 y1 y2 y3 s3 s3f g6 g6f hbx5 HI5 HF5
        generalize (w5.setCell ⟨sb, se * 7 + 3, none⟩ (.int .i64 (max slast cnt))).setCell ⟨x, 6, none⟩ (.int .i64 (ct + 1)) = w6 at *
        have HV6 : Hid (VI w6 B (.slice VA m VC) xs) := Lib.hid (HJ.out.2.1.ft HF6.out (fun k hk => by
          rcases hk with rfl | rfl | h
          · exact .inl hxB
          · exact .inl hsb
          · exact .inr h))
        have HA6 : Hid (ElOk w6 ⟨t, se, sq, st, A, n, c, bs⟩) := Lib.hid (ElOk.keep (w := w) (e := ⟨t, se, sq, st, A, n, c, bs⟩) ⟨HVAL.out.1, HVAL.out.2.1, hl⟩ (fun b f hv => by
          have h1 := HVAL.out.2.2 b f hv
          have h0 : ElOk w ⟨t, se, sq, st, A, n, c, bs⟩ := ⟨HVAL.out.1, HVAL.out.2.1, hl⟩
          have hblt := h0.lt hv
          have hne : (Value.slice VA m VC).ownBlock ≠ some b := h1.2.2
          refine HF6.out.block b hblt ?_
          rintro (h | h | h)
          · exact h1.1 h
          · exact h1.2.1 (by rw [h]; rfl)
          · exact hne h))
        have HCO := Lib.hid (fun W (hW : Below w6.heap.size w6 W) => copied_any t se sq st A n c bs W (HA6.out.below hW).1 hl)
        have HPU := Lib.hid (fun W (hI : Inv w W x B ⟨.slice (some ⟨sb, 0, none⟩) sns.length scap, win, .slice VA m VC, sm, top, hor, ct + 1, cd, co, cl, cs⟩ ((sns.set se s').set se { s' with last := max slast cnt }) xs) B' kc hC =>
          hpush_any cmpK B ⟨x, 2, none⟩ (.slice VA m VC) xs m ⟨t, se, sq, st, B', n, kc, bs⟩ W hI.row hm hI.big hI.jn.2.2.1 (hI.fz 2) hI.xB (by omega) hC)
        simp only [El.val] at HPU
        have HV7 := Lib.hid (fun w7 B' kc (hb7 : Below w6.drew.heap.size w6.drew w7) (hf7 : FlAt w7 B' n bs) (hn7 : NewAt w7 w6.drew.heap.size B') => (show VI w7 B (.slice VA m VC) (xs ++ [⟨t, se, sq, st, B', n, kc, bs⟩]) from by
          have hb : Below w6.heap.size w6 w7 := (Below.refl _ _).drew.trans hb7
          refine VI.snoc (HV6.out.ft (Ft.of_below hb (fun _ => False)) (fun k hk => hk.elim)) ⟨⟨hf7, HVAL.out.2.1, hl⟩, fun b f hv hq => ?_, fun b f hv => ?_, ⟨⟨q0, q1⟩, st0, st1⟩⟩
          · have h2 := (HI6.out.row.lt hq).2
            rcases hn7 with h | ⟨b', h, h', -⟩
            · rw [h] at hv; cases hv
            · rw [h] at hv
              injection hv with hv
              injection hv with hv
              subst hv
              have : w6.heap.size ≤ b' := h'
              omega
          · rcases hn7 with h | ⟨b', h, h', -⟩
            · rw [h] at hv; cases hv
            · rw [h] at hv
              injection hv with hv
              injection hv with hv
              subst hv
              have h3 : w6.heap.size ≤ b' := h'
              have h4 := HI6.out.big
              omega))
        go_region_held3 (fun w' => w'.cell? ⟨bx, 0, none⟩ = some (.int .i64 se) ∧ w'.cell? ⟨bx, 1, none⟩ = some (.int .u32 sq) ∧ w'.cell? ⟨bx, 2, none⟩ = some (.int .u32 st) ∧ w'.cell? ⟨bx, 3, none⟩ = some (.slice A n c))
          (first | exact ⟨z0, z1, z2, z3⟩ | exact ⟨(hb7.cell (by exact hbx6)).trans z0, (hb7.cell (by exact hbx6)).trans z1, (hb7.cell (by exact hbx6)).trans z2, (hb7.cell (by exact hbx6)).trans z3⟩ | exact ⟨(hk8 0).trans z0, (hk8 1).trans z1, (hk8 2).trans z2, (hk8 3).trans z3⟩)
          (first | (go_at_call 36; refine (HCO.out _ (Below.refl w6.heap.size w6).drew).mono ?_; rintro e w7 ⟨B', kc, rfl, hf7, hn7, hb7⟩; have HI7 := Lib.hid (HI6.out.below ((Below.refl w6.heap.size w6).drew.trans hb7)); have HVV := Lib.hid (HV7.out w7 B' kc hb7 hf7 hn7); have HFR : Hid (∀ b f, B' = some ⟨b, f, none⟩ → w.heap.size ≤ b) := Lib.hid (fun b f hv => hn7.elim (fun h => by rw [h] at hv; cases hv) (fun ⟨b', h, h', _⟩ => by rw [h] at hv; injection hv with hv; injection hv with hv; subst hv; exact Nat.le_trans HF6.out.size h')); clear hf7 hn7) | (go_at_call 35; refine (HPU.out w7 HI7.out B' kc (HVV.out.cmp hxB)).mono ?_; rintro e w8 ⟨rfl, ⟨v8, hr8, hc8, ha8⟩, hF8⟩; have hk8 : ∀ i, w8.cell? ⟨bx, i, none⟩ = w6.cell? ⟨bx, i, none⟩ := (fun i => (World.cell?_of_block (hF8.block bx (Nat.lt_of_lt_of_le hbx6 hb7.size) (by exact hbxx) (fun e => HVB.out e.symm))).trans (hb7.cell (p := ⟨bx, i, none⟩) (by exact hbx6)))))
        have HI8 := Lib.hid (HI7.out.push rfl hsb hxsb hF8 hr8 hc8)
        have HV8 := Lib.hid ((HVV.out.push hxB hF8 ha8).sub (fun e he => upL_mem cmpK (m + 1) _ m e he))
        have HF8 := Lib.hid ((HF6.out.trans (Ft.of_below ((Below.refl w6.heap.size w6).drew.trans hb7) _)).then (Ft.of_fr hF8) (fun k hk h => h.elim .inl (fun h => .inr (.inr h))))
        have HA8 : Hid (v8.ownBlock = (Value.slice VA m VC).ownBlock ∨ ∃ g, v8.ownBlock = some g ∧ w.heap.size ≤ g) := Lib.hid (ha8.imp id (fun ⟨g, h1, h2⟩ => ⟨g, h1, by
          have h3 := HF6.out.size
          have h4 : w6.heap.size ≤ w7.heap.size := hb7.size
          omega⟩))
        clear hk8 hr8 hc8 ha8 hF8 hb7 HI7 HPU HI6 z0 z1 z2 z3 HCO HVV HV7 HV6 HA6 HF6
        go_wp2_with fail
        refine (rise_any x _ t w8 HI8.out.jn HI8.out.fz (by omega) (by omega) b3 b4 b5 b6).mono ?_
        rintro e w9 ⟨rfl, hj9, hch9⟩
        have hI9 := HI8.out.ch hch9 (by rintro a (rfl | rfl | rfl) <;> rfl) hj9 rfl rfl
        have hch := hI9.jn.2.2.2.2.2.1
        have HI9 := Lib.hid hI9
        have hft9 : Ft w8 w9 (fun k => k = x ∨ none = some k) := Ft.of_ch hch9 (by rintro a (rfl | rfl | rfl) <;> rfl)
        have HV9 := Lib.hid (HV8.out.ft hft9 (fun k hk => hk.elim (fun e => .inl (by rw [e]; exact hxB)) (fun e => by cases e)))
        have HF9 := Lib.hid (HF8.out.then hft9 (fun k _ hk => hk.elim .inl (fun e => by cases e)))
        clear hch9 hj9 hI9 HI8 hft9 HV8 HF8
        have HDU := Lib.hid (fun W (hI : Inv w W x B (riseJ ⟨.slice (some ⟨sb, 0, none⟩) sns.length scap, win, v8, sm, top, hor, ct + 1, cd, co, cl, cs⟩ t) ((sns.set se s').set se { s' with last := max slast cnt }) (upL cmpK (m + 1) (xs ++ [⟨t, se, sq, st, B', n, kc, bs⟩]) m)) hC =>
          due_walk cmpK B x v8 _ (riseH ⟨.slice (some ⟨sb, 0, none⟩) sns.length scap, win, v8, sm, top, hor, ct + 1, cd, co, cl, cs⟩ t) cs W hI.row hI.big hI.xB hI.jn.2.2.1 hI.jn.2.2.2.2.2.2.1.2.2.2.2 hI.fz (by rw [upL_len, List.length_append, hm]; simp; omega) k0 k1 hC)
        obtain ⟨RH, hRH⟩ : ∃ y, riseH ⟨.slice (some ⟨sb, 0, none⟩) sns.length scap, win, v8, sm, top, hor, ct + 1, cd, co, cl, cs⟩ t = y := ⟨_, rfl⟩
        have hch' : w9.cell? ⟨x, 5, none⟩ = some (.int .i64 RH) := by rw [← hRH]; exact hch
        rw [hRH] at HDU
        have HRH := Lib.hid hRH
        have HVD := Lib.hid (HV9.out.ft (w' := w9.drew) (Ft.of_below (Below.refl w9.heap.size w9).drew (fun _ => False)) (fun k hk => hk.elim))
        clear hch hRH
        go_wp2_with fail
        go_region_held3 (fun w' => w'.cell? ⟨x, 5, none⟩ = some (.int .i64 RH))
          (first | exact hch' | exact hk10)
          (first | (go_at_call 38; refine (HDU.out _ (HI9.out.below (Below.refl w9.heap.size w9).drew) (HVD.out.cmp hxB)).mono ?_; rintro e w10 ⟨ov, v10, rfl, ho, hr10, hc10, hv10, hs10, hch10⟩; have hI10 := (HI9.out.below (Below.refl w9.heap.size w9).drew).due rfl hsb hxsb hch10 hr10 hc10 hs10; have hk10 : w10.cell? ⟨x, 5, none⟩ = some (.int .i64 RH) := (by rw [← HRH.out]; exact hI10.jn.2.2.2.2.2.1)))
        have hft10 : Ft w9.drew w10 (fun k => k = x ∨ v8.ownBlock = some k) := Ft.of_ch hch10 (by rintro a (rfl | rfl) <;> rfl)
        have HFIN := Lib.hid (And.intro (And.intro ho hI10) (And.intro hv10 hft10))
        clear ho hI10 hk10 hr10 hc10 hv10 hs10 hch10 hft10 hch' HDU
        have hTook : Took w w10 x B sb se ⟨.slice (some ⟨sb, 0, none⟩) sns.length scap, win, .slice VA m VC, sm, top, hor, ct, cd, co, cl, cs⟩ sns xs ⟨so, sn', sd, slast, ssm, smost, staken⟩ sq cnt t ⟨t, se, sq, st, B', n, kc, bs⟩ ov v10 := by as_aux_lemma =>
          obtain ⟨⟨f1, f2⟩, f3, f4⟩ := HFIN.out
          have hl : (upL cmpK (m + 1) (xs ++ [(⟨t, se, sq, st, B', n, kc, bs⟩ : El)]) m).length + 1 = m + 2 := by rw [upL_len, List.length_append, hm]; rfl
          rw [hl] at f1 f2
          rw [List.set_set] at f2
          have htk : tkT ⟨.slice (some ⟨sb, 0, none⟩) sns.length scap, win, .slice VA m VC, sm, top, hor, ct, cd, co, cl, cs⟩ xs t ⟨t, se, sq, st, B', n, kc, bs⟩ = dueL cmpK (m + 2) (upL cmpK (m + 1) (xs ++ [⟨t, se, sq, st, B', n, kc, bs⟩]) m) RH [] := by
            unfold tkT
            rw [hm]
            rw [← HRH.out]
            rfl
          have htl : tkL ⟨so, sn', sd, slast, ssm, smost, staken⟩ sq cnt = { s' with last := max slast cnt } := by unfold tkL; rw [HTKE.out]
          have hsz9 : w.heap.size ≤ w9.heap.size := HF9.out.size
          refine ⟨?_, ?_, ?_, ?_, fun g hg hq => ?_, ?_, HFR.out⟩
          · rw [htk]; exact f1.mono hsz9
          · rw [htk, htl]; exact f2
          · rw [htk]
            have hv := HVD.out.ft f4 (fun k hk => hk.imp (fun e => by rw [e]; exact hxB) id)
            intro e he
            rcases due_mem _ _ _ _ e he with h | h
            · simp at h
            · obtain ⟨h1, h2, h3, h4⟩ := hv e h
              exact ⟨h1, by rw [f3]; exact h2, h3, h4⟩
          · refine HF9.out.drew.then f4 (fun k hk h => ?_)
            rcases h with h | h
            · exact .inl h
            · rcases HA8.out with h1 | ⟨g, h1, h2⟩
              · exact .inr (.inr (by rw [← h1]; exact h))
              · rw [h1] at h
                injection h with h
                omega
          · have h1 := (f1.lt hg).1
            have h2 : w9.heap.size ≤ g := h1
            rw [f3] at hq
            have h3 := (HI9.out.row.lt hq).2
            omega
          · rcases HA8.out with h1 | ⟨g, h1, h2⟩
            · exact .inl (by rw [f3]; exact h1)
            · exact .inr ⟨g, by rw [f3]; exact h1, h2⟩
        have HTOOK := Lib.hid hTook
        clear hTook HFIN HF9 HVD HI9 HA8 HV9 HRH HTKE HJ HVAL
        go_wp2_with fail
        go_ret3
        exact ⟨ov, v10, _, sb, rfl, Lib.hid ⟨rfl, rfl, HTOOK.out⟩⟩
end Go.Proofs.YtebacmmfjadalaaGreat
