/- V7 in one text. -/
import Derived.Test.YtebacmmfjadalaaGreatP44
import Derived.Test.YtebacmmfjadalaaGreatP49
import Derived.Deep.LoopGhost
import Derived.Deep.DeepCutAuto
import Derived.Deep.QuietTactic
import Derived.BigQuiet

namespace Go.Proofs.YtebacmmfjadalaaGreat
open Go Go.RowKit

/-- what a push of the reference's leaves -/
structure OPL (w w' : World) (cs : List (Int × Int × Int)) (y sb B : Nat) (o : OJ) (oss : List OS) (ys : List El) (A : Option Addr) (j' : Jn) (sns' : List Sn) (xs' mid : List El) (mv : Value) (o' : OJ) (oss' : List OS) (ys' mid' : List El) : Prop where
  oi : OI w' y sb B o' oss' ys'
  ro : RO cs j' sns' xs' o' oss' ys'
  cl : o'.cl = o.cl
  out : Row w.heap.size w' mv mid'
  keys : mid'.map El.key = mid.map El.key
  ok : ∀ e ∈ mid', ElOk w' e
  ft : Ft w w' (FO y sb o oss)
  own : ∀ b, FO y sb o' oss' b → FO y sb o oss b ∨ w.heap.size ≤ b
  new : ∀ e ∈ mid' ++ ys', e ∈ ys ∨ e.v = A

set_option maxRecDepth 100000 in
set_option maxHeartbeats 32000000 in
theorem opush_take (y sb B : Nat) (o : OJ) (oss : List OS) (ys : List El) (cs : List (Int × Int × Int)) (j : Jn) (sns : List Sn) (xs : List El) (sN : Nat) (sq st : Int) (A : Option Addr) (n c : Nat) (bs : List Nat) (w : World) (hi : OI w y sb B o oss ys) (hro : RO cs j sns xs o oss ys) (Ac : Option Addr) (cc : Nat) (hcl : o.cl = .slice Ac cs.length cc) (hc : ClRow w Ac cs)
    (hfl : FlAt w A n bs) (hl : n * 8 ≤ 140737488355328) (h64 : Lt64 bs) (hchk : chkE (sN : Int) n bs = 0) (s : Sn) (u : OS) (hs : sns[sN]? = some s) (hu : oss[sN]? = some u) (cnt t : Int) (u1 : Ck.unwV s.last st = cnt) (u2 : Ck.unwE s.last st = 0) (t1 : Ck.timeV s.o s.n s.d cnt = t) (t2 : Ck.timeE s.o s.n s.d cnt = 0) (st0 : 0 ≤ st) (st1 : st ≤ 4294967295) (q0 : 0 ≤ sq) (q1 : sq ≤ 4294967295) (told : List El) (hjp : JP j sns xs told) (c0 : 0 ≤ o.ct) (c1 : o.ct ≤ 1099511627775) (z0 : 0 ≤ o.cs) (z1 : o.cs ≤ 1099511627775) (hkn : known s sq = false) (hold : tooOld s sq = false) (hlate : j.some = false ∨ j.hor ≤ t) (hfar : ∀ b f, A = some ⟨b, f, none⟩ → OutO y sb o oss ys b ∧ B ≤ b) (hlen : ys.length < 4096)
    (e0 : El) (hkey : e0.key = t :: (sN : Int) :: sq :: st :: (n : Int) :: bs.map keyN) (v' : Value) :
    Calls Tryz.prog 13 #[.pointer (some ⟨y, 0, none⟩), .agg #[.int .i64 sN, .int .u32 sq, .int .u32 st, .slice A n c]] w fun e w' => ∃ mv o' oss' ys' mid', e = .returned (.tuple #[.int .i64 1, mv, .int .i64 0]) ∧ Hid (OPL w w' cs y sb B o oss ys A { riseJ j t with ct := j.ct + 1, wait := v', cs := j.cs + (tkT j xs t e0).1.length } (sns.set sN (tkL s sq cnt)) (tkT j xs t e0).2 (tkT j xs t e0).1 mv o' oss' ys' mid') := by
  have hfew : (u.ts.length : Int) ≤ 1099511627775 := by have := hro.few u (List.mem_of_getElem? hu); omega
  have HJP := Lib.hid hjp
  have HSU0 := Lib.hid (And.intro hs hu)
  have HKN := Lib.hid (And.intro hkn (And.intro hold hlate))
  have HFAR := Lib.hid hfar
  have HKEY := Lib.hid hkey
  have HLEN := Lib.hid hlen
  have HCB := Lib.hid (And.intro c0 (And.intro c1 (And.intro z0 z1)))
  clear hjp hkn hold hlate hfar hkey hlen c0 c1 z0 z1
  have HOI := Lib.hid hi
  have HRO := Lib.hid hro
  have HRS := Lib.hid (hro.sn sN s u hs hu)
  have hyw : y < w.heap.size := by have := hi.big; have := hi.yB; omega
  have hsw : sb < w.heap.size := by have := hi.big; have := hi.sB; omega
  obtain ⟨m, hm⟩ : ∃ m, cs.length = m := ⟨_, rfl⟩
  have HM := Lib.hid hm
  have hsm : sN < m := by
    have := (List.getElem?_eq_some_iff.1 hu).1
    have := hro.olen
    omega
  obtain ⟨SA, SC, hsen, hsa⟩ := hi.sen
  rw [hro.olen, hm] at hsen hsa
  have hsa : SA = some ⟨sb, 0, none⟩ := by
    rcases hsa with h | h
    · omega
    · exact h
  subst hsa
  rw [hm] at hcl
  obtain ⟨cb, coff, hAc, hcb, hcl0⟩ := hc.at sN (by omega)
  subst hAc
  have hclk := hro.clk sN s hs
  have hk1 : (cs.getD sN (0, 0, 0)).1 = s.o := by rw [← hclk]
  have hk2 : (cs.getD sN (0, 0, 0)).2.1 = s.n := by rw [← hclk]
  have hk3 : (cs.getD sN (0, 0, 0)).2.2 = s.d := by rw [← hclk]
  rw [hk1, hk2, hk3] at hcl0
  obtain ⟨k0, k1, k2⟩ := hcl0
  have hb1 := (Below.refl w.heap.size w).alloc (Nat.le_refl _) (.cells #[.int .i64 sN, .int .u32 sq, .int .u32 st, .slice A n c] 38)
  have HCK := Lib.hid (rchk_any sN sq st A n c bs _ (hfl.below hb1) hl h64)
  rw [hchk] at HCK
  have HB1 := Lib.hid hb1
  have HSU := Lib.hid (And.intro hs hu)
  have HVAL := Lib.hid (And.intro hfl h64)
  have hsm0 : (0 : Int) ≤ (sN : Int) := by omega
  have hsm1 : (sN : Int) < (m : Int) := by omega
  have hsm2 : ¬ (m : Int) ≤ (sN : Int) := by omega
  obtain ⟨tA, tC, hutv⟩ := (hi.nums u (List.mem_of_getElem? hu)).slice
  obtain ⟨tn, htn⟩ : ∃ k, u.ts.length = k := ⟨_, rfl⟩
  rw [htn] at hutv
  have HTN := Lib.hid (And.intro htn hutv)
  have HUN := Lib.hid (fun W => runwrap_any s.last st W st0 st1)
  rw [u1, u2] at HUN
  have HTI := Lib.hid (fun W => Bg.rtime_any s.o s.n s.d cnt W)
  rw [t1, t2] at HTI
  unfold clk at HTI
  have HCNT := Lib.hid (And.intro u1 (And.intro u2 (And.intro t1 t2)))
  have HBT := Lib.hid (timeV_bd s.o s.n s.d cnt)
  rw [t1] at HBT
  have hul : u.last = s.last := HRS.out.last
  obtain ⟨ulast, h1⟩ : ∃ x, s.last = x := ⟨_, rfl⟩
  rw [h1] at HUN hul
  obtain ⟨utop, h2⟩ : ∃ x, u.top = x := ⟨_, rfl⟩
  obtain ⟨uany, h3⟩ : ∃ x, u.any = x := ⟨_, rfl⟩
  obtain ⟨uts, h4⟩ : ∃ x, u.ts = x := ⟨_, rfl⟩
  obtain ⟨so, h5⟩ : ∃ x, s.o = x := ⟨_, rfl⟩
  obtain ⟨sn_, h6⟩ : ∃ x, s.n = x := ⟨_, rfl⟩
  obtain ⟨sd, h7⟩ : ∃ x, s.d = x := ⟨_, rfl⟩
  rw [h5, h6, h7] at HTI
  rw [h5] at k0
  rw [h6] at k1
  rw [h7] at k2
  have hfewt : tn ≤ 1099511627775 := by omega
  have HUF := Lib.hid (And.intro hul (And.intro h2 (And.intro h3 h4)))
  have htn' : uts.length = tn := by rw [← h4]; exact htn
  have S := hi.sn sN _ hu
  have s0 := S 0 (by omega)
  have s1 := S 1 (by omega)
  have s2 := S 2 (by omega)
  have s3 := S 3 (by omega)
  simp only [OS.row, List.getElem?_cons_zero, List.getElem?_cons_succ, Nat.add_zero] at s0 s1 s2 s3
  rw [hul] at s0
  rw [h2] at s1
  rw [h3] at s2
  rw [hutv] at s3
  obtain ⟨WA, WC, hwv⟩ := hi.row.slice
  obtain ⟨wn, hwn⟩ : ∃ k, ys.length = k := ⟨_, rfl⟩
  have HWN := Lib.hid hwn
  rw [hwn] at hwv
  have HWV := Lib.hid hwv
  have hg0 := hi.at_ 0 (by omega)
  simp only [OJ.row, List.getElem?_cons_zero] at hg0
  rw [hcl] at hg0
  have g0 := hg0
  have hg2 := hi.at_ 2 (by omega)
  simp only [OJ.row, List.getElem?_cons_zero, List.getElem?_cons_succ] at hg2
  rw [hsen] at hg2
  have g2 := hg2
  have hct : uts.length = tn := htn'
  have HBO := Lib.hid (show 0 ≤ utop ∧ utop ≤ 4294967295 by rw [← h2]; exact HRS.out.bd)
  have hoh : hasO uany utop uts sq = known s sq := by rw [← h2, ← h3, ← h4]; exact HRS.out.has sq q0 q1
  have hoo : oldO uany utop sq = tooOld s sq := by rw [← h2, ← h3]; exact HRS.out.old
  have HHO := Lib.hid (And.intro hoh hoo)
  have HCLS := Lib.hid (And.intro hcl hsen)
  clear hi hro hc hfl h64 hchk hs hu u1 u2 t1 t2 hm hclk hk1 hk2 hk3 htn hutv S hwn hb1 hul h1 h2 h3 h4 h5 h6 h7 htn' hg0 hg2 hwv hct hoh hoo hcl hsen
  go_enter Tryz.func13, Tryz.ntmps13
  go_wp2_with fail
  refine HCK.out.mono ?_
  rintro e w2 ⟨rfl, hb2⟩
  have hbb := HB1.out.trans (hb2.mono HB1.out.size)
  have r0 : w2.cell? ⟨w.heap.size, 0, none⟩ = some (.int .i64 sN) := (hb2.cell (p := ⟨w.heap.size, 0, none⟩) (by simp)).trans (by simp [go_sem])
  have r1 : w2.cell? ⟨w.heap.size, 1, none⟩ = some (.int .u32 sq) := (hb2.cell (p := ⟨w.heap.size, 1, none⟩) (by simp)).trans (by simp [go_sem])
  have r2 : w2.cell? ⟨w.heap.size, 2, none⟩ = some (.int .u32 st) := (hb2.cell (p := ⟨w.heap.size, 2, none⟩) (by simp)).trans (by simp [go_sem])
  have r3 : w2.cell? ⟨w.heap.size, 3, none⟩ = some (.slice A n c) := (hb2.cell (p := ⟨w.heap.size, 3, none⟩) (by simp)).trans (by simp [go_sem])
  have hbx2 : w.heap.size < w2.heap.size := Nat.lt_of_lt_of_le (by simp) hb2.size
  replace g0 := (hbb.cell (p := ⟨y, 0, none⟩) hyw).trans g0
  replace g2 := (hbb.cell (p := ⟨y, 2, none⟩) hyw).trans g2
  replace s0 := (hbb.cell (p := ⟨sb, sN * 4, none⟩) hsw).trans s0
  replace s1 := (hbb.cell (p := ⟨sb, sN * 4 + 1, none⟩) hsw).trans s1
  replace s2 := (hbb.cell (p := ⟨sb, sN * 4 + 2, none⟩) hsw).trans s2
  replace s3 := (hbb.cell (p := ⟨sb, sN * 4 + 3, none⟩) hsw).trans s3
  replace k0 := (hbb.cell (p := ⟨cb, coff + sN * 3, none⟩) hcb).trans k0
  replace k1 := (hbb.cell (p := ⟨cb, coff + sN * 3 + 1, none⟩) hcb).trans k1
  replace k2 := (hbb.cell (p := ⟨cb, coff + sN * 3 + 2, none⟩) hcb).trans k2
  have hy2 := Nat.lt_of_lt_of_le hyw hbb.size
  have hs2 := Nat.lt_of_lt_of_le hsw hbb.size
  have hc2 := Nat.lt_of_lt_of_le hcb hbb.size
  have HB2 := Lib.hid hbb
  clear hb2 hbb HCK HB1 hyw hsw hcb
  generalize hbxe : w.heap.size = bx at *
  have HBXE := Lib.hid hbxe
  clear hbxe
  go_wp2_with fail
  go_region
  all_goals go_wp2_with fail
  go_region
  all_goals go_wp2_with fail
  have hcur : Below w2.heap.size w2 w2.drew.drew.drew := (Below.refl _ _).drew.drew.drew
  go_region_held3 (fun w' => w'.cell? ⟨sb, sN * 4, none⟩ = some (.int .i64 ulast) ∧ w'.cell? ⟨bx, 2, none⟩ = some (.int .u32 st))
    (first | exact ⟨(hcur.cell (by exact hs2)).trans s0, (hcur.cell (by exact hbx2)).trans r2⟩)
    (first | (go_at_call 10; refine (HUN.out _).mono ?_; rintro e w3 ⟨rfl, hb3⟩; replace hcur := back_of hcur hb3; clear hb3))
  go_wp2_with fail
  replace hcur := hcur.drew
  go_region_held3 (fun w' => w'.cell? ⟨y, 0, none⟩ = some (.slice (some ⟨cb, coff, none⟩) m cc) ∧ w'.cell? ⟨bx, 0, none⟩ = some (.int .i64 sN) ∧ w'.cell? ⟨cb, coff + sN * 3, none⟩ = some (.int .i64 so) ∧ w'.cell? ⟨cb, coff + sN * 3 + 1, none⟩ = some (.int .i64 sn_) ∧ w'.cell? ⟨cb, coff + sN * 3 + 2, none⟩ = some (.int .i64 sd))
    (first | exact ⟨(hcur.cell (by exact hy2)).trans g0, (hcur.cell (by exact hbx2)).trans r0, (hcur.cell (by exact hc2)).trans k0, (hcur.cell (by exact hc2)).trans k1, (hcur.cell (by exact hc2)).trans k2⟩)
    (first | (go_at_call 11; refine (HTI.out _).mono ?_; rintro e w4 ⟨rfl, hb4⟩; replace hcur := back_of hcur hb4; clear hb4))
  go_wp2_with fail
  replace hcur := hcur.drew
  have hfew2 : tn ≤ 1099511627775 := hfewt
  have HHA := Lib.hid (fun W (hW : NumAt W tA tn uts) => ohas_any ulast utop uany tA tn tC uts sq W hW (by omega) q0 q1 HBO.out.1 HBO.out.2)
  have hnum : Hid (∀ W, Below w2.heap.size w2 W → NumAt W tA tn uts) := Lib.hid (fun W hW => by
    have h0 := HOI.out.nums _ (List.mem_of_getElem? HSU.out.2)
    rw [HTN.out.2, HUF.out.2.2.2] at h0
    have h := h0.num
    exact (h.below (by rw [HBXE.out]; exact HB2.out)).below hW)
  go_region_held3 (fun w' => w'.cell? ⟨sb, sN * 4, none⟩ = some (.int .i64 ulast) ∧ w'.cell? ⟨sb, sN * 4 + 1, none⟩ = some (.int .u32 utop) ∧ w'.cell? ⟨sb, sN * 4 + 2, none⟩ = some (.bool uany) ∧ w'.cell? ⟨sb, sN * 4 + 3, none⟩ = some (.slice tA tn tC) ∧ w'.cell? ⟨bx, 1, none⟩ = some (.int .u32 sq))
    (first | exact ⟨(hcur.cell (by exact hs2)).trans s0, (hcur.cell (by exact hs2)).trans s1, (hcur.cell (by exact hs2)).trans s2, (hcur.cell (by exact hs2)).trans s3, (hcur.cell (by exact hbx2)).trans r1⟩)
    (first | (go_at_call 39; refine (HHA.out _ (hnum.out _ hcur)).mono ?_; rintro e w5 ⟨rfl, hb5⟩; replace hcur := back_of hcur hb5; clear hb5))

  have hhas : hasO uany utop uts sq = false := HHO.out.1.trans HKN.out.1
  have holo : oldO uany utop sq = false := HHO.out.2.trans HKN.out.2.1
  rw [hhas]
  replace hcur := hcur.drew
  have HOL := Lib.hid (fun W => oold_any ulast utop uany tA tn tC sq W q0 q1 HBO.out.1 HBO.out.2)
  rw [holo] at HOL
  clear hhas holo HHA HTI HUN hnum HHO
  go_wp2_with fail
  go_region_held3 (fun w' => w'.cell? ⟨sb, sN * 4, none⟩ = some (.int .i64 ulast) ∧ w'.cell? ⟨sb, sN * 4 + 1, none⟩ = some (.int .u32 utop) ∧ w'.cell? ⟨sb, sN * 4 + 2, none⟩ = some (.bool uany) ∧ w'.cell? ⟨sb, sN * 4 + 3, none⟩ = some (.slice tA tn tC) ∧ w'.cell? ⟨bx, 1, none⟩ = some (.int .u32 sq))
    (first | exact ⟨(hcur.cell (by exact hs2)).trans s0, (hcur.cell (by exact hs2)).trans s1, (hcur.cell (by exact hs2)).trans s2, (hcur.cell (by exact hs2)).trans s3, (hcur.cell (by exact hbx2)).trans r1⟩)
    (first | (go_at_call 40; refine (HOL.out _).mono ?_; rintro e w6 ⟨rfl, hb6⟩; replace hcur := back_of hcur hb6; clear hb6))
  have HTOT := Lib.hid (show Below w.heap.size w w6 by rw [HBXE.out]; exact HB2.out.trans (hcur.mono (Nat.le_of_lt hbx2)))
  obtain ⟨r, hr⟩ : ∃ r : RB, r = ⟨(sN : Int), sq, st, A, n, c, bs⟩ := ⟨_, rfl⟩
  have HR := Lib.hid hr
  have HST6 : Hid (OST w w6 bx y sb B r o oss o oss ys) := Lib.hid (by
    rw [hr]
    exact ⟨HOI.out.below HTOT.out, ⟨(hcur.cell (p := ⟨bx, 0, none⟩) (by exact hbx2)).trans r0, (hcur.cell (p := ⟨bx, 1, none⟩) (by exact hbx2)).trans r1, (hcur.cell (p := ⟨bx, 2, none⟩) (by exact hbx2)).trans r2, (hcur.cell (p := ⟨bx, 3, none⟩) (by exact hbx2)).trans r3⟩, Nat.lt_of_lt_of_le hbx2 hcur.size, by rw [HBXE.out]; exact Nat.le_refl _, Ft.of_below HTOT.out _, fun b h => .inl h, fun h => by have := HOI.out.lt h; have := HBXE.out; omega, HVAL.out.1.below HTOT.out, fun b f e => ⟨(HFAR.out b f e).1, (HFAR.out b f e).2, by
      rcases HVAL.out.1.2 with ⟨h1, -⟩ | ⟨b', off, h1, h2, -⟩
      · rw [h1] at e; cases e
      · rw [h1] at e
        injection e with e
        injection e with e
        subst e
        exact Nat.lt_of_lt_of_le h2 HTOT.out.size⟩⟩)
  have HV64 := Lib.hid HVAL.out.2
  clear HOL g0 g2 k0 k1 k2 s0 s1 s2 s3 r0 r1 r2 r3 hcur hy2 hs2 hc2 hbx2 HFAR HB2 HTOT hr HVAL HOI
  obtain ⟨oany, hoany⟩ : ∃ x, o.any = x := ⟨_, rfl⟩
  obtain ⟨obound, hobound⟩ : ∃ x, o.bound = x := ⟨_, rfl⟩
  obtain ⟨oct, hoct⟩ : ∃ x, o.ct = x := ⟨_, rfl⟩
  have HOF := Lib.hid (And.intro hoany (And.intro hobound hoct))
  have hocb : 0 ≤ oct ∧ oct ≤ 1099511627775 := by rw [← hoct]; exact ⟨HCB.out.1, HCB.out.2.1⟩
  obtain ⟨oc0, oc1⟩ := hocb
  have G := HST6.out.oi.at_
  have g3 := G 3 (by omega)
  have g5 := G 5 (by omega)
  have g6 := G 6 (by omega)
  have g7 := G 7 (by omega)
  simp only [OJ.row, List.getElem?_cons_zero, List.getElem?_cons_succ] at g3 g5 g6 g7
  rw [HWV.out] at g3
  rw [hoany] at g5
  rw [hobound] at g6
  rw [hoct] at g7
  have f7 := HST6.out.oi.fy 7
  have hwn2 : ¬ (4096 : Int) ≤ (wn : Int) := by have := HWN.out; have := HLEN.out; omega
  have hwn3 : (wn : Int) < 4096 := by omega
  clear G hoany hobound hoct
  go_upto_region 19 with (fail)
  go_cut [96] from 15 to 108 (fun v wx => v = .bool false ∧ w6 = wx)
  case first => as_aux_lemma =>
    have hany := HOF.out.1.symm.trans HRO.out.any
    cases oany
    · clear hany
      go_wp2_with fail
      go_meet
      exact ⟨rfl, rfl⟩
    · have hlt : ¬ t < obound := by
        have hb : o.bound = j.hor := HRO.out.bound hany.symm
        have hb2 := HOF.out.2.1
        rcases HKN.out.2.2 with h | h
        · rw [← hany] at h; cases h
        · omega
      have hlt' : decide (t < obound) = false := by simpa using hlt
      clear hany
      go_wp2_with fail
      go_meet
      exact ⟨rfl, rfl⟩
  case rest =>
    obtain ⟨rfl, rfl⟩ := hcut
    go_upto_region 25 with (fail)
    obtain ⟨o1, ho1⟩ : ∃ o1, { o with ct := oct + 1 } = o1 := ⟨_, rfl⟩
    have HST7 : Hid (OST w (w6.setCell ⟨y, 7, none⟩ (.int .i64 (oct + 1))) bx y sb B r o oss o1 oss ys) := Lib.hid (HST6.out.cell (i := 7) (by omega) (by rw [← ho1]; rfl) (by rw [← ho1]) (by rw [← ho1]))
    have HO1 := Lib.hid ho1
    clear HST6 g3 g5 g6 g7 f7 ho1
    generalize w6.setCell ⟨y, 7, none⟩ (.int .i64 (oct + 1)) = w7 at *
    have S := HST7.out.oi.sn sN _ HSU.out.2
    have s3 := S 3 (by omega)
    simp only [OS.row, List.getElem?_cons_zero, List.getElem?_cons_succ] at s3
    rw [HTN.out.2] at s3
    have b1 := HST7.out.box.2.1
    rw [HR.out] at b1
    simp only at b1
    have hsw7 : sb < w7.heap.size := by have := HST7.out.oi.big; have := HST7.out.oi.sB; omega
    have fs3 := HST7.out.oi.fs (sN * 4 + 3)
    have HBA := Lib.hid (((Below.refl w7.heap.size w7).alloc (Nat.le_refl _) (.cells #[.int .u32 sq] 32)).drew)
    have HST8 := Lib.hid (HST7.out.below HBA.out)
    have HNR : Hid (NRow B ((w7.alloc (.cells #[.int .u32 sq] 32)).drew) (.slice tA tn tC) uts) := Lib.hid (by
      have h := HST8.out.oi.nums _ (List.mem_of_getElem? HSU.out.2)
      rw [HTN.out.2, HUF.out.2.2.2] at h
      exact h)
    have HXO := Lib.hid (show (Value.slice tA tn tC).ownBlock ≠ some sb from fun e => by have := (HNR.out.lt e).1; have := HST8.out.oi.sB; omega)
    have HTL := Lib.hid (show uts.length = tn by rw [← HUF.out.2.2.2]; exact HTN.out.1)
    have hl1 : (uts ++ [sq]).length = tn + 1 := by rw [List.length_append, HTL.out]; rfl
    have HL1 := Lib.hid hl1
    have HB7 := Lib.hid (Nat.le_trans HST7.out.oi.big HBA.out.size)
    have hkeepc : ((w7.alloc (.cells #[.int .u32 sq] 32)).drew).cell? ⟨sb, sN * 4 + 3, none⟩ = some (.slice tA tn tC) := (HBA.out.cell (p := ⟨sb, sN * 4 + 3, none⟩) (by exact hsw7)).trans s3
    have HKC := Lib.hid (And.intro hkeepc (And.intro ((HBA.out.frozen (p := ⟨sb, sN * 4 + 3, none⟩) (by exact hsw7)).trans fs3) (Nat.lt_of_lt_of_le hsw7 HBA.out.size)))
    have HFUN : Hid (∀ (A8 : Option Addr) (c8 : Nat) (w8 : World), NRow B w8 (.slice A8 (tn + 1) c8) (uts ++ [sq]) → ((w7.alloc (.cells #[.int .u32 sq] 32)).drew).grownBy w8 (Value.slice tA tn tC).ownBlock → ((Value.slice A8 (tn + 1) c8).ownBlock = (Value.slice tA tn tC).ownBlock ∨ (Value.slice A8 (tn + 1) c8).ownBlock = some ((w7.alloc (.cells #[.int .u32 sq] 32)).drew).heap.size) → OST w (w8.setCell ⟨sb, sN * 4 + 3, none⟩ (.slice A8 (tn + 1) c8)) bx y sb B r o oss o1 (oss.set sN { u with tv := .slice A8 (tn + 1) c8, ts := uts ++ [sq] }) ys) := Lib.hid (fun A8 c8 w8 p1 p2 p3 => by
      have h := HST8.out.tk (q := sq) (v' := .slice A8 (tn + 1) c8) HSU.out.2 (by rw [HTN.out.2]; exact p2) (by rw [HUF.out.2.2.2]; exact p1) (by rw [HTN.out.2]; exact p3)
      rw [HUF.out.2.2.2] at h
      exact h)
    clear S hl1 hkeepc HST8 HBA
    go_cut [12] from 134 to 144 (fun _ wx => ∃ A8 c8, Hid (OST w wx bx y sb B r o oss o1 (oss.set sN { u with tv := .slice A8 (tn + 1) c8, ts := uts ++ [sq] }) ys))
    case first =>
      clear HST7 HCNT HUF HTN HSU HRO HRS HKN HJP HKEY HLEN HCB HOF HO1 HR HWV HCLS HM HBT HBXE HWN
      go_region_law ((refine step_append_num rfl (.tmp 138) (.tmp 141) rfl (.slice tA tn tC) uts sq (by simp [Act.eval]) HNR.out HB7.out (by have h := HTL.out; omega) ⟨w7.heap.size, 0, none⟩ 1 (by simp [Act.eval]) (by simp [Addr.add, go_sem]) ?_); intro v8 w8 hr1 hg1 ha1; obtain ⟨A8, c8, hv1⟩ := hr1.slice; rw [HL1.out] at hv1; subst hv1; have y1 := (grownO_cell hg1 (p := ⟨sb, sN * 4 + 3, none⟩) HKC.out.2.2 HXO.out).trans HKC.out.1; have y2 := (grownO_frozen hg1 (p := ⟨sb, sN * 4 + 3, none⟩) HKC.out.2.2 HXO.out).trans HKC.out.2.1; have HOS := Lib.hid (HFUN.out A8 c8 w8 hr1 hg1 ha1); clear hr1 hg1 ha1)
      all_goals go_wp2_with fail
      all_goals go_meet
      all_goals exact ⟨A8, c8, HOS⟩
    case rest =>
      obtain ⟨A8, c8, HST9⟩ := hcut
      rename World => w9
      clear HFUN HST7 HNR s3 b1 fs3 HXO HL1 HB7 HKC
      obtain ⟨u9, hu9e⟩ : ∃ u9, ({ u with tv := .slice A8 (tn + 1) c8, ts := uts ++ [sq] } : OS) = u9 := ⟨_, rfl⟩
      rw [hu9e] at HST9
      have HU9E := Lib.hid hu9e
      clear hu9e
      have hsel : sN < oss.length := (List.getElem?_eq_some_iff.1 HSU.out.2).1
      have hu9 : (oss.set sN u9)[sN]? = some u9 := List.getElem?_set_self hsel
      have HU9 := Lib.hid (And.intro hsel hu9)
      have S := HST9.out.oi.sn sN _ hu9
      have s1 := S 1 (by omega)
      have s2 := S 2 (by omega)
      simp only [OS.row, List.getElem?_cons_zero, List.getElem?_cons_succ] at s1 s2
      rw [show u9.top = utop by rw [← HU9E.out]; exact HUF.out.2.1] at s1
      rw [show u9.any = uany by rw [← HU9E.out]; exact HUF.out.2.2.1] at s2
      have b1 := HST9.out.box.2.1
      rw [HR.out] at b1
      simp only at b1
      clear S hsel hu9
      go_upto_region 26 with fail
      go_cut [158] from 145 to 157 (fun v wx => v = .bool (decide (uany = false ∨ utop < sq)) ∧ ∃ k, w9.drewN k = wx)
      case first => as_aux_lemma =>
        clear HST9 HCNT HUF HTN HSU HRO HRS HKN HJP HKEY HLEN HCB HOF HO1 HR HWV HCLS HM HBT HBXE HWN
        cases uany
        · go_quiet (fail)
          go_wp2_with fail
          go_meet
          exact ⟨by simp, _, rfl⟩
        · by_cases hc : utop < sq
          · go_quiet (fail)
            go_wp2_with fail
            go_meet
            exact ⟨by simp [hc], _, rfl⟩
          · have hc' : decide (utop < sq) = false := by simpa using hc
            go_quiet (fail)
            go_wp2_with fail
            go_meet
            exact ⟨by simp [hc], _, rfl⟩
      case rest =>
        obtain ⟨rfl, kd, rfl⟩ := hcut
        have HST10 := Lib.hid (HST9.out.below (show Below w9.heap.size w9 (w9.drewN kd) from ⟨rfl, rfl, rfl, Nat.le_refl _, fun _ _ => rfl⟩))
        have hsw9 : sb < w9.heap.size := by have := HST9.out.oi.big; have := HST9.out.oi.sB; omega
        have F := HST10.out.oi.fs
        have f1 := F (sN * 4 + 1)
        have f2 := F (sN * 4 + 2)
        clear F HST9
        go_upto_if 158 with (fail)
        go_cut [12] from 158 to 166 (fun _ wx => ∃ u10, Hid (u10 = { u9 with top := topO u sq, any := true } ∧ OST w wx bx y sb B r o oss o1 (oss.set sN u10) ys))
        case first =>
          have htop : topO u sq = if uany = false ∨ utop < sq then sq else utop := by unfold topO; rw [HUF.out.2.2.1, HUF.out.2.1]
          have HTOP := Lib.hid htop
          clear htop
          by_cases hc : uany = false ∨ utop < sq
          · have hd : decide (uany = false ∨ utop < sq) = true := by simpa using hc
            have HH := Lib.hid hc
            rw [hd]
            clear hc hd
            go_wp2_with fail
            go_meet
            refine ⟨{ u9 with top := topO u sq, any := true }, Lib.hid ⟨rfl, ?_⟩⟩
            have h1 := HST10.out.sens (s' := { u9 with top := sq }) (j := 1) (u := .int .u32 sq) HU9.out.2 (by omega) rfl rfl rfl
            have h2 := h1.sens (i := sN) (s := { u9 with top := sq }) (s' := { u9 with top := sq, any := true }) (j := 2) (u := .bool true) (List.getElem?_set_self (by rw [List.length_set]; exact HU9.out.1)) (by omega) rfl rfl rfl
            rw [List.set_set, List.set_set] at h2
            rw [HTOP.out, if_pos HH.out]
            exact h2
          · have hd : decide (uany = false ∨ utop < sq) = false := by simpa using hc
            have HH := Lib.hid hc
            rw [hd]
            clear hc hd
            go_wp2_with fail
            go_meet
            refine ⟨u9, Lib.hid ⟨?_, HST10.out⟩⟩
            rw [HTOP.out, if_neg HH.out]
            have h1 : u9.any = uany := by rw [← HU9E.out]; exact HUF.out.2.2.1
            have h2 : u9.top = utop := by rw [← HU9E.out]; exact HUF.out.2.1
            have h3 : uany = true := by
              cases hq : uany with
              | true => rfl
              | false => exact absurd (.inl hq) HH.out
            rw [← h2]
            rw [h3] at h1
            rw [← h1]
        case rest =>
          obtain ⟨u10, HU10⟩ := hcut
          rename World => w11
          clear HST10 s1 s2 b1 f1 f2
          have hu10 : (oss.set sN u10)[sN]? = some u10 := List.getElem?_set_self HU9.out.1
          have s0 := HU10.out.2.oi.sn sN _ hu10 0 (by omega)
          simp only [OS.row, List.getElem?_cons_zero, Nat.add_zero] at s0
          rw [show u10.last = ulast by rw [HU10.out.1]; show u9.last = _; rw [← HU9E.out]; exact HUF.out.1] at s0
          have f0 := HU10.out.2.oi.fs (sN * 4)
          have HU11 := Lib.hid hu10
          clear hu10
          go_upto_region 29 with fail
          obtain ⟨uF, huF⟩ : ∃ x : OS, x = { u10 with last := max ulast cnt } := ⟨_, rfl⟩
          have HST12 : Hid (OST w (w11.setCell ⟨sb, sN * 4, none⟩ (.int .i64 (max ulast cnt))) bx y sb B r o oss o1 (oss.set sN uF) ys) := Lib.hid (by
            have h := HU10.out.2.sens (s' := uF) (j := 0) (u := .int .i64 (max ulast cnt)) HU11.out (by omega) (by rw [huF]; rfl) (by rw [huF]) (by rw [huF])
            rw [List.set_set] at h
            exact h)
          have HUFE : Hid (uF = ⟨max u.last cnt, topO u sq, true, .slice A8 (tn + 1) c8, u.ts ++ [sq]⟩) := Lib.hid (by
            rw [huF, HU10.out.1, ← HU9E.out, HUF.out.1, HUF.out.2.2.2])
          clear huF s0 f0 HU10 HU11
          generalize w11.setCell ⟨sb, sN * 4, none⟩ (.int .i64 (max ulast cnt)) = w12 at *
          have hwv1 : o1.wait = .slice WA wn WC := by rw [← HO1.out]; exact HWV.out
          have HWV1 := Lib.hid hwv1
          have y3 := HST12.out.oi.at_ 3 (by omega)
          simp only [OJ.row, List.getElem?_cons_zero, List.getElem?_cons_succ] at y3
          rw [hwv1] at y3
          have y3f := HST12.out.oi.fy 3
          have hbox := HST12.out.box
          rw [HR.out] at hbox
          obtain ⟨b0, b1, b2, b3⟩ := hbox
          simp only at b0 b1 b2 b3
          obtain ⟨e1, he1⟩ : ∃ e1 : El, e1 = ⟨t, sN, sq, st, A, n, c, bs⟩ := ⟨_, rfl⟩
          have HE1 := Lib.hid he1
          have HROW : Hid (Row B w12.drew (.slice WA wn WC) ys) := Lib.hid (by rw [← hwv1]; exact (HST12.out.oi.below (Below.refl w12.heap.size w12).drew).row)
          have HOK : Hid (∀ a ∈ ys ++ [e1], ElOk w12.drew a ∧ Away a (Value.slice WA wn WC).ownBlock ∧ W32 a) := Lib.hid (fun a ha => by
            rw [← HWV1.out]
            rcases List.mem_append.1 ha with h | h
            · obtain ⟨h1, h2, h3, -⟩ := HST12.out.oi.vals a h
              exact ⟨h1.below (Below.refl _ _).drew, h3, h2⟩
            · rw [List.mem_singleton.1 h, HE1.out]
              have hf := HST12.out.fl
              have hr := HST12.out.far
              rw [HR.out] at hf hr
              exact ⟨ElOk.below ⟨hf, HV64.out, hl⟩ (Below.refl _ _).drew, fun b f e q => (hr b f e).1.own (.inr (.inr (.inr q))), ⟨⟨q0, q1⟩, st0, st1⟩⟩)
          have HPU := Lib.hid (put_any B (.slice WA wn WC) ys e1 w12.drew HROW.out HST12.out.oi.big HOK.out (by have := HLEN.out; omega))
          rw [he1] at HPU
          simp only [El.val] at HPU
          rw [← he1] at HPU
          have HKP : Hid (∀ W, w12.drew.grownBy W (Value.slice WA wn WC).ownBlock → (W.cell? ⟨y, 3, none⟩ = some (.slice WA wn WC) ∧ W.cell? ⟨bx, 0, none⟩ = some (.int .i64 sN) ∧ W.cell? ⟨bx, 1, none⟩ = some (.int .u32 sq) ∧ W.cell? ⟨bx, 2, none⟩ = some (.int .u32 st) ∧ W.cell? ⟨bx, 3, none⟩ = some (.slice A n c)) ∧ W.frozen? ⟨y, 3, none⟩ = false) := Lib.hid (fun W hg => by
            have hyl : y < w12.heap.size := by have := HST12.out.oi.big; have := HST12.out.oi.yB; omega
            have hyn : some y ≠ (Value.slice WA wn WC).ownBlock := fun e => by have := (HROW.out.lt e.symm).1; have := HST12.out.oi.yB; omega
            have hbn : some bx ≠ (Value.slice WA wn WC).ownBlock := fun e => HST12.out.nb (.inr (.inr (.inr (by rw [HWV1.out]; exact e.symm))))
            have ey := hg.block y hyl hyn
            have eb := hg.block bx HST12.out.bl hbn
            exact ⟨⟨(World.cell?_of_block ey).trans y3, (World.cell?_of_block eb).trans b0, (World.cell?_of_block eb).trans b1, (World.cell?_of_block eb).trans b2, (World.cell?_of_block eb).trans b3⟩, (World.frozen?_of_block ey).trans y3f⟩)
          have HSL := Lib.hid (show (sinkL cmpK (ys.length + 1) (ys ++ [e1]) ys.length).length = wn + 1 by rw [sink_len, List.length_append, HWN.out]; rfl)
          clear hwv1 he1 hsw9 hsw7
          have HPUT : Hid (∀ (A9 : Option Addr) (c9 : Nat) (w13 : World), Row B w13 (.slice A9 (wn + 1) c9) (sinkL cmpK (ys.length + 1) (ys ++ [e1]) ys.length) → w12.drew.grownBy w13 (Value.slice WA wn WC).ownBlock → ((Value.slice A9 (wn + 1) c9).ownBlock = (Value.slice WA wn WC).ownBlock ∨ ∃ g, (Value.slice A9 (wn + 1) c9).ownBlock = some g ∧ w12.drew.heap.size ≤ g) → OSU w (w13.setCell ⟨y, 3, none⟩ (.slice A9 (wn + 1) c9)) y sb B o oss { o1 with wait := .slice A9 (wn + 1) c9 } (oss.set sN uF) (sinkL cmpK (ys.length + 1) (ys ++ [e1]) ys.length)) := Lib.hid (fun A9 c9 w13 p1 p2 p3 => by
            have h := HST12.out.osu.below (Below.refl w12.heap.size w12).drew
            refine h.put (by rw [HWV1.out]; exact p2) p1 (fun g hg => by rw [HWV1.out]; exact p3.imp (fun q => by rw [← q]; exact hg) (fun ⟨g', q, q'⟩ => by rw [q] at hg; injection hg with hg; omega)) (fun e he => ?_)
            have hmem : e ∈ ys ++ [e1] := (sink_perm cmpK _ _ _).mem_iff.1 he
            obtain ⟨h1, h2, h3⟩ := HOK.out e hmem
            have hnew : Away e (Value.slice A9 (wn + 1) c9).ownBlock := by
              rcases p3 with q | ⟨g, q, q'⟩
              · rw [q]; exact h2
              · rw [q]; exact Away.new h1 q'
            rcases List.mem_append.1 hmem with hm | hm
            · obtain ⟨-, -, -, h4, h5⟩ := h.oi.vals e hm
              exact ⟨h1.grown p2 h2, h3, hnew, h4, h5⟩
            · rw [List.mem_singleton.1 hm] at h1 h2 h3 hnew ⊢
              have hr := HST12.out.far
              rw [HR.out] at hr
              refine ⟨h1.grown p2 h2, h3, hnew, fun s hs b f q q2 => ?_, fun b f q => ?_⟩
              · rw [HE1.out] at q
                exact (hr b f q).1.own (.inr (.inr (.inl ⟨s, hs, q2⟩)))
              · rw [HE1.out] at q
                exact (hr b f q).2.1)
          go_cut [12] from 176 to 186 (fun _ wx => ∃ A9 c9, Hid (OSU w wx y sb B o oss { o1 with wait := .slice A9 (wn + 1) c9 } (oss.set sN uF) (sinkL cmpK (ys.length + 1) (ys ++ [e1]) ys.length)))
          case first =>
            clear HST12 HOK HROW HCNT HTN HSU HRO HRS HKN HJP HKEY HLEN HCB HOF HO1 HWV HCLS HM HBT HBXE HWN HU9 HU9E HUFE HWV1
            go_region_with ((go_at_call 41; refine HPU.out.mono ?_; rintro e w13 ⟨v8, rfl, hr8, hg8, ha8⟩; have hk3 := (HKP.out w13 hg8).1; have f3 := (HKP.out w13 hg8).2; obtain ⟨k3, k4, k5, k6, k7⟩ := hk3; obtain ⟨A9, c9, hv9⟩ := hr8.slice; rw [HSL.out] at hv9; subst hv9; have HOS := Lib.hid (HPUT.out A9 c9 w13 hr8 hg8 ha8); clear hr8 hg8 ha8))
            all_goals go_wp2_with fail
            all_goals go_meet
            all_goals exact ⟨A9, c9, HOS⟩
          case rest =>
            obtain ⟨A9, c9, HSU⟩ := hcut
            rename World => w14
            clear HPUT HKP HPU HOK HROW HST12 y3 y3f b0 b1 b2 b3
            obtain ⟨o2, ho2⟩ : ∃ o2 : OJ, { o1 with wait := .slice A9 (wn + 1) c9 } = o2 := ⟨_, rfl⟩
            rw [ho2] at HSU
            obtain ⟨otop, hotop⟩ : ∃ x, o.top = x := ⟨_, rfl⟩
            obtain ⟨owin, howin⟩ : ∃ x, o.win = x := ⟨_, rfl⟩
            obtain ⟨RT, hRT⟩ : ∃ x, riseT j t = x := ⟨_, rfl⟩
            obtain ⟨RM, hRM⟩ : ∃ x, riseM j t = x := ⟨_, rfl⟩
            obtain ⟨RH, hRH⟩ : ∃ x, riseH j t = x := ⟨_, rfl⟩
            have HRR := Lib.hid (And.intro hRT (And.intro hRM hRH))
            have hwin : owin = j.win := by rw [← howin]; exact HRO.out.win
            have hany : oany = j.some := by rw [← HOF.out.1]; exact HRO.out.any
            have HANY := Lib.hid hany
            have hwb : 0 ≤ owin ∧ owin ≤ 1125899906842624 := by rw [hwin]; exact ⟨HJP.out.num.w0, HJP.out.num.w1⟩
            have hRTb := riseT_bd HJP.out.num HBT.out.1 HBT.out.2
            rw [hRT] at hRTb
            have HRTE : Hid (RT = if oany = false ∨ otop < t then t else otop) := Lib.hid (by
              rw [← hRT, hany, ← hotop]
              unfold riseT
              cases hs : j.some with
              | false => simp
              | true => rw [HRO.out.top hs])
            have HRME : Hid (RM = max (RT - owin) (-1125899906842624)) := Lib.hid (by rw [← hRM, hwin, ← hRT]; rfl)
            have HRHE : Hid (RH = if oany = false ∨ obound < RM then RM else obound) := Lib.hid (by
              rw [← hRH, hany, ← HOF.out.2.1, ← hRM]
              unfold riseH
              cases hs : j.some with
              | false => simp
              | true => rw [HRO.out.bound hs])
            have HO2 : Hid (o2 = { o with ct := oct + 1, wait := .slice A9 (wn + 1) c9 }) := Lib.hid (by rw [← ho2, ← HO1.out])
            have G := HSU.out.oi.at_
            have y1 := G 1 (by omega)
            have y4 := G 4 (by omega)
            have y5 := G 5 (by omega)
            have y6 := G 6 (by omega)
            simp only [OJ.row, List.getElem?_cons_zero, List.getElem?_cons_succ] at y1 y4 y5 y6
            rw [HO2.out] at y1 y4 y5 y6
            simp only at y1 y4 y5 y6
            rw [howin] at y1
            rw [hotop] at y4
            rw [HOF.out.1] at y5
            rw [HOF.out.2.1] at y6
            have HOT := Lib.hid hotop
            have HOW := Lib.hid howin
            have y4f := HSU.out.oi.fy 4
            obtain ⟨wb0, wb1⟩ := hwb
            obtain ⟨rt0, rt1⟩ := hRTb
            clear G hRT hRM hRH hwin hany hotop howin ho2 HO1
            go_upto_region 30 with fail
            go_cut [199] from 187 to 198 (fun v wx => v = .bool (decide (oany = false ∨ otop < t)) ∧ w14 = wx)
            case first =>
              cases oany
              · go_wp2_with fail
                go_meet
                exact ⟨by simp, rfl⟩
              · by_cases hc : otop < t
                · go_wp2_with fail
                  go_meet
                  exact ⟨by simp [hc], rfl⟩
                · have hc' : decide (otop < t) = false := by simpa using hc
                  go_wp2_with fail
                  go_meet
                  exact ⟨by simp [hc], rfl⟩
            case rest =>
              obtain ⟨rfl, rfl⟩ := hcut
              go_upto_if 199 with (fail)
              go_cut [12] from 199 to 203 (fun _ wx => Hid (OSU w wx y sb B o oss { o2 with top := RT } (oss.set sN uF) (sinkL cmpK (ys.length + 1) (ys ++ [e1]) ys.length)))
              case first =>
                by_cases hc : oany = false ∨ otop < t
                · have hd : decide (oany = false ∨ otop < t) = true := by simpa using hc
                  have HH := Lib.hid hc
                  rw [hd]
                  clear hc hd
                  go_wp2_with fail
                  go_meet
                  rw [HRTE.out, if_pos HH.out]
                  exact Lib.hid (HSU.out.cell (i := 4) (u := .int .i64 t) (by omega) rfl rfl rfl)
                · have hd : decide (oany = false ∨ otop < t) = false := by simpa using hc
                  have HH := Lib.hid hc
                  rw [hd]
                  clear hc hd
                  go_wp2_with fail
                  go_meet
                  have h2 : o2.top = otop := by rw [HO2.out]; exact HOT.out
                  have h3 : ({ o2 with top := RT } : OJ) = o2 := by rw [HRTE.out, if_neg HH.out, ← h2]
                  rw [h3]
                  exact HSU
              case rest =>
                rename World => w15
                have HSU15 := hcut
                clear hcut HSU y1 y4 y5 y6 y4f HRTE
                have G := HSU15.out.oi.at_
                have y1 := G 1 (by omega)
                have y4 := G 4 (by omega)
                have y5 := G 5 (by omega)
                have y6 := G 6 (by omega)
                simp only [OJ.row, List.getElem?_cons_zero, List.getElem?_cons_succ] at y1 y4 y5 y6
                rw [HO2.out] at y1 y5 y6
                simp only at y1 y5 y6
                rw [HOW.out] at y1
                rw [HOF.out.1] at y5
                rw [HOF.out.2.1] at y6
                clear G
                go_upto_region 32 with fail
                go_cut [12] from 203 to 213 (fun v wx => v = .int .i64 RM ∧ w15.drew = wx)
                case first =>
                  go_region
                  all_goals go_wp2_with fail
                  all_goals go_meet
                  all_goals exact ⟨by rw [HRME.out], rfl⟩
                case rest =>
                  obtain ⟨rfl, rfl⟩ := hcut
                  have HSU16 := Lib.hid (HSU15.out.below (Below.refl w15.heap.size w15).drew)
                  have z5 : w15.drew.cell? ⟨y, 5, none⟩ = some (.bool oany) := y5
                  have z6 : w15.drew.cell? ⟨y, 6, none⟩ = some (.int .i64 obound) := y6
                  have z6f := HSU16.out.oi.fy 6
                  clear HSU15 y1 y4 y5 y6 HRME
                  generalize w15.drew = w16 at *
                  go_upto_region 33 with fail
                  go_cut [226] from 214 to 225 (fun v wx => v = .bool (decide (oany = false ∨ obound < RM)) ∧ w16 = wx)
                  case first =>
                    cases oany
                    · go_wp2_with fail
                      go_meet
                      exact ⟨by simp, rfl⟩
                    · by_cases hc : obound < RM
                      · go_wp2_with fail
                        go_meet
                        exact ⟨by simp [hc], rfl⟩
                      · have hc' : decide (obound < RM) = false := by simpa using hc
                        go_wp2_with fail
                        go_meet
                        exact ⟨by simp [hc], rfl⟩
                  case rest =>
                    obtain ⟨rfl, rfl⟩ := hcut
                    go_upto_if 226 with (fail)
                    go_cut [13] from 226 to 230 (fun _ wx => Hid (OSU w wx y sb B o oss { o2 with top := RT, bound := RH } (oss.set sN uF) (sinkL cmpK (ys.length + 1) (ys ++ [e1]) ys.length)))
                    case first =>
                      by_cases hc : oany = false ∨ obound < RM
                      · have hd : decide (oany = false ∨ obound < RM) = true := by simpa using hc
                        have HH := Lib.hid hc
                        rw [hd]
                        clear hc hd
                        go_wp2_with fail
                        go_meet
                        rw [HRHE.out, if_pos HH.out]
                        exact Lib.hid (HSU16.out.cell (i := 6) (u := .int .i64 RM) (by omega) rfl rfl rfl)
                      · have hd : decide (oany = false ∨ obound < RM) = false := by simpa using hc
                        have HH := Lib.hid hc
                        rw [hd]
                        clear hc hd
                        go_wp2_with fail
                        go_meet
                        have h2 : o2.bound = obound := by rw [HO2.out]; exact HOF.out.2.1
                        have h3 : ({ o2 with top := RT, bound := RH } : OJ) = { o2 with top := RT } := by rw [HRHE.out, if_neg HH.out, ← h2]
                        rw [h3]
                        exact HSU16
                    case rest =>
                      rename World => w17
                      have HSU17 := hcut
                      clear hcut HSU16 z5 z6 z6f HRHE
                      have y5 := HSU17.out.oi.at_ 5 (by omega)
                      simp only [OJ.row, List.getElem?_cons_zero, List.getElem?_cons_succ] at y5
                      have y5f := HSU17.out.oi.fy 5
                      go_upto_region 36 with fail
                      obtain ⟨SL, hSL⟩ : ∃ S, sinkL cmpK (ys.length + 1) (ys ++ [e1]) ys.length = S := ⟨_, rfl⟩
                      rw [hSL] at HSU17
                      obtain ⟨o3, ho3⟩ : ∃ o3 : OJ, { o2 with top := RT, bound := RH, any := true } = o3 := ⟨_, rfl⟩
                      have HSU18 : Hid (OSU w (w17.setCell ⟨y, 5, none⟩ (.bool true)) y sb B o oss o3 (oss.set sN uF) SL) := Lib.hid (HSU17.out.cell (i := 5) (by omega) (by rw [← ho3]; rfl) (by rw [← ho3]) (by rw [← ho3]))
                      have HO3 : Hid (o3 = { o with ct := oct + 1, wait := .slice A9 (wn + 1) c9, top := RT, bound := RH, any := true }) := Lib.hid (by rw [← ho3, HO2.out])
                      have HSLE := Lib.hid hSL
                      clear hSL ho3 HSU17 y5 y5f HO2
                      generalize w17.setCell ⟨y, 5, none⟩ (.bool true) = w18 at *
                      obtain ⟨L, hL⟩ : ∃ L, wn + 1 = L := ⟨_, rfl⟩
                      have hlen : SL.length = L := by rw [← HSLE.out, ← hL]; exact HSL.out
                      have hrow : Row B w18 (.slice A9 L c9) SL := by
                        have h := HSU18.out.oi.row
                        rw [HO3.out, ← hL] at *
                        exact h
                      obtain ⟨g, hA9, hcap, hcm, hgl⟩ : ∃ g, A9 = some ⟨g, 0, none⟩ ∧ L ≤ c9 ∧ c9 ≤ 9223372036854775807 ∧ g < w18.heap.size := by
                        have h0 := hrow
                        rcases h0.2 with ⟨h1, h2⟩ | ⟨g, cap, cur, h1, h2, h3, h4, h5, -⟩
                        · omega
                        · injection h1 with h1 h6 h7
                          subst h7
                          exact ⟨g, h1, by omega, h5, (Array.getElem?_eq_some_iff.1 h3).1⟩
                      subst hA9
                      have HCELL := Lib.hid hrow.cells
                      have y3 := HSU18.out.oi.at_ 3 (by omega)
                      have y6 := HSU18.out.oi.at_ 6 (by omega)
                      have y11 := HSU18.out.oi.at_ 11 (by omega)
                      simp only [OJ.row, List.getElem?_cons_zero, List.getElem?_cons_succ] at y3 y6 y11
                      rw [HO3.out] at y3 y6 y11
                      simp only at y3 y6 y11
                      rw [hL] at y3
                      have HLL := Lib.hid (And.intro hL hlen)
                      have hL63 : L ≤ 4097 := by have := HWN.out; have := HLEN.out; omega
                      have hyl : y < w18.heap.size := by have := HSU18.out.oi.big; have := HSU18.out.oi.yB; omega
                      clear hrow hL hlen
                      go_wp2_with fail
                      go_loopg [13] L (fun gk kv wr => ∃ k : Nat, kv = .int .i64 (k : Int) ∧ Hid (k + gk = L ∧ (∀ a ∈ SL.take k, a.at_ < RH) ∧ Below w18.heap.size w18 wr))
                      case atStart => exact ⟨0, rfl, Lib.hid ⟨by omega, fun a ha => by simp at ha, Below.refl _ _⟩⟩
                      case round =>
                        obtain ⟨k, rfl, hh⟩ := hrel
                        have w3 := (hh.out.2.2.cell (p := ⟨y, 3, none⟩) hyl).trans y3
                        have w6 := (hh.out.2.2.cell (p := ⟨y, 6, none⟩) hyl).trans y6
                        have w11 := (hh.out.2.2.cell (p := ⟨y, 11, none⟩) hyl).trans y11
                        have HKL := Lib.hid (show k ≤ L by have := hh.out.1; omega)
                        go_upto_region 37 with fail
                        go_cut [255] from 234 to 254 (fun v wx => ∃ b : Bool, v = .bool b ∧ Hid ((b = true → 0 < gk ∧ ∃ a, SL[k]? = some a ∧ a.at_ < RH) ∧ (b = false → gk = 0 ∨ ∃ a, SL[k]? = some a ∧ RH ≤ a.at_)) ∧ ∃ i, wr.drewN i = wx)
                        case first =>
                          have hk0 : (0 : Int) ≤ (k : Int) := by omega
                          by_cases hg : 0 < gk
                          · have hkl : (k : Int) < (L : Int) := by have := hh.out.1; omega
                            obtain ⟨a, ha⟩ := get_some (xs := SL) (i := k) (by have := HLL.out.2; omega)
                            have HA := Lib.hid ha
                            have c0 := (hh.out.2.2.cell (p := ⟨g, k * 5 + 0, none⟩) hgl).trans (HCELL.out k a ha 0 (by omega))
                            rw [Nat.add_zero] at c0
                            simp only [El.row, List.getElem?_cons_zero] at c0
                            obtain ⟨at2, hat⟩ : ∃ x, a.at_ = x := ⟨_, rfl⟩
                            rw [hat] at c0
                            have HAT := Lib.hid hat
                            clear ha hat
                            by_cases hc : at2 < RH
                            · go_quiet (fail)
                              go_wp2_with fail
                              go_meet
                              exact ⟨true, rfl, Lib.hid ⟨fun _ => ⟨hg, a, HA.out, by rw [HAT.out]; exact hc⟩, (fun q => by cases q)⟩, _, rfl⟩
                            · have hc' : decide (at2 < RH) = false := by simpa using hc
                              go_quiet (fail)
                              go_wp2_with fail
                              go_meet
                              exact ⟨false, rfl, Lib.hid ⟨(fun q => by cases q), fun _ => .inr ⟨a, HA.out, by rw [HAT.out]; omega⟩⟩, _, rfl⟩
                          · have hkn2 : ¬ k < L := by have := hh.out.1; omega
                            have hkl : decide (k < L) = false := by simpa using hkn2
                            have hkn3 : ¬ (k : Int) < (L : Int) := by omega
                            go_quiet (fail)
                            go_wp2_with fail
                            go_meet
                            exact ⟨false, rfl, Lib.hid ⟨(fun q => by cases q), fun _ => .inl (by omega)⟩, _, rfl⟩
                        case rest =>
                          obtain ⟨b, rfl, hb, di, rfl⟩ := hcut
                          have HBW := Lib.hid (show Below w18.heap.size w18 (wr.drewN di) from ⟨hh.out.2.2.os, hh.out.2.2.tape, hh.out.2.2.output, hh.out.2.2.size, hh.out.2.2.block⟩)
                          cases b
                          · have HK2 : Hid (∀ a ∈ SL.drop k, RH ≤ a.at_) := Lib.hid (fun a ha => by
                              obtain ⟨m', hm'⟩ := List.mem_iff_getElem?.1 ha
                              rw [List.getElem?_drop] at hm'
                              have hml := (List.getElem?_eq_some_iff.1 hm').1
                              rcases hb.out.2 rfl with q | ⟨a0, q1, q2⟩
                              · have := hh.out.1
                                have := HLL.out.2
                                omega
                              · have hsrt : SL.Pairwise (Le cmpK) := by rw [← HSLE.out]; exact sink_srt rfl HRO.out.srt
                                rcases Nat.eq_zero_or_pos m' with h0 | h0
                                · subst h0
                                  rw [Nat.add_zero, q1] at hm'
                                  injection hm' with hm'
                                  rw [← hm']; exact q2
                                · have := cmpK_at (pw_get hsrt (show k < k + m' by omega) hm' q1)
                                  omega)
                            have hkc : k ≤ c9 := by have := HKL.out; omega
                            obtain ⟨AD, hAD, had⟩ : ∃ AD : Addr, (if c9 = k then some (⟨g, 0, none⟩ : Addr) else some ⟨g, k * 5, none⟩) = some AD ∧ (SL.drop k = [] ∨ AD = ⟨g, k * 5, none⟩) := by
                              by_cases hc : c9 = k
                              · exact ⟨⟨g, 0, none⟩, by simp [hc], .inl (List.drop_eq_nil_of_le (by have := HLL.out.2; omega))⟩
                              · exact ⟨⟨g, k * 5, none⟩, by simp [hc], .inr rfl⟩
                            have HAD := Lib.hid had
                            obtain ⟨W, hW⟩ : ∃ W, wr.drewN di = W := ⟨_, rfl⟩
                            rw [hW] at HBW ⊢
                            have x3 := (HBW.out.cell (p := ⟨y, 3, none⟩) hyl).trans y3
                            have x11 := (HBW.out.cell (p := ⟨y, 11, none⟩) hyl).trans y11
                            have hk0 : (0 : Int) ≤ (k : Int) := by omega
                            have hkL : (k : Int) ≤ (L : Int) := by have := HKL.out; omega
                            clear hW hb w3 w6 w11 had y3 y6 y11
                            have hl9 : (SL.take k).length = k := by rw [List.length_take]; have := HLL.out.2; have := HKL.out; omega
                            have hl10 : (SL.drop k).length = L - k := by rw [List.length_drop, HLL.out.2]
                            have HC1 : Hid ((SL.take k).length = k ∧ ∀ i e, (SL.take k)[i]? = some e → ∀ j, j < 5 → W.cell? ((⟨g, 0, none⟩ : Addr).add (i * 5 + j)) = e.row[j]?) := Lib.hid ⟨hl9, fun i e he j hj => by
                              have hik : i < k := by have := (List.getElem?_eq_some_iff.1 he).1; omega
                              rw [List.getElem?_take_of_lt hik] at he
                              rw [Go.WideShapes.add_plain, Nat.zero_add]
                              exact (HBW.out.cell (p := ⟨g, i * 5 + j, none⟩) hgl).trans (HCELL.out i e he j hj)⟩
                            have HC2 : Hid ((SL.drop k).length = L - k ∧ ∀ W', Below W.heap.size W W' → ∀ i e, (SL.drop k)[i]? = some e → ∀ j, j < 5 → W'.cell? (AD.add (i * 5 + j)) = e.row[j]?) := Lib.hid ⟨hl10, fun W' hW' i e he j hj => by
                              rcases HAD.out with q | q
                              · rw [q] at he; simp at he
                              · rw [List.getElem?_drop] at he
                                rw [q, Go.WideShapes.add_plain, show k * 5 + (i * 5 + j) = (k + i) * 5 + j by omega]
                                exact ((HBW.out.trans (hW'.mono HBW.out.size)).cell (p := ⟨g, (k + i) * 5 + j, none⟩) hgl).trans (HCELL.out (k + i) e he j hj)⟩
                            have hyW : y < W.heap.size := Nat.lt_of_lt_of_le hyl HBW.out.size
                            have fW := (HSU18.out.below HBW.out).oi.fy
                            have fW3 := fW 3
                            have fW11 := fW 11
                            clear hl9 hl10 fW
                            obtain ⟨-, -, ocs0, ocs1⟩ := HCB.out
                            go_wp2_with (first | (at_builtin; refine wpList_append_tl _ rfl (.const (.slice none 0 0)) (.tmp 263) rfl ⟨g, 0, none⟩ k c9 (SL.take k) rfl rfl HC1.out.1 HC1.out.2 (by omega) ?_; intro v9 w19 hr9 hb9; obtain ⟨A10, c10, hv9⟩ := hr9.slice; rw [HC1.out.1] at hv9; subst hv9; have x3b := (hb9.cell (p := ⟨y, 3, none⟩) hyW).trans x3; have x11b := (hb9.cell (p := ⟨y, 11, none⟩) hyW).trans x11; have fW3b := (hb9.frozen (p := ⟨y, 3, none⟩) hyW).trans fW3; have fW11b := (hb9.frozen (p := ⟨y, 11, none⟩) hyW).trans fW11; have HR9 := Lib.hid (And.intro hr9 hb9); have hyW2 := Nat.lt_of_lt_of_le hyW hb9.size; clear hr9 hb9 x3 x11 fW3 fW11) | (at_builtin; refine wpList_append_tl _ rfl (.const (.slice none 0 0)) (.tmp 271) rfl AD (L - k) (c9 - k) (SL.drop k) rfl rfl HC2.out.1 (HC2.out.2 _ HR9.out.2) (by omega) ?_; intro v10 w20 hr10 hb10; obtain ⟨A11, c11, hv10⟩ := hr10.slice; rw [HC2.out.1] at hv10; subst hv10; have x3c := (hb10.cell (p := ⟨y, 3, none⟩) hyW2).trans x3b; have x11c := (hb10.cell (p := ⟨y, 11, none⟩) hyW2).trans x11b; have fW3c := (hb10.frozen (p := ⟨y, 3, none⟩) hyW2).trans fW3b; have fW11c := (hb10.frozen (p := ⟨y, 11, none⟩) hyW2).trans fW11b; have HR10 := Lib.hid (And.intro hr10 hb10); clear hr10 hb10 x3b x11b fW3b fW11b))
                            go_ret3
                            have hE1 := (HSU18.out.below HBW.out).below HR9.out.2
                            have hg19 : w19.grownBy w20 o3.wait.ownBlock := ⟨HR10.out.2.os, HR10.out.2.tape, HR10.out.2.output, HR10.out.2.size, fun b hb _ => HR10.out.2.block b hb⟩
                            have hE3 := hE1.put (ys' := SL.drop k) hg19 (HR10.out.1.mono hE1.oi.big) (fun g' hg' => .inr (HR10.out.1.lt hg').1) (fun e he => by
                              obtain ⟨h1, h2, h3, h4, h5⟩ := hE1.oi.vals e (List.mem_of_mem_drop he)
                              refine ⟨h1.below HR10.out.2, h2, fun b f hv hq => ?_, h4, h5⟩
                              have q1 := (HR10.out.1.lt hq).1
                              have q2 := h1.lt hv
                              omega)
                            have hE4 := hE3.cell (o' := { o3 with wait := .slice A11 (L - k) c11, cs := o.cs + (k : Int) }) (i := 11) (u := .int .i64 (o.cs + (k : Int))) (by omega) (by rw [HO3.out]; rfl) rfl rfl
                            have hrt := ro_take (v' := v') (w' := .slice A11 (L - k) c11) (tv' := .slice A8 (tn + 1) c8) (S := SL) (k := k) (cnt := cnt) (t := t) (e0 := e0) (f0 := e1) HRO.out HJP.out HSU0.out.1 HSU0.out.2 q0 q1 (fun a1 a2 => by
                              have h1 := HKN.out.2.1
                              unfold tooOld below' at h1
                              rw [a1, decide_eq_true a2] at h1
                              simp only [Bool.true_and, decide_eq_false_iff_not] at h1
                              omega) (by rw [HE1.out, HKEY.out]; rfl) HSLE.out.symm (by have := HLL.out.2; have := HKL.out; omega) (by rw [HRR.out.2.2]; exact hh.out.2.1) (by rw [HRR.out.2.2]; exact HK2.out)
                            have hof : ({ o3 with wait := .slice A11 (L - k) c11, cs := o.cs + (k : Int) } : OJ) = { o with any := true, top := riseT j t, bound := riseH j t, ct := o.ct + 1, wait := .slice A11 (L - k) c11, cs := o.cs + (k : Int) } := by
                              rw [HO3.out, HRR.out.1, HRR.out.2.2, HOF.out.2.2]
                            rw [hof] at hE4
                            rw [HUFE.out] at hE4
                            refine ⟨.slice A10 k c10, _, _, SL.drop k, SL.take k, rfl, Lib.hid ⟨hE4.oi, hrt.2, rfl, ?_, hrt.1, fun e he => ?_, hE4.ft, hE4.own, fun e he => ?_⟩⟩
                            · exact (((HR9.out.1.below HR10.out.2).set (p := ⟨y, 3, none⟩) hyW _).set (p := ⟨y, 11, none⟩) hyW _).mono (HSU18.out.below HBW.out).ft.size
                            · obtain ⟨h1, -, -, -, h5⟩ := hE1.oi.vals e (List.mem_of_mem_take he)
                              exact (h1.below HR10.out.2).keep (fun b f hv => (set_blk (by have := h5 b f hv; have := hE1.oi.yB; omega)).trans (set_blk (by have := h5 b f hv; have := hE1.oi.yB; omega)))
                            · rw [List.take_append_drop, ← HSLE.out] at he
                              have hm := (sink_perm cmpK _ _ _).mem_iff.1 he
                              rcases List.mem_append.1 hm with q | q
                              · exact .inl q
                              · exact .inr (by rw [List.mem_singleton.1 q, HE1.out])
                          · have HB1 := Lib.hid (hb.out.1 rfl)
                            have hgp : 0 < gk := HB1.out.1
                            have hkk : k + gk = L := hh.out.1
                            have HKK := Lib.hid (And.intro hgp hkk)
                            have hk63 : k ≤ 4097 := by have := HKL.out; omega
                            clear hb hgp hkk
                            go_wp2_with fail
                            go_roundg (gk - 1)
                            case measure => have := HKK.out.1; omega
                            case rel =>
                              refine ⟨k + 1, by go_num, Lib.hid ⟨?_, fun a ha => ?_, HBW.out⟩⟩
                              · have := HKK.out.1; have := HKK.out.2; omega
                              · obtain ⟨-, a0, q1, q2⟩ := HB1.out
                                rw [List.take_add_one, q1] at ha
                                rcases List.mem_append.1 ha with h | h
                                · exact hh.out.2.1 a h
                                · simp at h
                                  rw [h]; exact q2
end Go.Proofs.YtebacmmfjadalaaGreat
