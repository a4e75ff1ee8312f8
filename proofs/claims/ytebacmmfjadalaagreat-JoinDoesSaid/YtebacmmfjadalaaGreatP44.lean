/- V5 V8 V9 V6 in one text. -/
import Derived.Test.YtebacmmfjadalaaGreatP43
import Derived.Test.YtebacmmfjadalaaGreatP41
import Derived.Test.YtebacmmfjadalaaGreatP21
import Derived.Deep.RegionHeld3
import Derived.Deep.RegionLaw

namespace Go.Proofs.YtebacmmfjadalaaGreat
open Go Go.RowKit

set_option maxRecDepth 100000 in
set_option maxHeartbeats 16000000 in
theorem opush_cnt (y sb B : Nat) (o : OJ) (oss : List OS) (ys : List El) (cs : List (Int × Int × Int)) (j : Jn) (sns : List Sn) (xs : List El) (sN : Nat) (sq st : Int) (A : Option Addr) (n c : Nat) (bs : List Nat) (w : World) (hi : OI w y sb B o oss ys) (hro : RO cs j sns xs o oss ys) (Ac : Option Addr) (cc : Nat) (hcl : o.cl = .slice Ac cs.length cc) (hc : ClRow w Ac cs)
    (hfl : FlAt w A n bs) (hl : n * 8 ≤ 140737488355328) (h64 : Lt64 bs) (hchk : chkE (sN : Int) n bs = 0) (s : Sn) (u : OS) (hs : sns[sN]? = some s) (hu : oss[sN]? = some u) (cnt t : Int) (u1 : Ck.unwV s.last st = cnt) (u2 : Ck.unwE s.last st = 0) (t1 : Ck.timeV s.o s.n s.d cnt = t) (t2 : Ck.timeE s.o s.n s.d cnt = 0) (st0 : 0 ≤ st) (st1 : st ≤ 4294967295) (q0 : 0 ≤ sq) (q1 : sq ≤ 4294967295) (hct : o.ct ≤ 1099511627775) (KD : Int) (hkd : pushK j s sq t = KD) (hk1 : KD ≠ 1) (d0 : 0 ≤ o.cd) (d1 : o.cd ≤ 1099511627775) (e0 : 0 ≤ o.co) (e1 : o.co ≤ 1099511627775) (f0 : 0 ≤ o.cl2) (f1 : o.cl2 ≤ 1099511627775) :
    Calls Tryz.prog 13 #[.pointer (some ⟨y, 0, none⟩), .agg #[.int .i64 sN, .int .u32 sq, .int .u32 st, .slice A n c]] w fun e w' => e = .returned (.tuple #[.int .i64 KD, .slice none 0 0, .int .i64 0]) ∧ Hid (OI w' y sb B (cntO o KD) oss ys ∧ Ft w w' (fun b => b = y)) := by
  have hfew : (u.ts.length : Int) ≤ 1099511627775 := by have := hro.few u (List.mem_of_getElem? hu); omega
  have HKD := Lib.hid (And.intro hkd hk1)
  clear hct hkd hk1
  have HOI := Lib.hid hi
  have HRO := Lib.hid hro
  have HRS := Lib.hid (hro.sn sN s u hs hu)
  have hyw : y < w.heap.size := by have := hi.big; have := hi.yB; omega
  have hsw : sb < w.heap.size := by have := hi.big; have := hi.sB; omega
  obtain ⟨m, hm⟩ : ∃ m, cs.length = m := ⟨_, rfl⟩
  have HM := Lib.hid hm
  have hsm : sN < m := by
    have := (List.getElem?_eq_some_iff.1 hu).1
    have := hro.olen
    omega
  obtain ⟨SA, SC, hsen, hsa⟩ := hi.sen
  rw [hro.olen, hm] at hsen hsa
  have hsa : SA = some ⟨sb, 0, none⟩ := by
    rcases hsa with h | h
    · omega
    · exact h
  subst hsa
  rw [hm] at hcl
  obtain ⟨cb, coff, hAc, hcb, hcl0⟩ := hc.at sN (by omega)
  subst hAc
  have hclk := hro.clk sN s hs
  have hk1 : (cs.getD sN (0, 0, 0)).1 = s.o := by rw [← hclk]
  have hk2 : (cs.getD sN (0, 0, 0)).2.1 = s.n := by rw [← hclk]
  have hk3 : (cs.getD sN (0, 0, 0)).2.2 = s.d := by rw [← hclk]
  rw [hk1, hk2, hk3] at hcl0
  obtain ⟨k0, k1, k2⟩ := hcl0
  have hb1 := (Below.refl w.heap.size w).alloc (Nat.le_refl _) (.cells #[.int .i64 sN, .int .u32 sq, .int .u32 st, .slice A n c] 38)
  have HCK := Lib.hid (rchk_any sN sq st A n c bs _ (hfl.below hb1) hl h64)
  rw [hchk] at HCK
  have HB1 := Lib.hid hb1
  have HSU := Lib.hid (And.intro hs hu)
  have HVAL := Lib.hid (And.intro hfl h64)
  have hsm0 : (0 : Int) ≤ (sN : Int) := by omega
  have hsm1 : (sN : Int) < (m : Int) := by omega
  have hsm2 : ¬ (m : Int) ≤ (sN : Int) := by omega
  obtain ⟨tA, tC, hutv⟩ := (hi.nums u (List.mem_of_getElem? hu)).slice
  obtain ⟨tn, htn⟩ : ∃ k, u.ts.length = k := ⟨_, rfl⟩
  rw [htn] at hutv
  have HTN := Lib.hid (And.intro htn hutv)
  have HUN := Lib.hid (fun W => runwrap_any s.last st W st0 st1)
  rw [u1, u2] at HUN
  have HTI := Lib.hid (fun W => Bg.rtime_any s.o s.n s.d cnt W)
  rw [t1, t2] at HTI
  unfold clk at HTI
  have HCNT := Lib.hid (And.intro u1 (And.intro u2 (And.intro t1 t2)))
  have HBT := Lib.hid (timeV_bd s.o s.n s.d cnt)
  rw [t1] at HBT
  have hro1 := hro.any
  obtain ⟨so, sn_, sd, slast, ssm, smost, staken⟩ := s
  obtain ⟨ulast, utop, uany, utv, uts⟩ := u
  have hul : ulast = slast := HRS.out.last
  have hutv' : utv = .slice tA tn tC := hutv
  subst hul hutv'
  simp only at HUN HTI k0 k1 k2 htn hfew
  have G := hi.at_
  have S := hi.sn sN _ hu
  obtain ⟨oc, owin, osen, owait, otop, oany, obound, oct, ocd, oco, ocl, ocs⟩ := o
  simp only at hcl hsen hro1 d0 d1 e0 e1 f0 f1
  subst hcl hsen
  obtain ⟨WA, WC, hwv⟩ := hi.row.slice
  obtain ⟨wn, hwn⟩ : ∃ k, ys.length = k := ⟨_, rfl⟩
  have HWN := Lib.hid hwn
  rw [hwn] at hwv
  simp only at hwv
  subst hwv
  have g0 := G 0 (by omega)
  have g2 := G 2 (by omega)
  have g3 := G 3 (by omega)
  have g4 := G 4 (by omega)
  have g5 := G 5 (by omega)
  have g6 := G 6 (by omega)
  have g7 := G 7 (by omega)
  have g8 := G 8 (by omega)
  have g9 := G 9 (by omega)
  have g10 := G 10 (by omega)
  have g11 := G 11 (by omega)
  have g1 := G 1 (by omega)
  have s0 := S 0 (by omega)
  have s1 := S 1 (by omega)
  have s2 := S 2 (by omega)
  have s3 := S 3 (by omega)
  simp only [OJ.row, OS.row, List.getElem?_cons_zero, List.getElem?_cons_succ, Nat.add_zero] at g0 g1 g2 g3 g4 g5 g6 g7 g8 g9 g10 g11 s0 s1 s2 s3
  clear hi hro hc hfl h64 hchk hs hu u1 u2 t1 t2 hm hclk hk1 hk2 hk3 htn hutv G S hwn hb1
  go_enter Tryz.func13, Tryz.ntmps13
  go_wp2_with fail
  refine HCK.out.mono ?_
  rintro e w2 ⟨rfl, hb2⟩
  have hbb := HB1.out.trans (hb2.mono HB1.out.size)
  have r0 : w2.cell? ⟨w.heap.size, 0, none⟩ = some (.int .i64 sN) := (hb2.cell (p := ⟨w.heap.size, 0, none⟩) (by simp)).trans (by simp [go_sem])
  have r1 : w2.cell? ⟨w.heap.size, 1, none⟩ = some (.int .u32 sq) := (hb2.cell (p := ⟨w.heap.size, 1, none⟩) (by simp)).trans (by simp [go_sem])
  have r2 : w2.cell? ⟨w.heap.size, 2, none⟩ = some (.int .u32 st) := (hb2.cell (p := ⟨w.heap.size, 2, none⟩) (by simp)).trans (by simp [go_sem])
  have r3 : w2.cell? ⟨w.heap.size, 3, none⟩ = some (.slice A n c) := (hb2.cell (p := ⟨w.heap.size, 3, none⟩) (by simp)).trans (by simp [go_sem])
  have hbx2 : w.heap.size < w2.heap.size := Nat.lt_of_lt_of_le (by simp) hb2.size
  replace g0 := (hbb.cell (p := ⟨y, 0, none⟩) hyw).trans g0
  replace g1 := (hbb.cell (p := ⟨y, 1, none⟩) hyw).trans g1
  replace g2 := (hbb.cell (p := ⟨y, 2, none⟩) hyw).trans g2
  replace g3 := (hbb.cell (p := ⟨y, 3, none⟩) hyw).trans g3
  replace g4 := (hbb.cell (p := ⟨y, 4, none⟩) hyw).trans g4
  replace g5 := (hbb.cell (p := ⟨y, 5, none⟩) hyw).trans g5
  replace g6 := (hbb.cell (p := ⟨y, 6, none⟩) hyw).trans g6
  replace g7 := (hbb.cell (p := ⟨y, 7, none⟩) hyw).trans g7
  replace g8 := (hbb.cell (p := ⟨y, 8, none⟩) hyw).trans g8
  replace g9 := (hbb.cell (p := ⟨y, 9, none⟩) hyw).trans g9
  replace g10 := (hbb.cell (p := ⟨y, 10, none⟩) hyw).trans g10
  replace g11 := (hbb.cell (p := ⟨y, 11, none⟩) hyw).trans g11
  replace s0 := (hbb.cell (p := ⟨sb, sN * 4, none⟩) hsw).trans s0
  replace s1 := (hbb.cell (p := ⟨sb, sN * 4 + 1, none⟩) hsw).trans s1
  replace s2 := (hbb.cell (p := ⟨sb, sN * 4 + 2, none⟩) hsw).trans s2
  replace s3 := (hbb.cell (p := ⟨sb, sN * 4 + 3, none⟩) hsw).trans s3
  replace k0 := (hbb.cell (p := ⟨cb, coff + sN * 3, none⟩) hcb).trans k0
  replace k1 := (hbb.cell (p := ⟨cb, coff + sN * 3 + 1, none⟩) hcb).trans k1
  replace k2 := (hbb.cell (p := ⟨cb, coff + sN * 3 + 2, none⟩) hcb).trans k2
  have hy2 := Nat.lt_of_lt_of_le hyw hbb.size
  have hs2 := Nat.lt_of_lt_of_le hsw hbb.size
  have hc2 := Nat.lt_of_lt_of_le hcb hbb.size
  have HB2 := Lib.hid hbb
  clear hb2 hbb HCK HB1 hyw hsw hcb
  generalize hbxe : w.heap.size = bx at *
  have HBXE := Lib.hid hbxe
  clear hbxe
  go_wp2_with fail
  go_region
  all_goals go_wp2_with fail
  go_region
  all_goals go_wp2_with fail
  have hcur : Below w2.heap.size w2 w2.drew.drew.drew := (Below.refl _ _).drew.drew.drew
  go_region_held3 (fun w' => w'.cell? ⟨sb, sN * 4, none⟩ = some (.int .i64 ulast) ∧ w'.cell? ⟨bx, 2, none⟩ = some (.int .u32 st))
    (first | exact ⟨(hcur.cell (by exact hs2)).trans s0, (hcur.cell (by exact hbx2)).trans r2⟩)
    (first | (go_at_call 10; refine (HUN.out _).mono ?_; rintro e w3 ⟨rfl, hb3⟩; replace hcur := back_of hcur hb3; clear hb3))
  go_wp2_with fail
  replace hcur := hcur.drew
  go_region_held3 (fun w' => w'.cell? ⟨y, 0, none⟩ = some (.slice (some ⟨cb, coff, none⟩) m cc) ∧ w'.cell? ⟨bx, 0, none⟩ = some (.int .i64 sN) ∧ w'.cell? ⟨cb, coff + sN * 3, none⟩ = some (.int .i64 so) ∧ w'.cell? ⟨cb, coff + sN * 3 + 1, none⟩ = some (.int .i64 sn_) ∧ w'.cell? ⟨cb, coff + sN * 3 + 2, none⟩ = some (.int .i64 sd))
    (first | exact ⟨(hcur.cell (by exact hy2)).trans g0, (hcur.cell (by exact hbx2)).trans r0, (hcur.cell (by exact hc2)).trans k0, (hcur.cell (by exact hc2)).trans k1, (hcur.cell (by exact hc2)).trans k2⟩)
    (first | (go_at_call 11; refine (HTI.out _).mono ?_; rintro e w4 ⟨rfl, hb4⟩; replace hcur := back_of hcur hb4; clear hb4))
  go_wp2_with fail
  replace hcur := hcur.drew
  have hfew2 : tn ≤ 1099511627775 := by have h : uts.length = tn := HTN.out.1; omega
  have HHA := Lib.hid (fun W (hW : NumAt W tA tn uts) => ohas_any ulast utop uany tA tn tC uts sq W hW (by omega) q0 q1 HRS.out.bd.1 HRS.out.bd.2)
  have hnum : Hid (∀ W, Below w2.heap.size w2 W → NumAt W tA tn uts) := Lib.hid (fun W hW => by
    have h := (HOI.out.nums _ (List.mem_of_getElem? HSU.out.2)).num
    exact (h.below (by rw [HBXE.out]; exact HB2.out)).below hW)
  go_region_held3 (fun w' => w'.cell? ⟨sb, sN * 4, none⟩ = some (.int .i64 ulast) ∧ w'.cell? ⟨sb, sN * 4 + 1, none⟩ = some (.int .u32 utop) ∧ w'.cell? ⟨sb, sN * 4 + 2, none⟩ = some (.bool uany) ∧ w'.cell? ⟨sb, sN * 4 + 3, none⟩ = some (.slice tA tn tC) ∧ w'.cell? ⟨bx, 1, none⟩ = some (.int .u32 sq))
    (first | exact ⟨(hcur.cell (by exact hs2)).trans s0, (hcur.cell (by exact hs2)).trans s1, (hcur.cell (by exact hs2)).trans s2, (hcur.cell (by exact hs2)).trans s3, (hcur.cell (by exact hbx2)).trans r1⟩)
    (first | (go_at_call 39; refine (HHA.out _ (hnum.out _ hcur)).mono ?_; rintro e w5 ⟨rfl, hb5⟩; replace hcur := back_of hcur hb5; clear hb5))

  have HFY := Lib.hid (fun i => (HOI.out.fy i))
  have HTOT := Lib.hid (show Below w.heap.size w w5 by rw [HBXE.out]; exact HB2.out.trans (hcur.mono (Nat.le_of_lt hbx2)))
  have hyw : y < w.heap.size := by have := HOI.out.big; have := HOI.out.yB; omega
  have HI5 := Lib.hid (HOI.out.below HTOT.out)
  have z8 := (hcur.cell (p := ⟨y, 8, none⟩) (by exact hy2)).trans g8
  have z9 := (hcur.cell (p := ⟨y, 9, none⟩) (by exact hy2)).trans g9
  have z10 := (hcur.cell (p := ⟨y, 10, none⟩) (by exact hy2)).trans g10
  have z8f := HI5.out.fy 8
  have z9f := HI5.out.fy 9
  have z10f := HI5.out.fy 10
  have hkn := HRS.out.has sq q0 q1
  simp only at hkn
  obtain ⟨K, hK⟩ : ∃ K, hasO uany utop uts sq = K := ⟨_, rfl⟩
  rw [hK] at hkn ⊢
  have HK := Lib.hid hkn
  clear hK hkn HHA HTI HUN hnum HFY g0 g1 g2 g3 g4 g5 g6 g7 g8 g9 g10 g11 k0 k1 k2
  cases K
  · replace hcur := hcur.drew
    have HOL := Lib.hid (fun W => oold_any ulast utop uany tA tn tC sq W q0 q1 HRS.out.bd.1 HRS.out.bd.2)
    have hol := HRS.out.old (q := sq)
    simp only at hol
    obtain ⟨L, hL⟩ : ∃ L, oldO uany utop sq = L := ⟨_, rfl⟩
    rw [hL] at hol HOL
    have HL := Lib.hid hol
    clear hL hol
    have hcur5 : Below w5.heap.size w5 w5.drew := (Below.refl _ _).drew
    go_wp2_with fail
    go_region_held3 (fun w' => w'.cell? ⟨sb, sN * 4, none⟩ = some (.int .i64 ulast) ∧ w'.cell? ⟨sb, sN * 4 + 1, none⟩ = some (.int .u32 utop) ∧ w'.cell? ⟨sb, sN * 4 + 2, none⟩ = some (.bool uany) ∧ w'.cell? ⟨sb, sN * 4 + 3, none⟩ = some (.slice tA tn tC) ∧ w'.cell? ⟨bx, 1, none⟩ = some (.int .u32 sq))
      (first | exact ⟨(hcur.cell (by exact hs2)).trans s0, (hcur.cell (by exact hs2)).trans s1, (hcur.cell (by exact hs2)).trans s2, (hcur.cell (by exact hs2)).trans s3, (hcur.cell (by exact hbx2)).trans r1⟩)
      (first | (go_at_call 40; refine (HOL.out _).mono ?_; rintro e w6 ⟨rfl, hb6⟩; replace hcur := back_of hcur hb6; replace hcur5 := back_of hcur5 hb6; clear hb6))
    have hyw5 : y < w5.heap.size := Nat.lt_of_lt_of_le hyw HTOT.out.size
    replace z9 := (hcur5.cell (p := ⟨y, 9, none⟩) (by exact hyw5)).trans z9
    replace z10 := (hcur5.cell (p := ⟨y, 10, none⟩) (by exact hyw5)).trans z10
    replace z9f := (hcur5.frozen (p := ⟨y, 9, none⟩) (by exact hyw5)).trans z9f
    replace z10f := (hcur5.frozen (p := ⟨y, 10, none⟩) (by exact hyw5)).trans z10f
    have HI6 := Lib.hid (HI5.out.below hcur5)
    have HT6 := Lib.hid (back_of HTOT.out hcur5)
    have g5 := HI6.out.at_ 5 (by omega)
    have g6 := HI6.out.at_ 6 (by omega)
    simp only [OJ.row, List.getElem?_cons_zero, List.getElem?_cons_succ] at g5 g6
    clear HOL z8 z8f s0 s1 s2 s3 r0 r1 r2 r3 hcur hcur5 HI5 HTOT
    cases L
    · obtain ⟨hkd4, hsome, htl⟩ : KD = 4 ∧ j.some = true ∧ t < j.hor := by
        have h1 := HKD.out.1
        have h2 := HKD.out.2
        unfold pushK at h1
        rw [if_neg (by rw [← HK.out]; simp), if_neg (by rw [← HL.out]; simp)] at h1
        split at h1
        · rename_i hc
          simp only [Bool.and_eq_true, decide_eq_true_eq] at hc
          exact ⟨h1.symm, hc.1, hc.2⟩
        · exact absurd h1.symm h2
      subst hkd4
      have hob : obound = j.hor := HRO.out.bound hsome
      rw [← hob] at htl
      rw [hsome] at hro1
      subst hro1
      clear hsome hob
      go_wp2_with fail
      go_ret3
      refine ⟨rfl, Lib.hid ⟨?_, ?_⟩⟩
      · exact HI6.out.cell (i := 10) (by omega) rfl rfl rfl
      · exact (Ft.of_below HT6.out (fun b => b = y)).set (p := ⟨y, 10, none⟩) rfl _
    · obtain rfl : KD = 3 := by
        have h1 := HKD.out.1
        unfold pushK at h1
        rw [if_neg (by rw [← HK.out]; simp), if_pos HL.out.symm] at h1
        exact h1.symm
      go_wp2_with fail
      go_ret3
      refine ⟨rfl, Lib.hid ⟨?_, ?_⟩⟩
      · exact HI6.out.cell (i := 9) (by omega) rfl rfl rfl
      · exact (Ft.of_below HT6.out (fun b => b = y)).set (p := ⟨y, 9, none⟩) rfl _
  · obtain rfl : KD = 2 := by
      have h1 := HKD.out.1
      unfold pushK at h1
      rw [if_pos HK.out.symm] at h1
      exact h1.symm
    go_wp2_with fail
    go_ret3
    refine ⟨rfl, Lib.hid ⟨?_, ?_⟩⟩
    · exact HI5.out.cell (i := 8) (by omega) rfl rfl rfl
    · exact (Ft.of_below HTOT.out (fun b => b = y)).set (p := ⟨y, 8, none⟩) rfl _
end Go.Proofs.YtebacmmfjadalaaGreat

namespace Go.Proofs.YtebacmmfjadalaaGreat
open Go Go.RowKit

set_option maxRecDepth 100000 in
set_option maxHeartbeats 16000000 in
theorem opush_chk (y : Nat) (se sq st : Int) (A : Option Addr) (n c : Nat) (bs : List Nat) (w : World) (hfl : FlAt w A n bs) (hl : n * 8 ≤ 140737488355328) (h64 : Lt64 bs) (hq : chkE se n bs ≠ 0) :
    Calls Tryz.prog 13 #[.pointer (some ⟨y, 0, none⟩), .agg #[.int .i64 se, .int .u32 sq, .int .u32 st, .slice A n c]] w fun e w' => e = .returned (.tuple #[.int .i64 0, .slice none 0 0, .int .i64 (chkE se n bs)]) ∧ Below w.heap.size w w' := by
  have hb1 := (Below.refl w.heap.size w).alloc (Nat.le_refl _) (.cells #[.int .i64 se, .int .u32 sq, .int .u32 st, .slice A n c] 38)
  have HCK := Lib.hid (rchk_any se sq st A n c bs _ (hfl.below hb1) hl h64)
  have HB1 := Lib.hid hb1
  obtain ⟨ee, hee⟩ : ∃ y, chkE se n bs = y := ⟨_, rfl⟩
  rw [hee] at HCK hq ⊢
  have hq' : (ee != 0) = true := by simpa using hq
  clear hfl h64 hb1 hee
  go_enter Tryz.func13, Tryz.ntmps13
  go_wp2_with fail
  refine HCK.out.mono ?_
  rintro e w2 ⟨rfl, hb2⟩
  have HBB := Lib.hid (HB1.out.trans (hb2.mono HB1.out.size))
  clear hb2
  go_wp2_with fail
  go_ret3
  exact ⟨rfl, HBB.out⟩

set_option maxRecDepth 100000 in
set_option maxHeartbeats 16000000 in
theorem opush_nos (y sb B : Nat) (o : OJ) (oss : List OS) (ys : List El) (cs : List (Int × Int × Int)) (j : Jn) (sns : List Sn) (xs : List El) (se sq st : Int) (A : Option Addr) (n c : Nat) (bs : List Nat) (w : World) (hi : OI w y sb B o oss ys) (hro : RO cs j sns xs o oss ys) (Ac : Option Addr) (cc : Nat) (hcl : o.cl = .slice Ac cs.length cc)
    (hfl : FlAt w A n bs) (hl : n * 8 ≤ 140737488355328) (h64 : Lt64 bs) (hq : chkE se n bs = 0) (hse : (cs.length : Int) ≤ se) :
    Calls Tryz.prog 13 #[.pointer (some ⟨y, 0, none⟩), .agg #[.int .i64 se, .int .u32 sq, .int .u32 st, .slice A n c]] w fun e w' => e = .returned (.tuple #[.int .i64 0, .slice none 0 0, .int .i64 230]) ∧ Below w.heap.size w w' := by
  have hb1 := (Below.refl w.heap.size w).alloc (Nat.le_refl _) (.cells #[.int .i64 se, .int .u32 sq, .int .u32 st, .slice A n c] 38)
  have HCK := Lib.hid (rchk_any se sq st A n c bs _ (hfl.below hb1) hl h64)
  have HB1 := Lib.hid hb1
  rw [hq] at HCK
  have hyw : y < w.heap.size := by have := hi.big; have := hi.yB; omega
  have g0 := hi.at_ 0 (by omega)
  obtain ⟨oc, owin, osen, owait, otop, oany, obound, oct, ocd, oco, ocl, ocs⟩ := o
  simp only at hcl
  subst hcl
  simp only [OJ.row, List.getElem?_cons_zero] at g0
  obtain ⟨m, hm⟩ : ∃ m, cs.length = m := ⟨_, rfl⟩
  rw [hm] at g0 hse
  clear hi hro hfl h64 hb1 hq hm
  go_enter Tryz.func13, Tryz.ntmps13
  go_wp2_with fail
  refine HCK.out.mono ?_
  rintro e w2 ⟨rfl, hb2⟩
  have hbb := HB1.out.trans (hb2.mono HB1.out.size)
  have r0 : w2.cell? ⟨w.heap.size, 0, none⟩ = some (.int .i64 se) := (hb2.cell (p := ⟨w.heap.size, 0, none⟩) (by simp)).trans (by simp [go_sem])
  have hbx2 : w.heap.size < w2.heap.size := Nat.lt_of_lt_of_le (by simp) hb2.size
  replace g0 := (hbb.cell (p := ⟨y, 0, none⟩) hyw).trans g0
  have HB2 := Lib.hid hbb
  clear hb2 hbb HCK HB1 hyw
  go_wp2_with fail
  go_region
  all_goals go_wp2_with fail
  go_ret3
  exact ⟨rfl, HB2.out.drew⟩

set_option maxRecDepth 100000 in
set_option maxHeartbeats 16000000 in
theorem opush_unw (y sb B : Nat) (o : OJ) (oss : List OS) (ys : List El) (cs : List (Int × Int × Int)) (j : Jn) (sns : List Sn) (xs : List El) (sN : Nat) (sq st : Int) (A : Option Addr) (n c : Nat) (bs : List Nat) (w : World) (hi : OI w y sb B o oss ys) (hro : RO cs j sns xs o oss ys) (Ac : Option Addr) (cc : Nat) (hcl : o.cl = .slice Ac cs.length cc) (hc : ClRow w Ac cs)
    (hfl : FlAt w A n bs) (hl : n * 8 ≤ 140737488355328) (h64 : Lt64 bs) (hq : chkE (sN : Int) n bs = 0) (s : Sn) (u : OS) (hs : sns[sN]? = some s) (hu : oss[sN]? = some u) (st0 : 0 ≤ st) (st1 : st ≤ 4294967295) (u2 : Ck.unwE s.last st = 1) :
    Calls Tryz.prog 13 #[.pointer (some ⟨y, 0, none⟩), .agg #[.int .i64 sN, .int .u32 sq, .int .u32 st, .slice A n c]] w fun e w' => e = .returned (.tuple #[.int .i64 0, .slice none 0 0, .int .i64 1]) ∧ Below w.heap.size w w' := by
  have hyw : y < w.heap.size := by have := hi.big; have := hi.yB; omega
  have hsw : sb < w.heap.size := by have := hi.big; have := hi.sB; omega
  obtain ⟨m, hm⟩ : ∃ m, cs.length = m := ⟨_, rfl⟩
  have hsm : sN < m := by
    have := (List.getElem?_eq_some_iff.1 hu).1
    have := hro.olen
    omega
  obtain ⟨SA, SC, hsen, hsa⟩ := hi.sen
  rw [hro.olen, hm] at hsen hsa
  have hsa : SA = some ⟨sb, 0, none⟩ := by
    rcases hsa with h | h
    · omega
    · exact h
  subst hsa
  rw [hm] at hcl
  obtain ⟨cb, coff, hAc, hcb, hcl0⟩ := hc.at sN (by omega)
  subst hAc
  have hclk := hro.clk sN s hs
  have hk1 : (cs.getD sN (0, 0, 0)).1 = s.o := by rw [← hclk]
  have hk2 : (cs.getD sN (0, 0, 0)).2.1 = s.n := by rw [← hclk]
  have hk3 : (cs.getD sN (0, 0, 0)).2.2 = s.d := by rw [← hclk]
  rw [hk1, hk2, hk3] at hcl0
  obtain ⟨k0, k1, k2⟩ := hcl0
  have hb1 := (Below.refl w.heap.size w).alloc (Nat.le_refl _) (.cells #[.int .i64 sN, .int .u32 sq, .int .u32 st, .slice A n c] 38)
  have HCK := Lib.hid (rchk_any sN sq st A n c bs _ (hfl.below hb1) hl h64)
  have HB1 := Lib.hid hb1
  rw [hq] at HCK
  have hsm0 : (0 : Int) ≤ (sN : Int) := by omega
  have hsm1 : (sN : Int) < (m : Int) := by omega
  have hsm2 : ¬ (m : Int) ≤ (sN : Int) := by omega
  have HUN := Lib.hid (fun W => runwrap_any s.last st W st0 st1)
  rw [u2] at HUN
  have hrs := (hro.sn sN s u hs hu).last
  have S := hi.sn sN _ hu 0 (by omega)
  have g0 := hi.at_ 0 (by omega)
  have g2 := hi.at_ 2 (by omega)
  obtain ⟨so, sn_, sd, slast, ssm, smost, staken⟩ := s
  obtain ⟨ulast, utop, uany, utv, uts⟩ := u
  have hul : ulast = slast := hrs
  subst hul
  simp only at HUN k0 k1 k2
  obtain ⟨oc, owin, osen, owait, otop, oany, obound, oct, ocd, oco, ocl, ocs⟩ := o
  simp only at hcl hsen
  subst hcl hsen
  simp only [OJ.row, OS.row, List.getElem?_cons_zero, List.getElem?_cons_succ, Nat.add_zero] at g0 g2 S
  clear hi hro hc hfl h64 hq hs hu hm hclk hk1 hk2 hk3 hb1 hrs u2
  go_enter Tryz.func13, Tryz.ntmps13
  go_wp2_with fail
  refine HCK.out.mono ?_
  rintro e w2 ⟨rfl, hb2⟩
  have hbb := HB1.out.trans (hb2.mono HB1.out.size)
  have r0 : w2.cell? ⟨w.heap.size, 0, none⟩ = some (.int .i64 sN) := (hb2.cell (p := ⟨w.heap.size, 0, none⟩) (by simp)).trans (by simp [go_sem])
  have hbx2 : w.heap.size < w2.heap.size := Nat.lt_of_lt_of_le (by simp) hb2.size
  have r2 : w2.cell? ⟨w.heap.size, 2, none⟩ = some (.int .u32 st) := (hb2.cell (p := ⟨w.heap.size, 2, none⟩) (by simp)).trans (by simp [go_sem])
  replace g0 := (hbb.cell (p := ⟨y, 0, none⟩) hyw).trans g0
  replace g2 := (hbb.cell (p := ⟨y, 2, none⟩) hyw).trans g2
  replace S := (hbb.cell (p := ⟨sb, sN * 4, none⟩) hsw).trans S
  replace k0 := (hbb.cell (p := ⟨cb, coff + sN * 3, none⟩) hcb).trans k0
  replace k1 := (hbb.cell (p := ⟨cb, coff + sN * 3 + 1, none⟩) hcb).trans k1
  replace k2 := (hbb.cell (p := ⟨cb, coff + sN * 3 + 2, none⟩) hcb).trans k2
  have hy2 := Nat.lt_of_lt_of_le hyw hbb.size
  have hs2 := Nat.lt_of_lt_of_le hsw hbb.size
  have hc2 := Nat.lt_of_lt_of_le hcb hbb.size
  have HB2 := Lib.hid hbb
  clear hb2 hbb HCK HB1 hyw hsw hcb
  generalize hbxe : w.heap.size = bx at *
  have HBXE := Lib.hid hbxe
  clear hbxe
  go_wp2_with fail
  go_region
  all_goals go_wp2_with fail
  go_region
  all_goals go_wp2_with fail
  have hcur : Below w2.heap.size w2 w2.drew.drew.drew := (Below.refl _ _).drew.drew.drew
  go_region_held3 (fun w' => w'.cell? ⟨sb, sN * 4, none⟩ = some (.int .i64 ulast) ∧ w'.cell? ⟨bx, 2, none⟩ = some (.int .u32 st))
    (first | exact ⟨(hcur.cell (by exact hs2)).trans S, (hcur.cell (by exact hbx2)).trans r2⟩)
    (first | (go_at_call 10; refine (HUN.out _).mono ?_; rintro e w3 ⟨rfl, hb3⟩; replace hcur := back_of hcur hb3; clear hb3))
  have HFIN := Lib.hid (show Below bx w _ from HB2.out.trans (hcur.mono (Nat.le_of_lt hbx2)))
  go_wp2_with fail
  go_ret3
  exact ⟨rfl, by rw [HBXE.out]; exact HFIN.out⟩

set_option maxRecDepth 100000 in
set_option maxHeartbeats 16000000 in
theorem opush_tim (y sb B : Nat) (o : OJ) (oss : List OS) (ys : List El) (cs : List (Int × Int × Int)) (j : Jn) (sns : List Sn) (xs : List El) (sN : Nat) (sq st : Int) (A : Option Addr) (n c : Nat) (bs : List Nat) (w : World) (hi : OI w y sb B o oss ys) (hro : RO cs j sns xs o oss ys) (Ac : Option Addr) (cc : Nat) (hcl : o.cl = .slice Ac cs.length cc) (hc : ClRow w Ac cs)
    (hfl : FlAt w A n bs) (hl : n * 8 ≤ 140737488355328) (h64 : Lt64 bs) (hq : chkE (sN : Int) n bs = 0) (s : Sn) (u : OS) (hs : sns[sN]? = some s) (hu : oss[sN]? = some u) (st0 : 0 ≤ st) (st1 : st ≤ 4294967295) (cnt : Int) (u1 : Ck.unwV s.last st = cnt) (u2 : Ck.unwE s.last st = 0) (t2 : Ck.timeE s.o s.n s.d cnt ≠ 0) :
    Calls Tryz.prog 13 #[.pointer (some ⟨y, 0, none⟩), .agg #[.int .i64 sN, .int .u32 sq, .int .u32 st, .slice A n c]] w fun e w' => e = .returned (.tuple #[.int .i64 0, .slice none 0 0, .int .i64 (Ck.timeE s.o s.n s.d cnt)]) ∧ Below w.heap.size w w' := by
  have hyw : y < w.heap.size := by have := hi.big; have := hi.yB; omega
  have hsw : sb < w.heap.size := by have := hi.big; have := hi.sB; omega
  obtain ⟨m, hm⟩ : ∃ m, cs.length = m := ⟨_, rfl⟩
  have hsm : sN < m := by
    have := (List.getElem?_eq_some_iff.1 hu).1
    have := hro.olen
    omega
  obtain ⟨SA, SC, hsen, hsa⟩ := hi.sen
  rw [hro.olen, hm] at hsen hsa
  have hsa : SA = some ⟨sb, 0, none⟩ := by
    rcases hsa with h | h
    · omega
    · exact h
  subst hsa
  rw [hm] at hcl
  obtain ⟨cb, coff, hAc, hcb, hcl0⟩ := hc.at sN (by omega)
  subst hAc
  have hclk := hro.clk sN s hs
  have hk1 : (cs.getD sN (0, 0, 0)).1 = s.o := by rw [← hclk]
  have hk2 : (cs.getD sN (0, 0, 0)).2.1 = s.n := by rw [← hclk]
  have hk3 : (cs.getD sN (0, 0, 0)).2.2 = s.d := by rw [← hclk]
  rw [hk1, hk2, hk3] at hcl0
  obtain ⟨k0, k1, k2⟩ := hcl0
  have hb1 := (Below.refl w.heap.size w).alloc (Nat.le_refl _) (.cells #[.int .i64 sN, .int .u32 sq, .int .u32 st, .slice A n c] 38)
  have HCK := Lib.hid (rchk_any sN sq st A n c bs _ (hfl.below hb1) hl h64)
  have HB1 := Lib.hid hb1
  rw [hq] at HCK
  have hsm0 : (0 : Int) ≤ (sN : Int) := by omega
  have hsm1 : (sN : Int) < (m : Int) := by omega
  have hsm2 : ¬ (m : Int) ≤ (sN : Int) := by omega
  have HUN := Lib.hid (fun W => runwrap_any s.last st W st0 st1)
  rw [u1, u2] at HUN
  have HTI := Lib.hid (fun W => Bg.rtime_any s.o s.n s.d cnt W)
  unfold clk at HTI
  obtain ⟨ee, hee⟩ : ∃ y, Ck.timeE s.o s.n s.d cnt = y := ⟨_, rfl⟩
  rw [hee] at HTI t2 ⊢
  have t2' : (ee != 0) = true := by simpa using t2
  have hrs := (hro.sn sN s u hs hu).last
  have S := hi.sn sN _ hu 0 (by omega)
  have g0 := hi.at_ 0 (by omega)
  have g2 := hi.at_ 2 (by omega)
  obtain ⟨so, sn_, sd, slast, ssm, smost, staken⟩ := s
  obtain ⟨ulast, utop, uany, utv, uts⟩ := u
  have hul : ulast = slast := hrs
  subst hul
  simp only at HUN k0 k1 k2 HTI
  obtain ⟨oc, owin, osen, owait, otop, oany, obound, oct, ocd, oco, ocl, ocs⟩ := o
  simp only at hcl hsen
  subst hcl hsen
  simp only [OJ.row, OS.row, List.getElem?_cons_zero, List.getElem?_cons_succ, Nat.add_zero] at g0 g2 S
  clear hi hro hc hfl h64 hq hs hu hm hclk hk1 hk2 hk3 hb1 hrs u1 u2 hee
  go_enter Tryz.func13, Tryz.ntmps13
  go_wp2_with fail
  refine HCK.out.mono ?_
  rintro e w2 ⟨rfl, hb2⟩
  have hbb := HB1.out.trans (hb2.mono HB1.out.size)
  have r0 : w2.cell? ⟨w.heap.size, 0, none⟩ = some (.int .i64 sN) := (hb2.cell (p := ⟨w.heap.size, 0, none⟩) (by simp)).trans (by simp [go_sem])
  have hbx2 : w.heap.size < w2.heap.size := Nat.lt_of_lt_of_le (by simp) hb2.size
  have r2 : w2.cell? ⟨w.heap.size, 2, none⟩ = some (.int .u32 st) := (hb2.cell (p := ⟨w.heap.size, 2, none⟩) (by simp)).trans (by simp [go_sem])
  replace g0 := (hbb.cell (p := ⟨y, 0, none⟩) hyw).trans g0
  replace g2 := (hbb.cell (p := ⟨y, 2, none⟩) hyw).trans g2
  replace S := (hbb.cell (p := ⟨sb, sN * 4, none⟩) hsw).trans S
  replace k0 := (hbb.cell (p := ⟨cb, coff + sN * 3, none⟩) hcb).trans k0
  replace k1 := (hbb.cell (p := ⟨cb, coff + sN * 3 + 1, none⟩) hcb).trans k1
  replace k2 := (hbb.cell (p := ⟨cb, coff + sN * 3 + 2, none⟩) hcb).trans k2
  have hy2 := Nat.lt_of_lt_of_le hyw hbb.size
  have hs2 := Nat.lt_of_lt_of_le hsw hbb.size
  have hc2 := Nat.lt_of_lt_of_le hcb hbb.size
  have HB2 := Lib.hid hbb
  clear hb2 hbb HCK HB1 hyw hsw hcb
  generalize hbxe : w.heap.size = bx at *
  have HBXE := Lib.hid hbxe
  clear hbxe
  go_wp2_with fail
  go_region
  all_goals go_wp2_with fail
  go_region
  all_goals go_wp2_with fail
  have hcur : Below w2.heap.size w2 w2.drew.drew.drew := (Below.refl _ _).drew.drew.drew
  go_region_held3 (fun w' => w'.cell? ⟨sb, sN * 4, none⟩ = some (.int .i64 ulast) ∧ w'.cell? ⟨bx, 2, none⟩ = some (.int .u32 st))
    (first | exact ⟨(hcur.cell (by exact hs2)).trans S, (hcur.cell (by exact hbx2)).trans r2⟩)
    (first | (go_at_call 10; refine (HUN.out _).mono ?_; rintro e w3 ⟨rfl, hb3⟩; replace hcur := back_of hcur hb3; clear hb3))
  go_wp2_with fail
  replace hcur := hcur.drew
  go_region_held3 (fun w' => w'.cell? ⟨y, 0, none⟩ = some (.slice (some ⟨cb, coff, none⟩) m cc) ∧ w'.cell? ⟨bx, 0, none⟩ = some (.int .i64 sN) ∧ w'.cell? ⟨cb, coff + sN * 3, none⟩ = some (.int .i64 so) ∧ w'.cell? ⟨cb, coff + sN * 3 + 1, none⟩ = some (.int .i64 sn_) ∧ w'.cell? ⟨cb, coff + sN * 3 + 2, none⟩ = some (.int .i64 sd))
    (first | exact ⟨(hcur.cell (by exact hy2)).trans g0, (hcur.cell (by exact hbx2)).trans r0, (hcur.cell (by exact hc2)).trans k0, (hcur.cell (by exact hc2)).trans k1, (hcur.cell (by exact hc2)).trans k2⟩)
    (first | (go_at_call 11; refine (HTI.out _).mono ?_; rintro e w4 ⟨rfl, hb4⟩; replace hcur := back_of hcur hb4; clear hb4))
  have HFIN := Lib.hid (show Below bx w _ from HB2.out.trans (hcur.mono (Nat.le_of_lt hbx2)))
  go_wp2_with fail
  go_ret3
  exact ⟨rfl, by rw [HBXE.out]; exact HFIN.out⟩

theorem opush_bad (y sb B : Nat) (o : OJ) (oss : List OS) (ys : List El) (cs : List (Int × Int × Int)) (j : Jn) (sns : List Sn) (xs : List El) (se sq st : Int) (A : Option Addr) (n c : Nat) (bs : List Nat) (w : World) (hi : OI w y sb B o oss ys) (hro : RO cs j sns xs o oss ys) (Ac : Option Addr) (cc : Nat) (hcl : o.cl = .slice Ac cs.length cc) (hc : ClRow w Ac cs)
    (hfl : FlAt w A n bs) (hl : n * 8 ≤ 140737488355328) (h64 : Lt64 bs) (st0 : 0 ≤ st) (st1 : st ≤ 4294967295) (hE : pushE sns se st n bs ≠ 0) :
    Calls Tryz.prog 13 #[.pointer (some ⟨y, 0, none⟩), .agg #[.int .i64 se, .int .u32 sq, .int .u32 st, .slice A n c]] w fun e w' => e = .returned (.tuple #[.int .i64 0, .slice none 0 0, .int .i64 (pushE sns se st n bs)]) ∧ Below w.heap.size w w' := by
  unfold pushE at hE ⊢
  by_cases hq : chkE se n bs = 0
  · rw [if_neg (by rw [hq]; simp)] at hE ⊢
    obtain ⟨se0, se1, -⟩ := chkE_zero hq
    obtain ⟨sN, rfl⟩ := Int.eq_ofNat_of_zero_le se0
    rw [Int.toNat_natCast] at hE ⊢
    cases hs : sns[sN]? with
    | none =>
      have := List.getElem?_eq_none_iff.1 hs
      have := hro.len
      exact opush_nos y sb B o oss ys cs j sns xs sN sq st A n c bs w hi hro Ac cc hcl hfl hl h64 hq (by omega)
    | some s =>
      rw [hs] at hE
      simp only at hE ⊢
      obtain ⟨u, hu, -⟩ := hro.at hs
      rcases unwE_two s.last st with h2 | h2
      · rw [if_neg (by rw [h2]; simp)] at hE ⊢
        exact opush_tim y sb B o oss ys cs j sns xs sN sq st A n c bs w hi hro Ac cc hcl hc hfl hl h64 hq s u hs hu st0 st1 _ rfl h2 hE
      · rw [if_pos (by rw [h2]; simp), h2]
        exact opush_unw y sb B o oss ys cs j sns xs sN sq st A n c bs w hi hro Ac cc hcl hc hfl hl h64 hq s u hs hu st0 st1 h2
  · rw [if_pos hq]
    exact opush_chk y se sq st A n c bs w hfl hl h64 hq
end Go.Proofs.YtebacmmfjadalaaGreat

namespace Go.Proofs.YtebacmmfjadalaaGreat
open Go Go.RowKit

/-- the reference's joiner behind a flush -/
def flO (o : OJ) (n : Nat) : OJ := { o with wait := .slice none 0 0, cs := o.cs + n, bound := if o.any = true then max o.bound (o.top + 1) else o.bound }
/-- nothing waits any more -/
theorem OI.empty {W : World} {y sb B : Nat} {o o' : OJ} {oss : List OS} {ys : List El} (h : OI W y sb B o oss ys) (hr : o'.row = o.row.set 3 (.slice none 0 0)) (e1 : o'.sen = o.sen) (e2 : o'.wait = .slice none 0 0) : OI (W.setCell ⟨y, 3, none⟩ (.slice none 0 0)) y sb B o' oss [] := by
  have hk : Ft W (W.setCell ⟨y, 3, none⟩ (.slice none 0 0)) (fun b => b = y) := (Ft.of_below (Below.refl _ W) (fun b => b = y)).set (p := ⟨y, 3, none⟩) rfl _
  have hb : ∀ b, b ≠ y → (W.setCell ⟨y, 3, none⟩ (.slice none 0 0)).heap[b]? = W.heap[b]? := fun b hb => by
    simp only [World.setCell, Array.getElem?_modify]
    rw [if_neg (by intro e; exact hb e.symm)]
  have es := hb sb (fun e => h.ne e.symm)
  have hy := h.yB
  refine ⟨fun k hk => ?_, by rw [e1]; exact h.sen, fun i s hs j hj => (World.cell?_of_block es).trans (h.sn i s hs j hj), ?_, fun s hs => (h.nums s hs).keep (fun g hg _ => hb g (by have := ((h.nums s hs).lt hg).1; omega)), h.two, fun s hs g hg => by rw [e2]; simp [Value.ownBlock], fun e he => by simp at he, fun k => ?_, fun i => (World.frozen?_of_block es).trans (h.fs i), Nat.le_trans h.big hk.size, h.yB, h.sB, h.ne⟩
  · rw [hr]
    have hl : o.row.length = 12 := rfl
    have h1 := h.at_ k hk
    by_cases e : k = 3
    · subst e
      rw [List.getElem?_set_self (by omega)]
      rw [List.getElem?_eq_getElem (by omega)] at h1
      exact set_self h1
    · rw [List.getElem?_set_ne (fun q => e q.symm)]
      exact (set_ne (fun q => e q.symm)).trans h1
  · rw [e2]
    exact World.ownsRow_nil _ _ _ _
  · rw [← h.fy k]; simp [go_sem]

set_option maxRecDepth 8000 in
set_option maxHeartbeats 4000000 in
theorem oflush_any (y sb B : Nat) (o : OJ) (oss : List OS) (ys : List El) (w : World) (hi : OI w y sb B o oss ys) (hl : ys.length ≤ 1099511627776) (z0 : 0 ≤ o.cs) (z1 : o.cs ≤ 1099511627775) (ht : o.any = true → -4503599627370496 ≤ o.top ∧ o.top ≤ 4503599627370496) :
    Calls Tryz.prog 18 #[.pointer (some ⟨y, 0, none⟩)] w fun e w' => e = .returned o.wait ∧ Hid (OI w' y sb B (flO o ys.length) oss [] ∧ Ft w w' (fun b => b = y)) := by
  have HOI := Lib.hid hi
  have HFY := Lib.hid hi.fy
  have G := hi.at_
  obtain ⟨WA, WC, hwv⟩ := hi.row.slice
  obtain ⟨wn, hwn⟩ : ∃ k, ys.length = k := ⟨_, rfl⟩
  have HWN := Lib.hid hwn
  rw [hwn] at hwv hl ⊢
  obtain ⟨oc, owin, osen, owait, otop, oany, obound, oct, ocd, oco, ocl, ocs⟩ := o
  simp only at hwv z0 z1 ht
  subst hwv
  have g3 := G 3 (by omega)
  have g4 := G 4 (by omega)
  have g5 := G 5 (by omega)
  have g6 := G 6 (by omega)
  have g11 := G 11 (by omega)
  have f3 := HFY.out 3
  have f6 := HFY.out 6
  have f11 := HFY.out 11
  simp only [OJ.row, List.getElem?_cons_zero, List.getElem?_cons_succ] at g3 g4 g5 g6 g11
  clear hi G hwn
  have hw1 : IntKind.i64.wrap (ocs + (wn : Int)) = ocs + (wn : Int) := by rw [IntKind.wrap_i64]; omega
  have HI2 := Lib.hid ((HOI.out.empty (o' := ⟨oc, owin, osen, .slice none 0 0, otop, oany, obound, oct, ocd, oco, ocl, ocs⟩) rfl rfl rfl).cell (i := 11) (u := .int .i64 (ocs + (wn : Int))) (o' := ⟨oc, owin, osen, .slice none 0 0, otop, oany, obound, oct, ocd, oco, ocl, ocs + (wn : Int)⟩) (by omega) rfl rfl rfl)
  have HF2 := Lib.hid (((Ft.of_below (Below.refl _ w) (fun b => b = y)).set (p := ⟨y, 3, none⟩) rfl (.slice none 0 0)).set (p := ⟨y, 11, none⟩) rfl (.int .i64 (ocs + (wn : Int))))
  unfold flO
  simp only
  clear HOI HFY
  cases oany
  · clear ht
    go_enter Tryz.func18, Tryz.ntmps18
    go_wp2_with fail
    go_ret
    exact ⟨rfl, Lib.hid ⟨HI2.out, HF2.out⟩⟩
  · obtain ⟨t0, t1⟩ := ht rfl
    clear ht
    have hw2 : IntKind.i64.wrap (otop + 1) = otop + 1 := by rw [IntKind.wrap_i64]; omega
    have HI3 := Lib.hid ((HI2.out.below (Below.refl _ _).drew).cell (i := 6) (u := .int .i64 (max obound (otop + 1))) (o' := ⟨oc, owin, osen, .slice none 0 0, otop, true, max obound (otop + 1), oct, ocd, oco, ocl, ocs + (wn : Int)⟩) (by omega) rfl rfl rfl)
    have HF3 := Lib.hid ((HF2.out.drew).set (p := ⟨y, 6, none⟩) rfl (.int .i64 (max obound (otop + 1))))
    go_enter Tryz.func18, Tryz.ntmps18
    go_upto_region 5 with fail
    go_region
    all_goals go_wp2_with fail
    all_goals go_ret
    all_goals exact ⟨rfl, Lib.hid ⟨HI3.out, HF3.out⟩⟩
end Go.Proofs.YtebacmmfjadalaaGreat

namespace Go.Proofs.YtebacmmfjadalaaGreat
open Go Go.RowKit Go.WideShapes

theorem infoN : (Tryz.prog.info? 32).map (fun i => (i.zero, i.size, i.bytes)) = some (some (.int .u32 0), 1, 4) := by kernel_rfl
theorem run_append_num (B : Nat) (w : World) (v : Value) (ts : List Int) (q : Int) (hr : NRow B w v ts) (hB : B ≤ w.heap.size) (hlen : ts.length ≤ 1099511627776) (ad : Addr) (c : Nat) (hnew : w.cell? (ad.add 0) = some (.int .u32 q)) (ty : TypeId) :
    ∃ v' w', (Builtin.append_ #[48, 48] ty #[v, .slice (some ad) 1 c]).run Tryz.prog w = .ok v' w' ∧ NRow B w' v' (ts ++ [q]) ∧ w.grownBy w' v.ownBlock ∧ (v'.ownBlock = v.ownBlock ∨ v'.ownBlock = some w.heap.size) := by
  obtain ⟨i0, hi0, hz0, hz1, hz2⟩ := info_parts infoN
  obtain ⟨v', w', hrun, hown, hg, -, hat⟩ := run_append_own_at (P := Tryz.prog) w B 48 ty 32 i0 _ 1 4 Tryz.underlying48 hi0 hz0 hz1 hz2 rfl (by omega) v ts.length _ hr
    ad 1 c [.int .u32 q] rfl (fun j u hu => by
      have hj : j = 0 := by
        have := (List.getElem?_eq_some_iff.1 hu).1
        simp at this
        omega
      subst hj
      rw [hnew]
      exact hu) (fun u hu => by simp at hu; subst hu; rfl) (by simp only [maxLen]; omega) (by omega) hB
  refine ⟨v', w', hrun, ?_, hg, hat⟩
  unfold NRow
  rw [List.length_append, List.map_append]
  exact hown
theorem step_append_num {B : Nat} {ops : Array Oper} {o : Oper} {a : Act} {w : World} {K : Act → World → Prop} {Q : Exit → Act → World → Prop} {E : Prop} (hg : o.guard = none) (s x : Operand)
    (hop : o.op = Op.call { callee := Callee.builtin Builtin.append, args := #[s, x], argTypes := #[48, 48] }) (v : Value) (ts : List Int) (q : Int) (hs : a.eval s = v) (hr : NRow B w v ts) (hB : B ≤ w.heap.size) (hlen : ts.length ≤ 1099511627776)
    (ad : Addr) (c : Nat) (hx : a.eval x = .slice (some ad) 1 c) (hnew : w.cell? (ad.add 0) = some (.int .u32 q))
    (hK : ∀ v' w', NRow B w' v' (ts ++ [q]) → w.grownBy w' v.ownBlock → (v'.ownBlock = v.ownBlock ∨ v'.ownBlock = some w.heap.size) → K (a.put o.dst v') w') :
    if Region.wanted o (yielded ops a.tmps) = true then Oper.wp Tryz.prog o a w K Q else E := by
  have hw : Region.wanted o (yielded ops a.tmps) = true := by simp [Region.wanted, hg]
  rw [if_pos hw]
  obtain ⟨v', w', hrun, r1, r2, r3⟩ := run_append_num B w v ts q hr hB hlen ad c hnew o.type
  unfold Oper.wp
  simp [execOp, hop, resolve, invoke, builtin, hs, hx, hrun, Result.andThen]
  exact hK v' w' r1 r2 r3
/-- a stretch of timed readings appended to the nil slice -/
theorem run_append_tl (w : World) (ad : Addr) (n c : Nat) (ys : List El) (hn : ys.length = n) (h : ∀ i e, ys[i]? = some e → ∀ j, j < 5 → w.cell? (ad.add (i * 5 + j)) = e.row[j]?) (hl : n ≤ 1099511627776) (ty : TypeId) :
    ∃ v' w', (Builtin.append_ #[41, 41] ty #[.slice none 0 0, .slice (some ad) n c]).run Tryz.prog w = .ok v' w' ∧ Row w.heap.size w' v' ys ∧ Below w.heap.size w w' := by
  obtain ⟨i0, hi0, hz0, hz1, hz2⟩ := info_parts infoT
  obtain ⟨v', w', hrun, hown, hg, -, -⟩ := run_append_own_at (P := Tryz.prog) w w.heap.size 41 ty 63 i0 _ 5 48 Tryz.underlying41 hi0 hz0 hz1 hz2 rfl (by omega) (.slice none 0 0) 0 [] (World.ownsRow_nil _ _ _ _)
    ad n c (flat ys) (by rw [flat_len, hn]) (fun j u hu => by
      have hj : j < ys.length * 5 := by
        have := (List.getElem?_eq_some_iff.1 hu).1
        rwa [flat_len] at this
      obtain ⟨e, he⟩ := get_some (xs := ys) (i := j / 5) (by omega)
      have e1 := h (j / 5) e he (j % 5) (by omega)
      have e2 := flat_get ys (j / 5) (j % 5) e he (by omega)
      rw [show j / 5 * 5 + j % 5 = j by omega] at e1 e2
      rw [e1, ← e2, hu]) (flat_one _) (by simp only [maxLen]; omega) (by omega) (Nat.le_refl _)
  refine ⟨v', w', hrun, ?_, (Below.refl _ _).grown hg (Nat.le_refl _) (by simp [Value.ownBlock])⟩
  unfold Row
  rw [Nat.zero_add, List.nil_append] at hown
  rw [hn]
  exact hown
section
variable (w : World)
theorem wp_append_tl {o : Oper} {a : Act} {K : Act → World → Prop} {Q : Exit → Act → World → Prop} (s x : Operand)
    (ho : o.op = .call { callee := .builtin .append, args := #[s, x], argTypes := #[41, 41] }) (ad : Addr) (n c : Nat) (ys : List El) (hs : a.eval s = .slice none 0 0) (hx : a.eval x = .slice (some ad) n c) (hn : ys.length = n) (hm : ∀ i e, ys[i]? = some e → ∀ j, j < 5 → w.cell? (ad.add (i * 5 + j)) = e.row[j]?) (hl : n ≤ 1099511627776)
    (h : ∀ v' w', Row w.heap.size w' v' ys → Below w.heap.size w w' → K (a.put o.dst v') w') : o.wp Tryz.prog a w K Q := by
  obtain ⟨v', w', hrun, h2, h3⟩ := run_append_tl w ad n c ys hn hm hl o.type
  unfold Oper.wp execOp
  simp only [ho, resolve, invoke, builtin, Sem.run_bind, Sem.run_pure, Result.andThen_ok, List.map_toArray, List.map_cons, List.map_nil, hs, hx, hrun]
  exact h v' w' h2 h3
theorem wpList_append_tl {ops : Array Oper} {rest : List Oper} {o : Oper} {a : Act} {Q : Exit → Act → World → Prop} (hgd : o.guard = none) (s x : Operand)
    (ho : o.op = .call { callee := .builtin .append, args := #[s, x], argTypes := #[41, 41] }) (ad : Addr) (n c : Nat) (ys : List El) (hs : a.eval s = .slice none 0 0) (hx : a.eval x = .slice (some ad) n c) (hn : ys.length = n) (hm : ∀ i e, ys[i]? = some e → ∀ j, j < 5 → w.cell? (ad.add (i * 5 + j)) = e.row[j]?) (hl : n ≤ 1099511627776)
    (h : ∀ v' w', Row w.heap.size w' v' ys → Below w.heap.size w w' → wpList Tryz.prog ops Q rest (a.put o.dst v') w') : wpList Tryz.prog ops Q (o :: rest) a w :=
  wpList_plain hgd fun _ hK => wp_append_tl w s x ho ad n c ys hs hx hn hm hl fun v' w' h2 h3 => hK _ _ (h v' w' h2 h3)
end
/-- the cells of a row -/
theorem Row.cells {B : Nat} {w : World} {g n c : Nat} {xs : List El} (h : Row B w (.slice (some ⟨g, 0, none⟩) n c) xs) : ∀ i e, xs[i]? = some e → ∀ j, j < 5 → w.cell? ⟨g, i * 5 + j, none⟩ = e.row[j]? := fun i e he j hj => by
  have hi : i < xs.length := (List.getElem?_eq_some_iff.1 he).1
  have hn : n = xs.length := by
    rcases h.2 with ⟨h1, -⟩ | ⟨g', cap, cur, h1, -⟩
    · cases h1
    · injection h1
  subst hn
  unfold Row at h
  exact (World.ownsRow.cellAt h (i * 5 + j) (by omega)).trans (flat_get xs i j e he hj)

/-- a reading in a box -/
structure RB where
  se : Int
  sq : Int
  st : Int
  A : Option Addr
  n : Nat
  c : Nat
  bs : List Nat
def RB.at (W : World) (bx : Nat) (r : RB) : Prop := W.cell? ⟨bx, 0, none⟩ = some (.int .i64 r.se) ∧ W.cell? ⟨bx, 1, none⟩ = some (.int .u32 r.sq) ∧ W.cell? ⟨bx, 2, none⟩ = some (.int .u32 r.st) ∧ W.cell? ⟨bx, 3, none⟩ = some (.slice r.A r.n r.c)
theorem RB.at.keep {W W' : World} {bx : Nat} {r : RB} (h : r.at W bx) (e : W'.heap[bx]? = W.heap[bx]?) : r.at W' bx :=
  ⟨(World.cell?_of_block e).trans h.1, (World.cell?_of_block e).trans h.2.1, (World.cell?_of_block e).trans h.2.2.1, (World.cell?_of_block e).trans h.2.2.2⟩
/-- the reference's joiner between two of Push's statements -/
structure OST (w W : World) (bx y sb B : Nat) (r : RB) (o0 : OJ) (oss0 : List OS) (o : OJ) (oss : List OS) (ys : List El) : Prop where
  oi : OI W y sb B o oss ys
  box : r.at W bx
  bl : bx < W.heap.size
  bb : w.heap.size ≤ bx
  ft : Ft w W (FO y sb o0 oss0)
  own : ∀ b, FO y sb o oss b → FO y sb o0 oss0 b ∨ w.heap.size ≤ b
  nb : ¬ FO y sb o oss bx
  fl : FlAt W r.A r.n r.bs
  far : ∀ b f, r.A = some ⟨b, f, none⟩ → OutO y sb o oss ys b ∧ B ≤ b ∧ b < W.heap.size
section
variable {w W W' : World} {bx y sb B : Nat} {r : RB} {o0 : OJ} {oss0 : List OS} {o o' : OJ} {oss : List OS} {ys : List El}
theorem FlAt.ft {A : Option Addr} {n : Nat} {bs : List Nat} {F : Nat → Prop} (h : FlAt W A n bs) (k : Ft W W' F) (hF : ∀ b f, A = some ⟨b, f, none⟩ → b < W.heap.size → ¬ F b) : FlAt W' A n bs := by
  refine ⟨h.1, h.2.imp id ?_⟩
  rintro ⟨b, off, h1, h2, h3⟩
  have he := k.block b h2 (hF b off h1 h2)
  exact ⟨b, off, h1, Nat.lt_of_lt_of_le h2 k.size, fun i hi => (World.cell?_of_block he).trans (h3 i hi)⟩
theorem OST.below (h : OST w W bx y sb B r o0 oss0 o oss ys) (hb : Below W.heap.size W W') : OST w W' bx y sb B r o0 oss0 o oss ys :=
  ⟨h.oi.below hb, h.box.keep (hb.block bx h.bl), Nat.lt_of_lt_of_le h.bl hb.size, h.bb, h.ft.trans (Ft.of_below hb _), h.own, h.nb, h.fl.below hb, fun b f e => ⟨(h.far b f e).1, (h.far b f e).2.1, Nat.lt_of_lt_of_le (h.far b f e).2.2 hb.size⟩⟩
/-- one of its own blocks is turned -/
theorem OST.turn (h : OST w W bx y sb B r o0 oss0 o oss ys) {F : Nat → Prop} {oss' : List OS} {ys' : List El} (hi : OI W' y sb B o' oss' ys') (k : Ft W W' F) (hF : ∀ b, F b → FO y sb o oss b) (hown : ∀ b, FO y sb o' oss' b → FO y sb o oss b ∨ W.heap.size ≤ b) (hfar : ∀ b f, r.A = some ⟨b, f, none⟩ → ∀ e ∈ ys', Away e (some b)) : OST w W' bx y sb B r o0 oss0 o' oss' ys' := by
  have hsz := h.ft.size
  have hbl := h.bl
  have hbb := h.bb
  refine ⟨hi, h.box.keep (k.block bx h.bl (fun q => h.nb (hF bx q))), Nat.lt_of_lt_of_le h.bl k.size, h.bb, h.ft.then k (fun b hb hf => ?_), fun b hb => ?_, fun q => ?_, h.fl.ft k (fun b f e _ hf => (h.far b f e).1.own (hF b hf)), fun b f e => ⟨⟨fun q => ?_, hfar b f e⟩, (h.far b f e).2.1, Nat.lt_of_lt_of_le (h.far b f e).2.2 k.size⟩⟩
  · rcases h.own b (hF b hf) with q | q
    · exact q
    · omega
  · rcases hown b hb with q | q
    · exact h.own b q
    · exact .inr (by omega)
  · rcases hown bx q with e | e
    · exact h.nb e
    · omega
  · have hlt := (h.far b f e).2.2
    rcases hown b q with e' | e'
    · exact (h.far b f e).1.own e'
    · omega
theorem OST.cell (h : OST w W bx y sb B r o0 oss0 o oss ys) {i : Nat} {u : Value} (hi : i < 12) (hr : o'.row = o.row.set i u) (e1 : o'.sen = o.sen) (e2 : o'.wait = o.wait) : OST w (W.setCell ⟨y, i, none⟩ u) bx y sb B r o0 oss0 o' oss ys :=
  h.turn (F := fun b => b = y) (h.oi.cell hi hr e1 e2) ((Ft.of_below (Below.refl _ W) (fun b => b = y)).set (p := ⟨y, i, none⟩) rfl u) (fun _ e => .inl e) (fun b hb => .inl (by unfold FO at hb ⊢; rw [e2] at hb; exact hb)) (fun b f e => (h.far b f e).1.val)
theorem OST.sens (h : OST w W bx y sb B r o0 oss0 o oss ys) {i j : Nat} {s s' : OS} {u : Value} (hs : oss[i]? = some s) (hj : j < 4) (hr : s'.row = s.row.set j u) (e1 : s'.tv = s.tv) (e2 : s'.ts = s.ts) : OST w (W.setCell ⟨sb, i * 4 + j, none⟩ u) bx y sb B r o0 oss0 o (oss.set i s') ys :=
  h.turn (F := fun b => b = sb) (h.oi.sens hs hj hr e1 e2) ((Ft.of_below (Below.refl _ W) (fun b => b = sb)).set (p := ⟨sb, i * 4 + j, none⟩) rfl u) (fun _ e => .inr (.inl e)) (fun b hb => .inl (by
    rcases hb with hb | hb | ⟨t, ht, hb⟩ | hb
    · exact .inl hb
    · exact .inr (.inl hb)
    · rcases List.mem_or_eq_of_mem_set ht with q | q
      · exact .inr (.inr (.inl ⟨t, q, hb⟩))
      · exact .inr (.inr (.inl ⟨s, List.mem_of_getElem? hs, by rw [← e1, ← q]; exact hb⟩))
    · exact .inr (.inr (.inr hb)))) (fun b f e => (h.far b f e).1.val)
theorem set_blk {W : World} {b i c : Nat} {u : Value} (h : c ≠ b) : (W.setCell ⟨b, i, none⟩ u).heap[c]? = W.heap[c]? := by
  simp only [World.setCell, Array.getElem?_modify]
  rw [if_neg (by intro e; exact h e.symm)]
theorem set_size {W : World} {b i : Nat} {u : Value} : (W.setCell ⟨b, i, none⟩ u).heap.size = W.heap.size := by simp [World.setCell]
theorem NRow.set {v : Value} {ts : List Int} {b i : Nat} {u : Value} (h : NRow B W v ts) (hb : b < B) : NRow B (W.setCell ⟨b, i, none⟩ u) v ts := h.keep (fun g hg _ => set_blk (by have := (h.lt hg).1; omega))
/-- a number was appended to those of a sensor -/
theorem OI.tk {W2 : World} {i : Nat} {u : OS} {q : Int} {v' : Value} (h : OI W y sb B o oss ys) (hu : oss[i]? = some u) (hg : W.grownBy W2 u.tv.ownBlock) (hr : NRow B W2 v' (u.ts ++ [q])) (ha : v'.ownBlock = u.tv.ownBlock ∨ v'.ownBlock = some W.heap.size) :
    OI (W2.setCell ⟨sb, i * 4 + 3, none⟩ v') y sb B o (oss.set i { u with tv := v', ts := u.ts ++ [q] }) ys := by
  have hil : i < oss.length := (List.getElem?_eq_some_iff.1 hu).1
  have hum := List.mem_of_getElem? hu
  have hyB := h.yB
  have hsB := h.sB
  have hbig := h.big
  have hyo : some y ≠ u.tv.ownBlock := fun e => by have := ((h.nums u hum).lt e.symm).1; omega
  have hso : some sb ≠ u.tv.ownBlock := fun e => by have := ((h.nums u hum).lt e.symm).1; omega
  have ey : (W2.setCell ⟨sb, i * 4 + 3, none⟩ v').heap[y]? = W.heap[y]? := (set_blk h.ne).trans (hg.block y (by omega) hyo)
  have es : W2.heap[sb]? = W.heap[sb]? := hg.block sb (by omega) hso
  have hkeep : ∀ g, B ≤ g → g < W.heap.size → some g ≠ u.tv.ownBlock → (W2.setCell ⟨sb, i * 4 + 3, none⟩ v').heap[g]? = W.heap[g]? := fun g h1 h2 h3 => (set_blk (by omega)).trans (hg.block g h2 h3)
  have hget : ∀ (k : Nat) (t : OS), (oss.set i { u with tv := v', ts := u.ts ++ [q] })[k]? = some t → (k = i ∧ t = { u with tv := v', ts := u.ts ++ [q] }) ∨ (k ≠ i ∧ oss[k]? = some t) := fun k t hk => by
    by_cases e : k = i
    · subst e
      rw [List.getElem?_set_self hil] at hk
      injection hk with hk
      exact .inl ⟨rfl, hk.symm⟩
    · rw [List.getElem?_set_ne (fun q => e q.symm)] at hk
      exact .inr ⟨e, hk⟩
  have hmem : ∀ t ∈ oss.set i { u with tv := v', ts := u.ts ++ [q] }, t = { u with tv := v', ts := u.ts ++ [q] } ∨ (∃ k, k ≠ i ∧ oss[k]? = some t) := fun t ht => by
    obtain ⟨k, hk⟩ := List.mem_iff_getElem?.1 ht
    rcases hget k t hk with e | e
    · exact .inl e.2
    · exact .inr ⟨k, e⟩
  have hvo : ∀ g, v'.ownBlock = some g → u.tv.ownBlock = some g ∨ g = W.heap.size := fun g hg => by
    rcases ha with e | e
    · rw [e] at hg; exact .inl hg
    · rw [e] at hg; injection hg with hg; exact .inr hg.symm
  refine ⟨fun k hk => (World.cell?_of_block ey).trans (h.at_ k hk), by rw [List.length_set]; exact h.sen, fun k t ht m hm => ?_, ?_, fun t ht => ?_, fun a c t1 t2 g q1 q2 q3 q4 => ?_, fun t ht g hq => ?_, fun e he => ?_, fun k => (World.frozen?_of_block ey).trans (h.fy k), fun k => ?_, ?_, hyB, hsB, h.ne⟩
  · rcases hget k t ht with ⟨e1, e2⟩ | ⟨e1, e2⟩
    · subst e1
      have h1 := (World.cell?_of_block (a := ⟨sb, k * 4 + m, none⟩) es).trans (h.sn k u hu m hm)
      by_cases e : m = 3
      · subst e
        rw [e2]
        exact set_self h1
      · rw [e2]
        refine (set_ne (by omega)).trans (h1.trans ?_)
        rcases (by omega : m = 0 ∨ m = 1 ∨ m = 2) with rfl | rfl | rfl <;> rfl
    · exact (set_ne (by omega)).trans ((World.cell?_of_block (a := ⟨sb, k * 4 + m, none⟩) es).trans (h.sn k t e2 m hm))
  · exact h.row.keep (fun g hq hl => hkeep g (h.row.lt hq).1 hl (fun e => h.apart u hum g e.symm hq))
  · rcases hmem t ht with e | ⟨k, e1, e2⟩
    · rw [e]
      exact hr.set hsB
    · exact (h.nums t (List.mem_of_getElem? e2)).keep (fun g hq hl => hkeep g ((h.nums t (List.mem_of_getElem? e2)).lt hq).1 hl (fun e => e1 (h.two k i t u g e2 hu hq e.symm)))
  · rcases hget a t1 q1 with ⟨e1, e2⟩ | ⟨e1, e2⟩
    · rcases hget c t2 q2 with ⟨e3, e4⟩ | ⟨e3, e4⟩
      · omega
      · rw [e2] at q3
        rcases hvo g q3 with p | p
        · exact absurd (h.two c i t2 u g e4 hu q4 p) e3
        · have := ((h.nums t2 (List.mem_of_getElem? e4)).lt q4).2
          omega
    · rcases hget c t2 q2 with ⟨e3, e4⟩ | ⟨e3, e4⟩
      · rw [e4] at q4
        rcases hvo g q4 with p | p
        · exact absurd (h.two a i t1 u g e2 hu q3 p) e1
        · have := ((h.nums t1 (List.mem_of_getElem? e2)).lt q3).2
          omega
      · exact h.two a c t1 t2 g e2 e4 q3 q4
  · intro hw
    rcases hmem t ht with e | ⟨k, e1, e2⟩
    · rw [e] at hq
      rcases hvo g hq with p | p
      · exact h.apart u hum g p hw
      · have := (h.row.lt hw).2
        omega
    · exact h.apart t (List.mem_of_getElem? e2) g hq hw
  · obtain ⟨h1, h2, h3, h4, h5⟩ := h.vals e he
    have hF : Ft W (W2.setCell ⟨sb, i * 4 + 3, none⟩ v') (fun b => u.tv.ownBlock = some b ∨ b = sb) := ⟨hg.os, hg.tape, hg.output, by rw [set_size]; exact hg.size, fun b hb hn => (set_blk (fun q => hn (.inr q))).trans (hg.block b hb (fun q => hn (.inl q.symm)))⟩
    refine ⟨h1.ft hF (fun b f hv hb => ?_), h2, h3, fun t ht => ?_, h5⟩
    · rcases hb with hb | hb
      · exact h4 u hum b f hv hb
      · have := h5 b f hv; omega
    · rcases hmem t ht with e' | ⟨k, e1, e2⟩
      · rw [e']
        intro b f hv hq
        rcases hvo b hq with p | p
        · exact h4 u hum b f hv p
        · have := h1.lt hv; omega
      · exact h4 t (List.mem_of_getElem? e2)
  · have e2 : (W2.setCell ⟨sb, i * 4 + 3, none⟩ v').frozen? ⟨sb, k, none⟩ = W2.frozen? ⟨sb, k, none⟩ := by simp [go_sem]
    exact (e2.trans (World.frozen?_of_block es)).trans (h.fs k)
  · rw [set_size]
    exact Nat.le_trans hbig hg.size
/-- what waits is another row -/
theorem OI.put {W2 : World} {v' : Value} {ys' : List El} (h : OI W y sb B o oss ys) (hg : W.grownBy W2 o.wait.ownBlock) (hr : Row B W2 v' ys') (ha : ∀ g, v'.ownBlock = some g → o.wait.ownBlock = some g ∨ W.heap.size ≤ g)
    (hv : ∀ e ∈ ys', ElOk W2 e ∧ W32 e ∧ Away e v'.ownBlock ∧ (∀ s ∈ oss, Away e s.tv.ownBlock) ∧ (∀ b f, e.v = some ⟨b, f, none⟩ → B ≤ b)) : OI (W2.setCell ⟨y, 3, none⟩ v') y sb B { o with wait := v' } oss ys' := by
  have hyB := h.yB
  have hsB := h.sB
  have hbig := h.big
  have hyo : some y ≠ o.wait.ownBlock := fun e => by have := (h.row.lt e.symm).1; omega
  have hso : some sb ≠ o.wait.ownBlock := fun e => by have := (h.row.lt e.symm).1; omega
  have ey : W2.heap[y]? = W.heap[y]? := hg.block y (by omega) hyo
  have es : (W2.setCell ⟨y, 3, none⟩ v').heap[sb]? = W.heap[sb]? := (set_blk (fun e => h.ne e.symm)).trans (hg.block sb (by omega) hso)
  have hkeep : ∀ g, B ≤ g → g < W.heap.size → some g ≠ o.wait.ownBlock → (W2.setCell ⟨y, 3, none⟩ v').heap[g]? = W.heap[g]? := fun g h1 h2 h3 => (set_blk (by omega)).trans (hg.block g h2 h3)
  refine ⟨fun k hk => ?_, h.sen, fun k t ht m hm => (World.cell?_of_block es).trans (h.sn k t ht m hm), ?_, fun t ht => ?_, h.two, fun t ht g hq hw => ?_, fun e he => ?_, fun k => ?_, fun k => (World.frozen?_of_block es).trans (h.fs k), ?_, hyB, hsB, h.ne⟩
  · have h1 := (World.cell?_of_block (a := ⟨y, k, none⟩) ey).trans (h.at_ k hk)
    by_cases e : k = 3
    · subst e
      exact set_self h1
    · refine (set_ne (fun q => e q.symm)).trans (h1.trans ?_)
      rcases (by omega : k = 0 ∨ k = 1 ∨ k = 2 ∨ k = 4 ∨ k = 5 ∨ k = 6 ∨ k = 7 ∨ k = 8 ∨ k = 9 ∨ k = 10 ∨ k = 11) with rfl | rfl | rfl | rfl | rfl | rfl | rfl | rfl | rfl | rfl | rfl <;> rfl
  · exact hr.set (p := ⟨y, 3, none⟩) hyB _
  · exact (h.nums t ht).keep (fun g hq hl => hkeep g ((h.nums t ht).lt hq).1 hl (fun e => h.apart t ht g hq e.symm))
  · have h1 := ((h.nums t ht).lt hq).2
    rcases ha g hw with e | e
    · exact h.apart t ht g hq e
    · omega
  · obtain ⟨h1, h2, h3, h4, h5⟩ := hv e he
    refine ⟨h1.ft ((Ft.of_below (Below.refl _ W2) (fun b => b = y)).set (p := ⟨y, 3, none⟩) rfl v') (fun b f hv hb => by have := h5 b f hv; omega), h2, h3, h4, h5⟩
  · have e2 : (W2.setCell ⟨y, 3, none⟩ v').frozen? ⟨y, k, none⟩ = W2.frozen? ⟨y, k, none⟩ := by simp [go_sem]
    exact (e2.trans (World.frozen?_of_block ey)).trans (h.fy k)
  · rw [set_size]
    exact Nat.le_trans hbig hg.size
theorem OST.tk {W2 : World} {i : Nat} {u : OS} {q : Int} {v' : Value} (h : OST w W bx y sb B r o0 oss0 o oss ys) (hu : oss[i]? = some u) (hg : W.grownBy W2 u.tv.ownBlock) (hr : NRow B W2 v' (u.ts ++ [q])) (ha : v'.ownBlock = u.tv.ownBlock ∨ v'.ownBlock = some W.heap.size) :
    OST w (W2.setCell ⟨sb, i * 4 + 3, none⟩ v') bx y sb B r o0 oss0 o (oss.set i { u with tv := v', ts := u.ts ++ [q] }) ys := by
  have hum := List.mem_of_getElem? hu
  refine h.turn (F := fun b => u.tv.ownBlock = some b ∨ b = sb) (h.oi.tk hu hg hr ha) ⟨hg.os, hg.tape, hg.output, by rw [set_size]; exact hg.size, fun b hb hn => (set_blk (fun q => hn (.inr q))).trans (hg.block b hb (fun q => hn (.inl q.symm)))⟩ (fun b hb => ?_) (fun b hb => ?_) (fun b f e => (h.far b f e).1.val)
  · rcases hb with hb | hb
    · exact .inr (.inr (.inl ⟨u, hum, hb⟩))
    · exact .inr (.inl hb)
  · rcases hb with hb | hb | ⟨t, ht, hb⟩ | hb
    · exact .inl (.inl hb)
    · exact .inl (.inr (.inl hb))
    · rcases List.mem_or_eq_of_mem_set ht with q | q
      · exact .inl (.inr (.inr (.inl ⟨t, q, hb⟩)))
      · rw [q] at hb
        rcases ha with e | e
        · exact .inl (.inr (.inr (.inl ⟨u, hum, by rw [← e]; exact hb⟩)))
        · have hb' : v'.ownBlock = some b := hb
          rw [e] at hb'
          injection hb' with hb'
          exact .inr (by omega)
    · exact .inl (.inr (.inr (.inr hb)))
/-- the same, the reading apart -/
structure OSU (w W : World) (y sb B : Nat) (o0 : OJ) (oss0 : List OS) (o : OJ) (oss : List OS) (ys : List El) : Prop where
  oi : OI W y sb B o oss ys
  ft : Ft w W (FO y sb o0 oss0)
  own : ∀ b, FO y sb o oss b → FO y sb o0 oss0 b ∨ w.heap.size ≤ b
theorem OSU.below (h : OSU w W y sb B o0 oss0 o oss ys) (hb : Below W.heap.size W W') : OSU w W' y sb B o0 oss0 o oss ys :=
  ⟨h.oi.below hb, h.ft.trans (Ft.of_below hb _), h.own⟩
theorem OSU.turn (h : OSU w W y sb B o0 oss0 o oss ys) {F : Nat → Prop} {oss' : List OS} {ys' : List El} (hi : OI W' y sb B o' oss' ys') (k : Ft W W' F) (hF : ∀ b, F b → FO y sb o oss b) (hown : ∀ b, FO y sb o' oss' b → FO y sb o oss b ∨ W.heap.size ≤ b) : OSU w W' y sb B o0 oss0 o' oss' ys' := by
  have hsz := h.ft.size
  refine ⟨hi, h.ft.then k (fun b hb hf => ?_), fun b hb => ?_⟩
  · rcases h.own b (hF b hf) with q | q
    · exact q
    · omega
  · rcases hown b hb with q | q
    · exact h.own b q
    · exact .inr (by omega)
theorem OSU.cell (h : OSU w W y sb B o0 oss0 o oss ys) {i : Nat} {u : Value} (hi : i < 12) (hr : o'.row = o.row.set i u) (e1 : o'.sen = o.sen) (e2 : o'.wait = o.wait) : OSU w (W.setCell ⟨y, i, none⟩ u) y sb B o0 oss0 o' oss ys :=
  h.turn (F := fun b => b = y) (h.oi.cell hi hr e1 e2) ((Ft.of_below (Below.refl _ W) (fun b => b = y)).set (p := ⟨y, i, none⟩) rfl u) (fun _ e => .inl e) (fun b hb => .inl (by unfold FO at hb ⊢; rw [e2] at hb; exact hb))
theorem OSU.put {W2 : World} {v' : Value} {ys' : List El} (h : OSU w W y sb B o0 oss0 o oss ys) (hg : W.grownBy W2 o.wait.ownBlock) (hr : Row B W2 v' ys') (ha : ∀ g, v'.ownBlock = some g → o.wait.ownBlock = some g ∨ W.heap.size ≤ g)
    (hv : ∀ e ∈ ys', ElOk W2 e ∧ W32 e ∧ Away e v'.ownBlock ∧ (∀ s ∈ oss, Away e s.tv.ownBlock) ∧ (∀ b f, e.v = some ⟨b, f, none⟩ → B ≤ b)) : OSU w (W2.setCell ⟨y, 3, none⟩ v') y sb B o0 oss0 { o with wait := v' } oss ys' := by
  refine h.turn (F := fun b => o.wait.ownBlock = some b ∨ b = y) (h.oi.put hg hr ha hv) ⟨hg.os, hg.tape, hg.output, by rw [set_size]; exact hg.size, fun b hb hn => (set_blk (fun q => hn (.inr q))).trans (hg.block b hb (fun q => hn (.inl q.symm)))⟩ (fun b hb => ?_) (fun b hb => ?_)
  · rcases hb with hb | hb
    · exact .inr (.inr (.inr hb))
    · exact .inl hb
  · rcases hb with hb | hb | hb | hb
    · exact .inl (.inl hb)
    · exact .inl (.inr (.inl hb))
    · exact .inl (.inr (.inr (.inl hb)))
    · have hb' : v'.ownBlock = some b := hb
      rcases ha b hb' with e | e
      · exact .inl (.inr (.inr (.inr e)))
      · exact .inr e
theorem OST.osu (h : OST w W bx y sb B r o0 oss0 o oss ys) : OSU w W y sb B o0 oss0 o oss ys := ⟨h.oi, h.ft, h.own⟩
end
end Go.Proofs.YtebacmmfjadalaaGreat
