/- K6 G1 in one text. -/
import Derived.Test.YtebacmmfjadalaaGreatP14
import Derived.Test.YtebacmmfjadalaaGreatP15
import Derived.Test.YtebacmmfjadalaaGreatP13

namespace Go.Proofs.YtebacmmfjadalaaGreat
open Go Go.RowKit

def Lt64 (bs : List Nat) : Prop := ∀ i, bs.getD i 0 < 18446744073709551616
def Zl (xa xb : List Nat) : Int := lexL (xa.map keyN) (xb.map keyN)
/-- how far two lists of numbers have been held against each other -/
def CmpSt (xa xb : List Nat) (k : Nat) (c : Int) : Prop := (c = 0 ∧ (xa.take k).map keyN = (xb.take k).map keyN) ∨ (c ≠ 0 ∧ c = Zl xa xb)

set_option maxRecDepth 8000 in
set_option maxHeartbeats 4000000 in
theorem full_walk (a1 a2 a3 a4 b1 b2 b3 b4 : Int) (A B : Option Addr) (n m c d : Nat) (xa xb : List Nat) (w : World) (fa : FlAt w A n xa) (fb : FlAt w B m xb) (la : Lt64 xa) (lb : Lt64 xb) (hl : n * 8 ≤ 140737488355328) (h : orL [cmpO a1 b1, cmpO a2 b2, cmpO a3 b3, cmpO a4 b4, cmpO n m] = 0) (hnm : n = m) :
    Calls Tryz.prog 81 #[.agg #[.int .i64 a1, .int .i64 a2, .int .u32 a3, .int .u32 a4, .slice A n c], .agg #[.int .i64 b1, .int .i64 b2, .int .u32 b3, .int .u32 b4, .slice B m d]] w fun e w' =>
      e = .returned (.int .i64 (Zl xa xb)) ∧ Below w.heap.size w w' := by
  obtain ⟨H, hH⟩ : ∃ H, orL [cmpO a1 b1, cmpO a2 b2, cmpO a3 b3, cmpO a4 b4, cmpO n m] = H := ⟨_, rfl⟩
  rw [hH] at h
  subst h
  have HH := Lib.hid hH
  have HN0 := Lib.hid hnm
  have HL := Lib.hid (And.intro la lb)
  have HFA := Lib.hid fa
  have HFB := Lib.hid fb
  clear hH hnm la lb fa fb
  go_enter Tryz.func81, Tryz.ntmps81
  go_wp2_with fail
  have HC0 := Lib.hid (show Cells5 ((w.alloc (.cells #[.int .i64 a1, .int .i64 a2, .int .u32 a3, .int .u32 a4, .slice A n c] 63)).alloc (.cells #[.int .i64 b1, .int .i64 b2, .int .u32 b3, .int .u32 b4, .slice B m d] 63)) w.heap.size a1 a2 a3 a4 b1 b2 b3 b4 A B n m c d from by unfold Cells5; simp [go_sem])
  have HB := Lib.hid (show Below w.heap.size w ((w.alloc (.cells #[.int .i64 a1, .int .i64 a2, .int .u32 a3, .int .u32 a4, .slice A n c] 63)).alloc (.cells #[.int .i64 b1, .int .i64 b2, .int .u32 b3, .int .u32 b4, .slice B m d] 63)) from (((Below.refl _ _).alloc (Nat.le_refl _) _).alloc (by simp) _))
  have hw0 : w.heap.size + 1 < ((w.alloc (.cells #[.int .i64 a1, .int .i64 a2, .int .u32 a3, .int .u32 a4, .slice A n c] 63)).alloc (.cells #[.int .i64 b1, .int .i64 b2, .int .u32 b3, .int .u32 b4, .slice B m d] 63)).heap.size := by simp
  generalize (w.alloc (.cells #[.int .i64 a1, .int .i64 a2, .int .u32 a3, .int .u32 a4, .slice A n c] 63)).alloc (.cells #[.int .i64 b1, .int .i64 b2, .int .u32 b3, .int .u32 b4, .slice B m d] 63) = W0 at *
  have HC := Lib.hid (HC0.out.below (Below.refl _ _).drew hw0)
  unfold Cells5 at HC
  go_region_held3 (fun w' => w'.cell? ⟨w.heap.size, 0, none⟩ = some (.int .i64 a1) ∧ w'.cell? ⟨w.heap.size + 1, 0, none⟩ = some (.int .i64 b1) ∧ w'.cell? ⟨w.heap.size, 1, none⟩ = some (.int .i64 a2) ∧ w'.cell? ⟨w.heap.size + 1, 1, none⟩ = some (.int .i64 b2) ∧ w'.cell? ⟨w.heap.size, 2, none⟩ = some (.int .u32 a3) ∧ w'.cell? ⟨w.heap.size + 1, 2, none⟩ = some (.int .u32 b3) ∧
      w'.cell? ⟨w.heap.size, 3, none⟩ = some (.int .u32 a4) ∧ w'.cell? ⟨w.heap.size + 1, 3, none⟩ = some (.int .u32 b4) ∧ w'.cell? ⟨w.heap.size, 4, none⟩ = some (.slice A n c) ∧ w'.cell? ⟨w.heap.size + 1, 4, none⟩ = some (.slice B m d))
    (first | exact HC.out | exact Cells5.below HC0.out hb5 hw0 | exact Cells5.below HC0.out ((Below.refl _ _).alloc (Nat.le_refl _) _).drew hw0)
    (first | (go_at_call 99; refine (cmp64_any _ _ _).mono ?_; rintro e w1 ⟨rfl, rfl⟩) | (go_at_call 100; refine (cmpI_any _ _ _).mono ?_; rintro e w1 ⟨rfl, rfl⟩) | (go_at_call 101; refine (cmpU_any _ _ _).mono ?_; rintro e w1 ⟨rfl, rfl⟩) | (go_at_call 98; refine (or_any _ _ 5 _ _ rfl (or_cells _ _ _ _ _ _ _) (by omega)).mono ?_; rintro e w5 ⟨rfl, hb⟩; have hb5 := ((Below.refl W0.heap.size W0).alloc (Nat.le_refl _) _).drew.trans (hb.mono (by simp)); rw [HH.out]))
  have hc8 := (Cells5.below HC0.out hb5 hw0).2.2.2.2.2.2.2.2
  have HE := Lib.hid (HB.out.trans (hb5.mono (by have := HB.out.size; exact this)))
  have HC8 := Lib.hid hc8
  have hs5 : w.heap.size + 1 < w5.heap.size := Nat.lt_of_lt_of_le hw0 hb5.size
  obtain rfl := HN0.out
  clear HC HC0 hb5 HB hc8 HH
  go_wp2_with fail
  go_loopw [5, 6] (fun r i wr => ∃ (k : Nat) (z : Int), k ≤ n ∧ r = .int .i64 z ∧ i = .int .i64 (k : Int) ∧ Hid (CmpSt xa xb k z ∧ Below w5.heap.size w5 wr)) (fun _ i _ => n - (intOf i).toNat)
  case atStart => exact ⟨0, 0, by omega, rfl, rfl, Lib.hid ⟨.inl ⟨rfl, rfl⟩, Below.refl _ _⟩⟩
  case round =>
    obtain ⟨k, z, hk, rfl, rfl, hh⟩ := hrel
    have c8 := (hh.out.2.cell (p := ⟨w.heap.size, 4, none⟩) (by show w.heap.size < _; omega)).trans HC8.out.1
    have c9 := (hh.out.2.cell (p := ⟨w.heap.size + 1, 4, none⟩) hs5).trans HC8.out.2
    by_cases hz : z = 0
    · subst hz
      by_cases hlt : k < n
      · have hst : (xa.take k).map keyN = (xb.take k).map keyN := by
          rcases hh.out.1 with h | h
          · exact h.2
          · exact absurd rfl h.1
        have HST := Lib.hid hst
        have hb0 := HE.out.trans (hh.out.2.mono HE.out.size)
        obtain ⟨g1, o1, rfl, q1, hc1⟩ := (HFA.out.below hb0).at hlt
        obtain ⟨g2, o2, rfl, q2, hc2⟩ := (HFB.out.below hb0).at hlt
        have hl1 := HL.out.1 k
        have hl2 := HL.out.2 k
        obtain ⟨y, hy⟩ : ∃ y, xa.getD k 0 = y := ⟨_, rfl⟩
        obtain ⟨u, hu⟩ : ∃ u, xb.getD k 0 = u := ⟨_, rfl⟩
        rw [hy] at hc1 hl1
        rw [hu] at hc2 hl2
        have HYU := Lib.hid (And.intro hy hu)
        have HCP := Lib.hid (fun W => pcmp_any y u W hl1 hl2)
        obtain ⟨r, hr⟩ : ∃ r, cmpO (keyN y) (keyN u) = r := ⟨_, rfl⟩
        rw [hr] at HCP
        have HR := Lib.hid hr
        have hki : (k : Int) < (n : Int) := by omega
        have hk0 : (0 : Int) ≤ (k : Int) := by omega
        clear hst hb0 hy hu hr hl1 hl2
        have hk1 : IntKind.i64.wrap ((k : Int) + 1) = (k : Int) + 1 := IntWalk.i64_in _ (by omega)
        go_wp2_with fail
        have hs6 : w.heap.size + 1 < wr.heap.size := Nat.lt_of_lt_of_le hs5 hh.out.2.size
        go_region_held3 (fun w' => w'.cell? ⟨w.heap.size, 4, none⟩ = some (.slice (some ⟨g1, o1, none⟩) n c) ∧ w'.cell? ⟨w.heap.size + 1, 4, none⟩ = some (.slice (some ⟨g2, o2, none⟩) n d) ∧ w'.cell? ⟨g1, o1 + k, none⟩ = some (.float .f64 y) ∧ w'.cell? ⟨g2, o2 + k, none⟩ = some (.float .f64 u))
          (first | exact ⟨c8, c9, hc1, hc2⟩ | exact ⟨(hb6.cell (by show w.heap.size < wr.heap.size; omega)).trans c8, (hb6.cell (by exact hs6)).trans c9, (hb6.cell (by exact q1)).trans hc1, (hb6.cell (by exact q2)).trans hc2⟩)
          (first | (go_at_call 102; refine (HCP.out _).mono ?_; rintro e w6 ⟨rfl, hb6⟩))
        have HB6 := Lib.hid ((Below.refl wr.heap.size wr).drew.trans hb6)
        clear hb6 hc1 hc2 c8 c9
        go_wp2_with fail
        go_roundw
        case rel =>
          refine ⟨k + 1, r, by omega, rfl, by go_num, Lib.hid ⟨?_, back_of hh.out.2 HB6.out⟩⟩
          have la := HFA.out.1
          have lb := HFB.out.1
          by_cases hr0 : r = 0
          · exact .inl ⟨hr0, key_step HST.out (by omega) (by omega) (by rw [HYU.out.1, HYU.out.2, HR.out, hr0])⟩
          · refine .inr ⟨hr0, ?_⟩
            have := key_no HST.out (by omega) (by omega) (by rw [HYU.out.1, HYU.out.2, HR.out]; exact hr0)
            rw [HYU.out.1, HYU.out.2, HR.out] at this
            exact this.symm
        case measure => simp [intOf]; omega
      · have hkn : k = n := by omega
        subst hkn
        have hki : ¬ (k : Int) < (k : Int) := by omega
        go_wp2_with fail
        go_ret
        refine ⟨?_, back_of HE.out hh.out.2⟩
        rcases hh.out.1 with h | h
        · unfold Zl
          rw [key_all h.2 HFA.out.1 HFB.out.1]
          rfl
        · exact absurd rfl h.1
    · have hz' : (z == 0) = false := by simpa using hz
      go_wp2_with fail
      go_ret
      refine ⟨?_, back_of HE.out hh.out.2⟩
      rcases hh.out.1 with h | h
      · exact absurd h.1 hz
      · rw [← h.2]
        rfl

/-- a timed reading whose values lie in memory -/
def ElOk (w : World) (e : El) : Prop := FlAt w e.v e.n e.bs ∧ Lt64 e.bs ∧ e.n * 8 ≤ 140737488355328
theorem ElOk.below {w w' : World} {e : El} (h : ElOk w e) (hb : Below w.heap.size w w') : ElOk w' e := ⟨h.1.below hb, h.2⟩
/-- the program's order -/
theorem order_any (a b : El) (w : World) (ha : ElOk w a) (hb : ElOk w b) : Calls Tryz.prog 81 #[a.val, b.val] w fun e w' => e = .returned (.int .i64 (cmpK a b)) ∧ Below w.heap.size w w' := by
  by_cases c : headC a b = 0
  · obtain ⟨h1, h2⟩ := headK_zero c
    rw [h1]
    exact full_walk a.at_ a.se a.sq a.st b.at_ b.se b.sq b.st a.v b.v a.n b.n a.c b.c a.bs b.bs w ha.1 hb.1 ha.2.1 hb.2.1 ha.2.2 c h2
  · rw [headK c]
    exact head_any a b w c
end Go.Proofs.YtebacmmfjadalaaGreat

namespace Go.Proofs.YtebacmmfjadalaaGreat
open Go Go.RowKit

theorem Inv.rebase {w W : World} {x B : Nat} {j : Jn} {sns : List Sn} {xs : List El} (h : Inv w W x B j sns xs) : Inv W W x B j sns xs := ⟨h.jn, h.sn, h.row, h.fz, h.big, h.xB, Below.refl _ _⟩

set_option maxRecDepth 8000 in
set_option maxHeartbeats 4000000 in
theorem push_bad (x B : Nat) (j : Jn) (sns : List Sn) (xs : List El) (se sq st : Int) (A : Option Addr) (n c : Nat) (bs : List Nat) (w0 w : World) (hi : Inv w0 w x B j sns xs) (hfl : FlAt w A n bs) (hl : n * 8 ≤ 140737488355328) (hq : chkE se n bs ≠ 0) :
    Calls Tryz.prog 12 #[.pointer (some ⟨x, 0, none⟩), .agg #[.int .i64 se, .int .u32 sq, .int .u32 st, .slice A n c]] w fun e w' => e = .returned (.tuple #[.int .i64 0, .slice none 0 0, .int .i64 (chkE se n bs)]) ∧ Below w.heap.size w w' := by
  obtain ⟨S, win, V, sm, top, hor, ct, cd, co, cl, cs⟩ := j
  have hxw : x < w.heap.size := by have := hi.big; have := hi.xB; omega
  have hb1 := (Below.refl w.heap.size w).alloc (Nat.le_refl _) (.cells #[.int .i64 se, .int .u32 sq, .int .u32 st, .slice A n c] 38)
  have hi1 := hi.below hb1
  have HI1 := Lib.hid hi1
  have HB1 := Lib.hid hb1
  have HPC := Lib.hid (pcheck_any se sq st A n c bs _ (hfl.below hb1) hl)
  obtain ⟨ee, hee⟩ : ∃ y, chkE se n bs = y := ⟨_, rfl⟩
  rw [hee] at HPC hq ⊢
  have hq' : (ee != 0) = true := by simpa using hq
  clear hi hfl hee
  go_enter Tryz.func12, Tryz.ntmps12
  go_wp2_with fail
  refine (ready_any x true _ hi1.jn.2.2.2.2.2.2.2).mono ?_
  rintro e w1 ⟨rfl, rfl⟩
  go_wp2_with fail
  refine HPC.out.mono ?_
  rintro e w2 ⟨rfl, hb2⟩
  have HBB := Lib.hid (HB1.out.trans (hb2.mono HB1.out.size))
  clear hb2
  go_wp2_with fail
  go_ret3
  exact ⟨rfl, HBB.out⟩

set_option maxRecDepth 8000 in
set_option maxHeartbeats 4000000 in
theorem push_nosensor (x B : Nat) (j : Jn) (sns : List Sn) (xs : List El) (se sq st : Int) (A : Option Addr) (n c : Nat) (bs : List Nat) (w0 w : World) (hi : Inv w0 w x B j sns xs) (hfl : FlAt w A n bs) (hl : n * 8 ≤ 140737488355328) (hq : chkE se n bs = 0) (hse : (sns.length : Int) ≤ se) :
    Calls Tryz.prog 12 #[.pointer (some ⟨x, 0, none⟩), .agg #[.int .i64 se, .int .u32 sq, .int .u32 st, .slice A n c]] w fun e w' => e = .returned (.tuple #[.int .i64 0, .slice none 0 0, .int .i64 230]) ∧ Below w.heap.size w w' := by
  obtain ⟨S, win, V, sm, top, hor, ct, cd, co, cl, cs⟩ := j
  have hxw : x < w.heap.size := by have := hi.big; have := hi.xB; omega
  have hb1 := (Below.refl w.heap.size w).alloc (Nat.le_refl _) (.cells #[.int .i64 se, .int .u32 sq, .int .u32 st, .slice A n c] 38)
  have hi1 := hi.below hb1
  have HI1 := Lib.hid hi1
  have HB1 := Lib.hid hb1
  have HPC := Lib.hid (pcheck_any se sq st A n c bs _ (hfl.below hb1) hl)
  rw [hq] at HPC
  obtain ⟨SA, SC, hS⟩ := hi.sn.slice
  simp only at hS
  subst hS
  obtain ⟨sn, hsn⟩ : ∃ y, sns.length = y := ⟨_, rfl⟩
  have HSN := Lib.hid hsn
  rw [hsn] at hse
  clear hi hfl hq hsn
  go_enter Tryz.func12, Tryz.ntmps12
  go_wp2_with fail
  refine (ready_any x true _ hi1.jn.2.2.2.2.2.2.2).mono ?_
  rintro e w1 ⟨rfl, rfl⟩
  go_wp2_with fail
  refine HPC.out.mono ?_
  rintro e w2 ⟨rfl, hb2⟩
  have HI2 := Lib.hid (hi1.below hb2)
  have hbb := HB1.out.trans (hb2.mono HB1.out.size)
  have HB2 := Lib.hid hbb
  have r0 : w2.cell? ⟨w.heap.size, 0, none⟩ = some (.int .i64 se) := (hb2.cell (p := ⟨w.heap.size, 0, none⟩) (by simp)).trans (by simp [go_sem])
  have r1 : w2.cell? ⟨w.heap.size, 1, none⟩ = some (.int .u32 sq) := (hb2.cell (p := ⟨w.heap.size, 1, none⟩) (by simp)).trans (by simp [go_sem])
  have r2 : w2.cell? ⟨w.heap.size, 2, none⟩ = some (.int .u32 st) := (hb2.cell (p := ⟨w.heap.size, 2, none⟩) (by simp)).trans (by simp [go_sem])
  have r3 : w2.cell? ⟨w.heap.size, 3, none⟩ = some (.slice A n c) := (hb2.cell (p := ⟨w.heap.size, 3, none⟩) (by simp)).trans (by simp [go_sem])
  have hbx : w.heap.size < w2.heap.size := Nat.lt_of_lt_of_le (by simp) hb2.size
  obtain ⟨g0, g1, g2, g3, g4, g5, ⟨g6, g7, g8, g9, g10⟩, g11⟩ := HI2.out.jn
  simp only at g0 g1 g2 g3 g4 g5 g6 g7 g8 g9 g10 g11
  rw [HSN.out] at g0
  clear hb2 hbb HI2
  go_wp2_with fail
  go_region
  all_goals go_wp2_with fail
  go_ret3
  exact ⟨rfl, HB2.out.drew⟩

set_option maxRecDepth 8000 in
set_option maxHeartbeats 4000000 in
theorem push_unw (x B : Nat) (j : Jn) (sns : List Sn) (xs : List El) (se : Nat) (sq st : Int) (A : Option Addr) (n c : Nat) (bs : List Nat) (w0 w : World) (hi : Inv w0 w x B j sns xs) (hfl : FlAt w A n bs) (hl : n * 8 ≤ 140737488355328) (hq : chkE se n bs = 0) (s : Sn) (hs : sns[se]? = some s) (st0 : 0 ≤ st) (st1 : st ≤ 4294967295) (u : Ck.unwE s.last st = 1) :
    Calls Tryz.prog 12 #[.pointer (some ⟨x, 0, none⟩), .agg #[.int .i64 se, .int .u32 sq, .int .u32 st, .slice A n c]] w fun e w' => e = .returned (.tuple #[.int .i64 0, .slice none 0 0, .int .i64 1]) ∧ Below w.heap.size w w' := by
  obtain ⟨S, win, V, sm, top, hor, ct, cd, co, cl, cs⟩ := j
  have hxw : x < w.heap.size := by have := hi.big; have := hi.xB; omega
  have hb1 := (Below.refl w.heap.size w).alloc (Nat.le_refl _) (.cells #[.int .i64 se, .int .u32 sq, .int .u32 st, .slice A n c] 38)
  have hi1 := hi.below hb1
  have HI1 := Lib.hid hi1
  have HB1 := Lib.hid hb1
  have HPC := Lib.hid (pcheck_any se sq st A n c bs _ (hfl.below hb1) hl)
  rw [hq] at HPC
  obtain ⟨sb, scap, hgv, hg1, hg2, hsa, hsz⟩ := hi.sn.at hs
  simp only at hgv
  subst hgv
  obtain ⟨so, sn', sd, slast, ssm, smost, staken⟩ := s
  have HSA := Lib.hid hsa
  obtain ⟨snl, hsnl⟩ : ∃ y, sns.length = y := ⟨_, rfl⟩
  have hsel : se < snl := by rw [← hsnl]; exact (List.getElem?_eq_some_iff.1 hs).1
  have hsel' : (se : Int) < (snl : Int) := by omega
  have hse0 : (0 : Int) ≤ (se : Int) := by omega
  have HSNL := Lib.hid hsnl
  clear hi hsa hfl hq hs hsnl
  simp only at u
  have HUN := Lib.hid (fun W => unwrap_any slast st W st0 st1)
  rw [u] at HUN
  clear u
  go_enter Tryz.func12, Tryz.ntmps12
  go_wp2_with fail
  refine (ready_any x true _ hi1.jn.2.2.2.2.2.2.2).mono ?_
  rintro e w1 ⟨rfl, rfl⟩
  go_wp2_with fail
  refine HPC.out.mono ?_
  rintro e w2 ⟨rfl, hb2⟩
  have HI2 := Lib.hid (hi1.below hb2)
  have hbb := HB1.out.trans (hb2.mono HB1.out.size)
  have HB2 := Lib.hid hbb
  have r0 : w2.cell? ⟨w.heap.size, 0, none⟩ = some (.int .i64 se) := (hb2.cell (p := ⟨w.heap.size, 0, none⟩) (by simp)).trans (by simp [go_sem])
  have r1 : w2.cell? ⟨w.heap.size, 1, none⟩ = some (.int .u32 sq) := (hb2.cell (p := ⟨w.heap.size, 1, none⟩) (by simp)).trans (by simp [go_sem])
  have r2 : w2.cell? ⟨w.heap.size, 2, none⟩ = some (.int .u32 st) := (hb2.cell (p := ⟨w.heap.size, 2, none⟩) (by simp)).trans (by simp [go_sem])
  have r3 : w2.cell? ⟨w.heap.size, 3, none⟩ = some (.slice A n c) := (hb2.cell (p := ⟨w.heap.size, 3, none⟩) (by simp)).trans (by simp [go_sem])
  have hbx : w.heap.size < w2.heap.size := Nat.lt_of_lt_of_le (by simp) hb2.size
  have HSA2 := Lib.hid (HSA.out.same (fun i => hbb.cell (p := ⟨sb, i, none⟩) hg2))
  have HZ2 := Lib.hid (fun i => (hbb.frozen (p := ⟨sb, i, none⟩) hg2).trans (hsz i))
  obtain ⟨s0, s1, s2, s3, s4, s5, s6⟩ := HSA2.out
  simp only at s0 s1 s2 s3 s4 s5 s6
  obtain ⟨g0, g1, g2, g3, g4, g5, ⟨g6, g7, g8, g9, g10⟩, g11⟩ := HI2.out.jn
  simp only at g0 g1 g2 g3 g4 g5 g6 g7 g8 g9 g10 g11
  rw [HSNL.out] at g0
  clear hi1 hb2 hbb HI1 HB1 HSA hsz
  generalize hbxe : w.heap.size = bx at *
  have HBXE := Lib.hid hbxe
  clear hbxe
  go_wp2_with fail
  go_region
  all_goals go_wp2_with fail
  go_region
  all_goals go_wp2_with fail
  go_region_held3 (fun w' => w'.cell? ⟨sb, se * 7 + 3, none⟩ = some (.int .i64 slast) ∧ w'.cell? ⟨bx, 2, none⟩ = some (.int .u32 st))
    (first | exact ⟨s3, r2⟩)
    (first | (go_at_call 31; refine (HUN.out _).mono ?_; rintro e w3 ⟨rfl, rfl⟩))
  have HFIN := Lib.hid (show Below bx w w2.drew.drew.drew from HB2.out.drew.drew.drew)
  clear HI2 HSA2 HZ2
  go_wp2_with fail
  go_ret3
  exact ⟨rfl, by rw [HBXE.out]; exact HFIN.out⟩

set_option maxRecDepth 8000 in
set_option maxHeartbeats 4000000 in
theorem push_tim (x B : Nat) (j : Jn) (sns : List Sn) (xs : List El) (se : Nat) (sq st : Int) (A : Option Addr) (n c : Nat) (bs : List Nat) (w0 w : World) (hi : Inv w0 w x B j sns xs) (hfl : FlAt w A n bs) (hl : n * 8 ≤ 140737488355328) (hq : chkE se n bs = 0) (s : Sn) (hs : sns[se]? = some s) (st0 : 0 ≤ st) (st1 : st ≤ 4294967295) (cnt : Int) (u1 : Ck.unwV s.last st = cnt) (u2 : Ck.unwE s.last st = 0) (t2 : Ck.timeE s.o s.n s.d cnt ≠ 0) :
    Calls Tryz.prog 12 #[.pointer (some ⟨x, 0, none⟩), .agg #[.int .i64 se, .int .u32 sq, .int .u32 st, .slice A n c]] w fun e w' => e = .returned (.tuple #[.int .i64 0, .slice none 0 0, .int .i64 (Ck.timeE s.o s.n s.d cnt)]) ∧ Below w.heap.size w w' := by
  obtain ⟨S, win, V, sm, top, hor, ct, cd, co, cl, cs⟩ := j
  have hxw : x < w.heap.size := by have := hi.big; have := hi.xB; omega
  have hb1 := (Below.refl w.heap.size w).alloc (Nat.le_refl _) (.cells #[.int .i64 se, .int .u32 sq, .int .u32 st, .slice A n c] 38)
  have hi1 := hi.below hb1
  have HI1 := Lib.hid hi1
  have HB1 := Lib.hid hb1
  have HPC := Lib.hid (pcheck_any se sq st A n c bs _ (hfl.below hb1) hl)
  rw [hq] at HPC
  obtain ⟨sb, scap, hgv, hg1, hg2, hsa, hsz⟩ := hi.sn.at hs
  simp only at hgv
  subst hgv
  obtain ⟨so, sn', sd, slast, ssm, smost, staken⟩ := s
  have HSA := Lib.hid hsa
  obtain ⟨snl, hsnl⟩ : ∃ y, sns.length = y := ⟨_, rfl⟩
  have hsel : se < snl := by rw [← hsnl]; exact (List.getElem?_eq_some_iff.1 hs).1
  have hsel' : (se : Int) < (snl : Int) := by omega
  have hse0 : (0 : Int) ≤ (se : Int) := by omega
  have HSNL := Lib.hid hsnl
  clear hi hsa hfl hq hs hsnl
  simp only at u1 u2 t2 ⊢
  have HUN := Lib.hid (fun W => unwrap_any slast st W st0 st1)
  rw [u1, u2] at HUN
  have HTI := Lib.hid (fun W => time_any so sn' sd cnt W)
  obtain ⟨ee, hee⟩ : ∃ y, Ck.timeE so sn' sd cnt = y := ⟨_, rfl⟩
  rw [hee] at HTI t2 ⊢
  unfold clk at HTI
  have t2' : (ee != 0) = true := by simpa using t2
  clear u1 u2 hee
  go_enter Tryz.func12, Tryz.ntmps12
  go_wp2_with fail
  refine (ready_any x true _ hi1.jn.2.2.2.2.2.2.2).mono ?_
  rintro e w1 ⟨rfl, rfl⟩
  go_wp2_with fail
  refine HPC.out.mono ?_
  rintro e w2 ⟨rfl, hb2⟩
  have HI2 := Lib.hid (hi1.below hb2)
  have hbb := HB1.out.trans (hb2.mono HB1.out.size)
  have HB2 := Lib.hid hbb
  have r0 : w2.cell? ⟨w.heap.size, 0, none⟩ = some (.int .i64 se) := (hb2.cell (p := ⟨w.heap.size, 0, none⟩) (by simp)).trans (by simp [go_sem])
  have r1 : w2.cell? ⟨w.heap.size, 1, none⟩ = some (.int .u32 sq) := (hb2.cell (p := ⟨w.heap.size, 1, none⟩) (by simp)).trans (by simp [go_sem])
  have r2 : w2.cell? ⟨w.heap.size, 2, none⟩ = some (.int .u32 st) := (hb2.cell (p := ⟨w.heap.size, 2, none⟩) (by simp)).trans (by simp [go_sem])
  have r3 : w2.cell? ⟨w.heap.size, 3, none⟩ = some (.slice A n c) := (hb2.cell (p := ⟨w.heap.size, 3, none⟩) (by simp)).trans (by simp [go_sem])
  have hbx : w.heap.size < w2.heap.size := Nat.lt_of_lt_of_le (by simp) hb2.size
  have HSA2 := Lib.hid (HSA.out.same (fun i => hbb.cell (p := ⟨sb, i, none⟩) hg2))
  have HZ2 := Lib.hid (fun i => (hbb.frozen (p := ⟨sb, i, none⟩) hg2).trans (hsz i))
  obtain ⟨s0, s1, s2, s3, s4, s5, s6⟩ := HSA2.out
  simp only at s0 s1 s2 s3 s4 s5 s6
  obtain ⟨g0, g1, g2, g3, g4, g5, ⟨g6, g7, g8, g9, g10⟩, g11⟩ := HI2.out.jn
  simp only at g0 g1 g2 g3 g4 g5 g6 g7 g8 g9 g10 g11
  rw [HSNL.out] at g0
  clear hi1 hb2 hbb HI1 HB1 HSA hsz
  generalize hbxe : w.heap.size = bx at *
  have HBXE := Lib.hid hbxe
  clear hbxe
  go_wp2_with fail
  go_region
  all_goals go_wp2_with fail
  go_region
  all_goals go_wp2_with fail
  go_region_held3 (fun w' => w'.cell? ⟨sb, se * 7 + 3, none⟩ = some (.int .i64 slast) ∧ w'.cell? ⟨bx, 2, none⟩ = some (.int .u32 st))
    (first | exact ⟨s3, r2⟩)
    (first | (go_at_call 31; refine (HUN.out _).mono ?_; rintro e w3 ⟨rfl, rfl⟩))
  go_wp2_with fail
  refine (HTI.out _).mono ?_
  rintro e w3 ⟨rfl, hb3⟩
  have HFIN := Lib.hid (show Below bx w w3 from HB2.out.trans (((Below.refl w2.heap.size w2).drew.drew.drew.trans hb3).mono (Nat.le_of_lt hbx)))
  clear HI2 HSA2 HZ2 hb3
  go_wp2_with fail
  go_ret3
  exact ⟨rfl, by rw [HBXE.out]; exact HFIN.out⟩
end Go.Proofs.YtebacmmfjadalaaGreat
