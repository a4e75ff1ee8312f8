/- G1 G5 in one text. -/
import Derived.Test.YtebacmmfjadalaaGreatP14
import Derived.Test.YtebacmmfjadalaaGreatP13

namespace Go.Proofs.YtebacmmfjadalaaGreat
open Go Go.RowKit

theorem Inv.rebase {w W : World} {x B : Nat} {j : Jn} {sns : List Sn} {xs : List El} (h : Inv w W x B j sns xs) : Inv W W x B j sns xs := ⟨h.jn, h.sn, h.row, h.fz, h.big, h.xB, Below.refl _ _⟩

set_option maxRecDepth 8000 in
set_option maxHeartbeats 4000000 in
theorem push_bad (x B : Nat) (j : Jn) (sns : List Sn) (xs : List El) (se sq st : Int) (A : Option Addr) (n c : Nat) (bs : List Nat) (w0 w : World) (hi : Inv w0 w x B j sns xs) (hfl : FlAt w A n bs) (hl : n * 8 ≤ 140737488355328) (hq : chkE se n bs ≠ 0) :
    Calls Tryz.prog 12 #[.pointer (some ⟨x, 0, none⟩), .agg #[.int .i64 se, .int .u32 sq, .int .u32 st, .slice A n c]] w fun e w' => e = .returned (.tuple #[.int .i64 0, .slice none 0 0, .int .i64 (chkE se n bs)]) ∧ Below w.heap.size w w' := by
  obtain ⟨S, win, V, sm, top, hor, ct, cd, co, cl, cs⟩ := j
  have hxw : x < w.heap.size := by have := hi.big; have := hi.xB; omega
  have hb1 := (Below.refl w.heap.size w).alloc (Nat.le_refl _) (.cells #[.int .i64 se, .int .u32 sq, .int .u32 st, .slice A n c] 38)
  have hi1 := hi.below hb1
  have HI1 := Lib.hid hi1
  have HB1 := Lib.hid hb1
  have HPC := Lib.hid (pcheck_any se sq st A n c bs _ (hfl.below hb1) hl)
  obtain ⟨ee, hee⟩ : ∃ y, chkE se n bs = y := ⟨_, rfl⟩
  rw [hee] at HPC hq ⊢
  have hq' : (ee != 0) = true := by simpa using hq
  clear hi hfl hee
  go_enter Tryz.func12, Tryz.ntmps12
  go_wp2_with fail
  refine (ready_any x true _ hi1.jn.2.2.2.2.2.2.2).mono ?_
  rintro e w1 ⟨rfl, rfl⟩
  go_wp2_with fail
  refine HPC.out.mono ?_
  rintro e w2 ⟨rfl, hb2⟩
  have HBB := Lib.hid (HB1.out.trans (hb2.mono HB1.out.size))
  clear hb2
  go_wp2_with fail
  go_ret3
  exact ⟨rfl, HBB.out⟩

set_option maxRecDepth 8000 in
set_option maxHeartbeats 4000000 in
theorem push_nosensor (x B : Nat) (j : Jn) (sns : List Sn) (xs : List El) (se sq st : Int) (A : Option Addr) (n c : Nat) (bs : List Nat) (w0 w : World) (hi : Inv w0 w x B j sns xs) (hfl : FlAt w A n bs) (hl : n * 8 ≤ 140737488355328) (hq : chkE se n bs = 0) (hse : (sns.length : Int) ≤ se) :
    Calls Tryz.prog 12 #[.pointer (some ⟨x, 0, none⟩), .agg #[.int .i64 se, .int .u32 sq, .int .u32 st, .slice A n c]] w fun e w' => e = .returned (.tuple #[.int .i64 0, .slice none 0 0, .int .i64 230]) ∧ Below w.heap.size w w' := by
  obtain ⟨S, win, V, sm, top, hor, ct, cd, co, cl, cs⟩ := j
  have hxw : x < w.heap.size := by have := hi.big; have := hi.xB; omega
  have hb1 := (Below.refl w.heap.size w).alloc (Nat.le_refl _) (.cells #[.int .i64 se, .int .u32 sq, .int .u32 st, .slice A n c] 38)
  have hi1 := hi.below hb1
  have HI1 := Lib.hid hi1
  have HB1 := Lib.hid hb1
  have HPC := Lib.hid (pcheck_any se sq st A n c bs _ (hfl.below hb1) hl)
  rw [hq] at HPC
  obtain ⟨SA, SC, hS⟩ := hi.sn.slice
  simp only at hS
  subst hS
  obtain ⟨sn, hsn⟩ : ∃ y, sns.length = y := ⟨_, rfl⟩
  have HSN := Lib.hid hsn
  rw [hsn] at hse
  clear hi hfl hq hsn
  go_enter Tryz.func12, Tryz.ntmps12
  go_wp2_with fail
  refine (ready_any x true _ hi1.jn.2.2.2.2.2.2.2).mono ?_
  rintro e w1 ⟨rfl, rfl⟩
  go_wp2_with fail
  refine HPC.out.mono ?_
  rintro e w2 ⟨rfl, hb2⟩
  have HI2 := Lib.hid (hi1.below hb2)
  have hbb := HB1.out.trans (hb2.mono HB1.out.size)
  have HB2 := Lib.hid hbb
  have r0 : w2.cell? ⟨w.heap.size, 0, none⟩ = some (.int .i64 se) := (hb2.cell (p := ⟨w.heap.size, 0, none⟩) (by simp)).trans (by simp [go_sem])
  have r1 : w2.cell? ⟨w.heap.size, 1, none⟩ = some (.int .u32 sq) := (hb2.cell (p := ⟨w.heap.size, 1, none⟩) (by simp)).trans (by simp [go_sem])
  have r2 : w2.cell? ⟨w.heap.size, 2, none⟩ = some (.int .u32 st) := (hb2.cell (p := ⟨w.heap.size, 2, none⟩) (by simp)).trans (by simp [go_sem])
  have r3 : w2.cell? ⟨w.heap.size, 3, none⟩ = some (.slice A n c) := (hb2.cell (p := ⟨w.heap.size, 3, none⟩) (by simp)).trans (by simp [go_sem])
  have hbx : w.heap.size < w2.heap.size := Nat.lt_of_lt_of_le (by simp) hb2.size
  obtain ⟨g0, g1, g2, g3, g4, g5, ⟨g6, g7, g8, g9, g10⟩, g11⟩ := HI2.out.jn
  simp only at g0 g1 g2 g3 g4 g5 g6 g7 g8 g9 g10 g11
  rw [HSN.out] at g0
  clear hb2 hbb HI2
  go_wp2_with fail
  go_region
  all_goals go_wp2_with fail
  go_ret3
  exact ⟨rfl, HB2.out.drew⟩

set_option maxRecDepth 8000 in
set_option maxHeartbeats 4000000 in
theorem push_unw (x B : Nat) (j : Jn) (sns : List Sn) (xs : List El) (se : Nat) (sq st : Int) (A : Option Addr) (n c : Nat) (bs : List Nat) (w0 w : World) (hi : Inv w0 w x B j sns xs) (hfl : FlAt w A n bs) (hl : n * 8 ≤ 140737488355328) (hq : chkE se n bs = 0) (s : Sn) (hs : sns[se]? = some s) (st0 : 0 ≤ st) (st1 : st ≤ 4294967295) (u : Ck.unwE s.last st = 1) :
    Calls Tryz.prog 12 #[.pointer (some ⟨x, 0, none⟩), .agg #[.int .i64 se, .int .u32 sq, .int .u32 st, .slice A n c]] w fun e w' => e = .returned (.tuple #[.int .i64 0, .slice none 0 0, .int .i64 1]) ∧ Below w.heap.size w w' := by
  obtain ⟨S, win, V, sm, top, hor, ct, cd, co, cl, cs⟩ := j
  have hxw : x < w.heap.size := by have := hi.big; have := hi.xB; omega
  have hb1 := (Below.refl w.heap.size w).alloc (Nat.le_refl _) (.cells #[.int .i64 se, .int .u32 sq, .int .u32 st, .slice A n c] 38)
  have hi1 := hi.below hb1
  have HI1 := Lib.hid hi1
  have HB1 := Lib.hid hb1
  have HPC := Lib.hid (pcheck_any se sq st A n c bs _ (hfl.below hb1) hl)
  rw [hq] at HPC
  obtain ⟨sb, scap, hgv, hg1, hg2, hsa, hsz⟩ := hi.sn.at hs
  simp only at hgv
  subst hgv
  obtain ⟨so, sn', sd, slast, ssm, smost, staken⟩ := s
  have HSA := Lib.hid hsa
  obtain ⟨snl, hsnl⟩ : ∃ y, sns.length = y := ⟨_, rfl⟩
  have hsel : se < snl := by rw [← hsnl]; exact (List.getElem?_eq_some_iff.1 hs).1
  have hsel' : (se : Int) < (snl : Int) := by omega
  have hse0 : (0 : Int) ≤ (se : Int) := by omega
  have HSNL := Lib.hid hsnl
  clear hi hsa hfl hq hs hsnl
  simp only at u
  have HUN := Lib.hid (fun W => unwrap_any slast st W st0 st1)
  rw [u] at HUN
  clear u
  go_enter Tryz.func12, Tryz.ntmps12
  go_wp2_with fail
  refine (ready_any x true _ hi1.jn.2.2.2.2.2.2.2).mono ?_
  rintro e w1 ⟨rfl, rfl⟩
  go_wp2_with fail
  refine HPC.out.mono ?_
  rintro e w2 ⟨rfl, hb2⟩
  have HI2 := Lib.hid (hi1.below hb2)
  have hbb := HB1.out.trans (hb2.mono HB1.out.size)
  have HB2 := Lib.hid hbb
  have r0 : w2.cell? ⟨w.heap.size, 0, none⟩ = some (.int .i64 se) := (hb2.cell (p := ⟨w.heap.size, 0, none⟩) (by simp)).trans (by simp [go_sem])
  have r1 : w2.cell? ⟨w.heap.size, 1, none⟩ = some (.int .u32 sq) := (hb2.cell (p := ⟨w.heap.size, 1, none⟩) (by simp)).trans (by simp [go_sem])
  have r2 : w2.cell? ⟨w.heap.size, 2, none⟩ = some (.int .u32 st) := (hb2.cell (p := ⟨w.heap.size, 2, none⟩) (by simp)).trans (by simp [go_sem])
  have r3 : w2.cell? ⟨w.heap.size, 3, none⟩ = some (.slice A n c) := (hb2.cell (p := ⟨w.heap.size, 3, none⟩) (by simp)).trans (by simp [go_sem])
  have hbx : w.heap.size < w2.heap.size := Nat.lt_of_lt_of_le (by simp) hb2.size
  have HSA2 := Lib.hid (HSA.out.same (fun i => hbb.cell (p := ⟨sb, i, none⟩) hg2))
  have HZ2 := Lib.hid (fun i => (hbb.frozen (p := ⟨sb, i, none⟩) hg2).trans (hsz i))
  obtain ⟨s0, s1, s2, s3, s4, s5, s6⟩ := HSA2.out
  simp only at s0 s1 s2 s3 s4 s5 s6
  obtain ⟨g0, g1, g2, g3, g4, g5, ⟨g6, g7, g8, g9, g10⟩, g11⟩ := HI2.out.jn
  simp only at g0 g1 g2 g3 g4 g5 g6 g7 g8 g9 g10 g11
  rw [HSNL.out] at g0
  clear hi1 hb2 hbb HI1 HB1 HSA hsz
  generalize hbxe : w.heap.size = bx at *
  have HBXE := Lib.hid hbxe
  clear hbxe
  go_wp2_with fail
  go_region
  all_goals go_wp2_with fail
  go_region
  all_goals go_wp2_with fail
  go_region_held3 (fun w' => w'.cell? ⟨sb, se * 7 + 3, none⟩ = some (.int .i64 slast) ∧ w'.cell? ⟨bx, 2, none⟩ = some (.int .u32 st))
    (first | exact ⟨s3, r2⟩)
    (first | (go_at_call 31; refine (HUN.out _).mono ?_; rintro e w3 ⟨rfl, rfl⟩))
  have HFIN := Lib.hid (show Below bx w w2.drew.drew.drew from HB2.out.drew.drew.drew)
  clear HI2 HSA2 HZ2
  go_wp2_with fail
  go_ret3
  exact ⟨rfl, by rw [HBXE.out]; exact HFIN.out⟩

set_option maxRecDepth 8000 in
set_option maxHeartbeats 4000000 in
theorem push_tim (x B : Nat) (j : Jn) (sns : List Sn) (xs : List El) (se : Nat) (sq st : Int) (A : Option Addr) (n c : Nat) (bs : List Nat) (w0 w : World) (hi : Inv w0 w x B j sns xs) (hfl : FlAt w A n bs) (hl : n * 8 ≤ 140737488355328) (hq : chkE se n bs = 0) (s : Sn) (hs : sns[se]? = some s) (st0 : 0 ≤ st) (st1 : st ≤ 4294967295) (cnt : Int) (u1 : Ck.unwV s.last st = cnt) (u2 : Ck.unwE s.last st = 0) (t2 : Ck.timeE s.o s.n s.d cnt ≠ 0) :
    Calls Tryz.prog 12 #[.pointer (some ⟨x, 0, none⟩), .agg #[.int .i64 se, .int .u32 sq, .int .u32 st, .slice A n c]] w fun e w' => e = .returned (.tuple #[.int .i64 0, .slice none 0 0, .int .i64 (Ck.timeE s.o s.n s.d cnt)]) ∧ Below w.heap.size w w' := by
  obtain ⟨S, win, V, sm, top, hor, ct, cd, co, cl, cs⟩ := j
  have hxw : x < w.heap.size := by have := hi.big; have := hi.xB; omega
  have hb1 := (Below.refl w.heap.size w).alloc (Nat.le_refl _) (.cells #[.int .i64 se, .int .u32 sq, .int .u32 st, .slice A n c] 38)
  have hi1 := hi.below hb1
  have HI1 := Lib.hid hi1
  have HB1 := Lib.hid hb1
  have HPC := Lib.hid (pcheck_any se sq st A n c bs _ (hfl.below hb1) hl)
  rw [hq] at HPC
  obtain ⟨sb, scap, hgv, hg1, hg2, hsa, hsz⟩ := hi.sn.at hs
  simp only at hgv
  subst hgv
  obtain ⟨so, sn', sd, slast, ssm, smost, staken⟩ := s
  have HSA := Lib.hid hsa
  obtain ⟨snl, hsnl⟩ : ∃ y, sns.length = y := ⟨_, rfl⟩
  have hsel : se < snl := by rw [← hsnl]; exact (List.getElem?_eq_some_iff.1 hs).1
  have hsel' : (se : Int) < (snl : Int) := by omega
  have hse0 : (0 : Int) ≤ (se : Int) := by omega
  have HSNL := Lib.hid hsnl
  clear hi hsa hfl hq hs hsnl
  simp only at u1 u2 t2 ⊢
  have HUN := Lib.hid (fun W => unwrap_any slast st W st0 st1)
  rw [u1, u2] at HUN
  have HTI := Lib.hid (fun W => time_any so sn' sd cnt W)
  obtain ⟨ee, hee⟩ : ∃ y, Ck.timeE so sn' sd cnt = y := ⟨_, rfl⟩
  rw [hee] at HTI t2 ⊢
  unfold clk at HTI
  have t2' : (ee != 0) = true := by simpa using t2
  clear u1 u2 hee
  go_enter Tryz.func12, Tryz.ntmps12
  go_wp2_with fail
  refine (ready_any x true _ hi1.jn.2.2.2.2.2.2.2).mono ?_
  rintro e w1 ⟨rfl, rfl⟩
  go_wp2_with fail
  refine HPC.out.mono ?_
  rintro e w2 ⟨rfl, hb2⟩
  have HI2 := Lib.hid (hi1.below hb2)
  have hbb := HB1.out.trans (hb2.mono HB1.out.size)
  have HB2 := Lib.hid hbb
  have r0 : w2.cell? ⟨w.heap.size, 0, none⟩ = some (.int .i64 se) := (hb2.cell (p := ⟨w.heap.size, 0, none⟩) (by simp)).trans (by simp [go_sem])
  have r1 : w2.cell? ⟨w.heap.size, 1, none⟩ = some (.int .u32 sq) := (hb2.cell (p := ⟨w.heap.size, 1, none⟩) (by simp)).trans (by simp [go_sem])
  have r2 : w2.cell? ⟨w.heap.size, 2, none⟩ = some (.int .u32 st) := (hb2.cell (p := ⟨w.heap.size, 2, none⟩) (by simp)).trans (by simp [go_sem])
  have r3 : w2.cell? ⟨w.heap.size, 3, none⟩ = some (.slice A n c) := (hb2.cell (p := ⟨w.heap.size, 3, none⟩) (by simp)).trans (by simp [go_sem])
  have hbx : w.heap.size < w2.heap.size := Nat.lt_of_lt_of_le (by simp) hb2.size
  have HSA2 := Lib.hid (HSA.out.same (fun i => hbb.cell (p := ⟨sb, i, none⟩) hg2))
  have HZ2 := Lib.hid (fun i => (hbb.frozen (p := ⟨sb, i, none⟩) hg2).trans (hsz i))
  obtain ⟨s0, s1, s2, s3, s4, s5, s6⟩ := HSA2.out
  simp only at s0 s1 s2 s3 s4 s5 s6
  obtain ⟨g0, g1, g2, g3, g4, g5, ⟨g6, g7, g8, g9, g10⟩, g11⟩ := HI2.out.jn
  simp only at g0 g1 g2 g3 g4 g5 g6 g7 g8 g9 g10 g11
  rw [HSNL.out] at g0
  clear hi1 hb2 hbb HI1 HB1 HSA hsz
  generalize hbxe : w.heap.size = bx at *
  have HBXE := Lib.hid hbxe
  clear hbxe
  go_wp2_with fail
  go_region
  all_goals go_wp2_with fail
  go_region
  all_goals go_wp2_with fail
  go_region_held3 (fun w' => w'.cell? ⟨sb, se * 7 + 3, none⟩ = some (.int .i64 slast) ∧ w'.cell? ⟨bx, 2, none⟩ = some (.int .u32 st))
    (first | exact ⟨s3, r2⟩)
    (first | (go_at_call 31; refine (HUN.out _).mono ?_; rintro e w3 ⟨rfl, rfl⟩))
  go_wp2_with fail
  refine (HTI.out _).mono ?_
  rintro e w3 ⟨rfl, hb3⟩
  have HFIN := Lib.hid (show Below bx w w3 from HB2.out.trans (((Below.refl w2.heap.size w2).drew.drew.drew.trans hb3).mono (Nat.le_of_lt hbx)))
  clear HI2 HSA2 HZ2 hb3
  go_wp2_with fail
  go_ret3
  exact ⟨rfl, by rw [HBXE.out]; exact HFIN.out⟩
end Go.Proofs.YtebacmmfjadalaaGreat

namespace Go.Proofs.YtebacmmfjadalaaGreat
open Go Go.RowKit

/-- clocks lie behind a slice -/
def ClAt (w : World) (v : Value) (cs : List (Int × Int × Int)) : Prop := ∃ A c, v = .slice A cs.length c ∧ (cs = [] ∨ ∃ b off, A = some ⟨b, off, none⟩ ∧ b < w.heap.size ∧ ∀ i, i < cs.length → w.cell? ⟨b, off + i * 3, none⟩ = some (.int .i64 (cs.getD i (0, 0, 0)).1) ∧ w.cell? ⟨b, off + i * 3 + 1, none⟩ = some (.int .i64 (cs.getD i (0, 0, 0)).2.1) ∧ w.cell? ⟨b, off + i * 3 + 2, none⟩ = some (.int .i64 (cs.getD i (0, 0, 0)).2.2))
def ClRow (w : World) (A : Option Addr) (cs : List (Int × Int × Int)) : Prop := cs = [] ∨ ∃ b off, A = some ⟨b, off, none⟩ ∧ b < w.heap.size ∧ ∀ i, i < cs.length → w.cell? ⟨b, off + i * 3, none⟩ = some (.int .i64 (cs.getD i (0, 0, 0)).1) ∧ w.cell? ⟨b, off + i * 3 + 1, none⟩ = some (.int .i64 (cs.getD i (0, 0, 0)).2.1) ∧ w.cell? ⟨b, off + i * 3 + 2, none⟩ = some (.int .i64 (cs.getD i (0, 0, 0)).2.2)
theorem ClRow.at {w : World} {A : Option Addr} {cs : List (Int × Int × Int)} (h : ClRow w A cs) (i : Nat) (hi : i < cs.length) : ∃ b off, A = some ⟨b, off, none⟩ ∧ b < w.heap.size ∧ w.cell? ⟨b, off + i * 3, none⟩ = some (.int .i64 (cs.getD i (0, 0, 0)).1) ∧ w.cell? ⟨b, off + i * 3 + 1, none⟩ = some (.int .i64 (cs.getD i (0, 0, 0)).2.1) ∧ w.cell? ⟨b, off + i * 3 + 2, none⟩ = some (.int .i64 (cs.getD i (0, 0, 0)).2.2) := by
  rcases h with h | ⟨b, off, h1, h2, h3⟩
  · subst h; simp at hi
  · exact ⟨b, off, h1, h2, h3 i hi⟩
def okC (c : Int × Int × Int) : Bool := Ck.okc c.1 c.2.1 c.2.2
/-- the error of a new joiner -/
def newE (cs : List (Int × Int × Int)) (win : Int) : Int := if 64 < cs.length ∨ win < 0 ∨ 1125899906842624 < win then 1 else if cs.all okC = true then 0 else 130
def NewP (w : World) (cs : List (Int × Int × Int)) (win : Int) (e : Ending) (w' : World) : Prop :=
  (newE cs win = 0 ∧ e = .returned (.tuple #[.pointer (some ⟨w.heap.size, 0, none⟩), .int .i64 0]) ∧ ∃ sv, SRow (w.heap.size + 1) w' sv (cs.map sn0) ∧ JnAt w' w.heap.size ⟨sv, win, .slice none 0 0, false, 0, 0, 0, 0, 0, 0, 0⟩ ∧ (∀ i, w'.frozen? ⟨w.heap.size, i, none⟩ = false) ∧ w.heap.size < w'.heap.size ∧ Below w.heap.size w w') ∨
  (newE cs win ≠ 0 ∧ e = .returned (.tuple #[.pointer none, .int .i64 (newE cs win)]) ∧ Below w.heap.size w w')
theorem ok_take {cs : List (Int × Int × Int)} {k : Nat} {co cn cd : Int} (h : (cs.take k).all okC = true) (hk : k < cs.length) (h1 : (cs.getD k (0, 0, 0)).1 = co) (h2 : (cs.getD k (0, 0, 0)).2.1 = cn) (h3 : (cs.getD k (0, 0, 0)).2.2 = cd) (ho : Ck.okc co cn cd = true) : (cs.take (k + 1)).all okC = true := by
  rw [List.take_add_one, List.getElem?_eq_getElem hk, List.all_append, h]
  rw [List.getD_eq_getElem?_getD, List.getElem?_eq_getElem hk] at h1 h2 h3
  simp only [Option.getD_some] at h1 h2 h3
  simp [okC, h1, h2, h3, ho]

set_option maxRecDepth 8000 in
set_option maxHeartbeats 4000000 in
theorem new_long (A : Option Addr) (cc n : Nat) (cs : List (Int × Int × Int)) (win : Int) (w : World) (hn : cs.length = n) (hl : 64 < n ∨ win < 0 ∨ 1125899906842624 < win) :
    Calls Tryz.prog 6 #[.slice A n cc, .int .i64 win] w (NewP w cs win) := by
  have hE : newE cs win = 1 := by unfold newE; rw [if_pos (by rw [hn]; exact hl)]
  have hP : NewP w cs win (.returned (.tuple #[.pointer none, .int .i64 1])) w := .inr ⟨by rw [hE]; decide, by rw [hE], Below.refl _ _⟩
  have HP := Lib.hid hP
  clear hP hE hn
  by_cases c1 : 64 < n
  · have c1' : (64 : Int) < (n : Int) := by omega
    go_enter Tryz.func6, Tryz.ntmps6
    go_wp2_with fail
    go_ret2
    exact HP.out
  · have c1' : ¬ (64 : Int) < (n : Int) := by omega
    by_cases c2 : win < 0
    · go_enter Tryz.func6, Tryz.ntmps6
      go_wp2_with fail
      go_ret2
      exact HP.out
    · have c3 : 1125899906842624 < win := by omega
      go_enter Tryz.func6, Tryz.ntmps6
      go_wp2_with fail
      go_ret2
      exact HP.out

set_option maxRecDepth 8000 in
set_option maxHeartbeats 8000000 in
theorem new_gen (A : Option Addr) (cc n : Nat) (cs : List (Int × Int × Int)) (win : Int) (w : World) (hn : cs.length = n) (hc : ClRow w A cs) (hn2 : n ≤ 64) (w0 : 0 ≤ win) (w1 : win ≤ 1125899906842624) :
    Calls Tryz.prog 6 #[.slice A n cc, .int .i64 win] w (NewP w cs win) := by
  have HCL := Lib.hid hc
  have HN := Lib.hid hn
  clear hc hn
  go_enter Tryz.func6, Tryz.ntmps6
  go_wp2_with fail
  have H0 := Lib.hid (show SRow (w.heap.size + 1) (w.alloc (.cells #[.slice none 0 0, .int .i64 win, .slice none 0 0, .bool false, .int .i64 0, .int .i64 0, .int .i64 0, .int .i64 0, .int .i64 0, .int .i64 0, .int .i64 0, .bool true] 77)) (.slice none 0 0) (([] : List (Int × Int × Int)).map sn0) ∧ (w.alloc (.cells #[.slice none 0 0, .int .i64 win, .slice none 0 0, .bool false, .int .i64 0, .int .i64 0, .int .i64 0, .int .i64 0, .int .i64 0, .int .i64 0, .int .i64 0, .bool true] 77)).cell? ⟨w.heap.size, 0, none⟩ = some (.slice none 0 0) ∧ Fr (w.alloc (.cells #[.slice none 0 0, .int .i64 win, .slice none 0 0, .bool false, .int .i64 0, .int .i64 0, .int .i64 0, .int .i64 0, .int .i64 0, .int .i64 0, .int .i64 0, .bool true] 77)) (w.alloc (.cells #[.slice none 0 0, .int .i64 win, .slice none 0 0, .bool false, .int .i64 0, .int .i64 0, .int .i64 0, .int .i64 0, .int .i64 0, .int .i64 0, .int .i64 0, .bool true] 77)) none ⟨w.heap.size, 0, none⟩ from ⟨World.ownsRow_nil _ _ _ _, by simp [go_sem], Fr.refl _ _ _⟩)
  have HJ0 := Lib.hid (show JnAt (w.alloc (.cells #[.slice none 0 0, .int .i64 win, .slice none 0 0, .bool false, .int .i64 0, .int .i64 0, .int .i64 0, .int .i64 0, .int .i64 0, .int .i64 0, .int .i64 0, .bool true] 77)) w.heap.size ⟨.slice none 0 0, win, .slice none 0 0, false, 0, 0, 0, 0, 0, 0, 0⟩ ∧ (∀ i, (w.alloc (.cells #[.slice none 0 0, .int .i64 win, .slice none 0 0, .bool false, .int .i64 0, .int .i64 0, .int .i64 0, .int .i64 0, .int .i64 0, .int .i64 0, .int .i64 0, .bool true] 77)).frozen? ⟨w.heap.size, i, none⟩ = false) ∧ Below w.heap.size w (w.alloc (.cells #[.slice none 0 0, .int .i64 win, .slice none 0 0, .bool false, .int .i64 0, .int .i64 0, .int .i64 0, .int .i64 0, .int .i64 0, .int .i64 0, .int .i64 0, .bool true] 77)) ∧ (w.alloc (.cells #[.slice none 0 0, .int .i64 win, .slice none 0 0, .bool false, .int .i64 0, .int .i64 0, .int .i64 0, .int .i64 0, .int .i64 0, .int .i64 0, .int .i64 0, .bool true] 77)).heap.size = w.heap.size + 1 from ⟨by unfold JnAt; simp [go_sem], fun i => by simp [go_sem], (Below.refl _ _).alloc (Nat.le_refl _) _, by simp⟩)
  generalize (w.alloc (.cells #[.slice none 0 0, .int .i64 win, .slice none 0 0, .bool false, .int .i64 0, .int .i64 0, .int .i64 0, .int .i64 0, .int .i64 0, .int .i64 0, .int .i64 0, .bool true] 77)) = W0 at *
  go_loopw [26] (fun iv wr => ∃ (k : Nat) (sv : Value), k ≤ n ∧ iv = .int .i64 (k : Int) ∧ Hid ((cs.take k).all okC = true ∧ SRow (w.heap.size + 1) wr sv ((cs.take k).map sn0) ∧ wr.cell? ⟨w.heap.size, 0, none⟩ = some sv ∧ Fr W0 wr none ⟨w.heap.size, 0, none⟩)) (fun iv _ => n - (intOf iv).toNat)
  case atStart => exact ⟨0, .slice none 0 0, by omega, rfl, Lib.hid ⟨rfl, H0.out⟩⟩
  case round =>
    obtain ⟨k, sv, hk, rfl, hh⟩ := hrel
    by_cases hlt : k < n
    · obtain ⟨cb, coff, rfl, hcb, hrow0⟩ := HCL.out.at k (by have := HN.out; omega)
      obtain ⟨co, hco⟩ : ∃ y, (cs.getD k (0, 0, 0)).1 = y := ⟨_, rfl⟩
      obtain ⟨cn, hcn⟩ : ∃ y, (cs.getD k (0, 0, 0)).2.1 = y := ⟨_, rfl⟩
      obtain ⟨cd, hcd⟩ : ∃ y, (cs.getD k (0, 0, 0)).2.2 = y := ⟨_, rfl⟩
      have hrow := hrow0
      clear hrow0
      rw [hco, hcn, hcd] at hrow
      have hrd : ∀ i, wr.cell? ⟨cb, i, none⟩ = w.cell? ⟨cb, i, none⟩ := fun i =>
        (World.cell?_of_block (hh.out.2.2.2.block cb (by rw [HJ0.out.2.2.2]; omega) (by show cb ≠ w.heap.size; omega) (by simp))).trans (HJ0.out.2.2.1.cell (p := ⟨cb, i, none⟩) hcb)
      have r0 := (hrd _).trans hrow.1
      have r1 := (hrd _).trans hrow.2.1
      have r2 := (hrd _).trans hrow.2.2
      have HX := Lib.hid (And.intro hco (And.intro hcn hcd))
      have hki : (k : Int) < (n : Int) := by omega
      clear hrow hrd hco hcn hcd
      obtain ⟨A, c, rfl⟩ := hh.out.2.1.slice
      have hwr : w.heap.size + 1 ≤ wr.heap.size := by have := hh.out.2.2.2.size; rw [HJ0.out.2.2.2] at this; exact this
      have hlen : ((cs.take k).map sn0).length = k := by rw [List.length_map, List.length_take, Nat.min_eq_left (by have := HN.out; omega)]
      have hhc := hh.out.2.2.1
      rw [hlen] at hhc hh
      go_wp2_with fail
      have HCK := Lib.hid (fun W => check_any co cn cd W)
      unfold clk at HCK
      by_cases hkf : Ck.okc co cn cd = false
      · have hk0 : ¬ Ck.okc co cn cd = true := by rw [hkf]; simp
        rw [if_neg hk0] at HCK
        clear hkf
        refine (HCK.out _).mono ?_
        rintro e1 w2 ⟨rfl, hb2⟩
        have HBD := Lib.hid (show Below w.heap.size w w2 from (HJ0.out.2.2.1.trans ⟨hh.out.2.2.2.os, hh.out.2.2.2.tape, hh.out.2.2.2.output, hh.out.2.2.2.size, fun q hq => hh.out.2.2.2.block q (by rw [HJ0.out.2.2.2]; omega) (by show q ≠ w.heap.size; omega) (by simp)⟩).trans ((((Below.refl wr.heap.size wr).alloc (Nat.le_refl _) _).trans (hb2.mono (by simp))).mono (by omega)))
        clear hb2
        go_wp2_with fail
        go_ret2
        refine .inr ⟨?_, ?_, HBD.out⟩
        · unfold newE
          rw [if_neg (by have := HN.out; omega), if_neg]
          · omega
          · intro hall
            have := List.all_eq_true.1 hall (cs.getD k (0, 0, 0)) (by rw [List.getD_eq_getElem?_getD, List.getElem?_eq_getElem (by have := HN.out; omega)]; exact List.getElem_mem _)
            unfold okC at this
            rw [HX.out.1, HX.out.2.1, HX.out.2.2] at this
            exact hk0 this
        · unfold newE
          rw [if_neg (by have := HN.out; omega), if_neg]
          · rfl
          · intro hall
            have := List.all_eq_true.1 hall (cs.getD k (0, 0, 0)) (by rw [List.getD_eq_getElem?_getD, List.getElem?_eq_getElem (by have := HN.out; omega)]; exact List.getElem_mem _)
            unfold okC at this
            rw [HX.out.1, HX.out.2.1, HX.out.2.2] at this
            exact hk0 this
      have hk0 : Ck.okc co cn cd = true := by simpa using hkf
      rw [if_pos hk0] at HCK
      clear hkf
      have HK0 := Lib.hid hk0
      clear hk0
      refine (HCK.out _).mono ?_
      rintro e1 w2 ⟨rfl, hb2⟩
      obtain ⟨hcell, hfrz⟩ := bcell hb2
      have hbb : Below wr.heap.size wr w2 := ((Below.refl wr.heap.size wr).alloc (Nat.le_refl _) _).trans (hb2.mono (by simp))
      have hx0 := (hbb.cell (p := ⟨w.heap.size, 0, none⟩) (by show w.heap.size < _; omega)).trans hhc
      have hf0 := (hbb.frozen (p := ⟨w.heap.size, 0, none⟩) (by show w.heap.size < _; omega)).trans ((hh.out.2.2.2.frozen ⟨w.heap.size, 0, none⟩ rfl).trans (HJ0.out.2.1 0))
      have q0 : w2.cell? ⟨wr.heap.size, 0, none⟩ = some (.int .i64 co) := (hcell _ _ (by simp)).trans (by simp [go_sem])
      have q1 : w2.cell? ⟨wr.heap.size, 1, none⟩ = some (.int .i64 cn) := (hcell _ _ (by simp)).trans (by simp [go_sem])
      have q2 : w2.cell? ⟨wr.heap.size, 2, none⟩ = some (.int .i64 cd) := (hcell _ _ (by simp)).trans (by simp [go_sem])
      have HBB := Lib.hid hbb
      have HBX := Lib.hid (((Below.refl w2.heap.size w2).alloc (Nat.le_refl _) (.cells #[.int .i64 co, .int .i64 cn, .int .i64 cd, .int .i64 0, .bool false, .int .u32 0, .int .u64 0] 81)).drew)
      have HSR := Lib.hid ((hh.out.2.1.below hbb).below HBX.out)
      have hx2 : w.heap.size < w2.heap.size := Nat.lt_of_lt_of_le (by omega : w.heap.size < wr.heap.size) hbb.size
      clear hcell hfrz hbb hb2 hhc r0 r1 r2
      go_wp2_with fail
      have hxo : (Value.slice A k c).ownBlock ≠ some w.heap.size := HSR.out.own (by omega)
      have hl1 : ((cs.take k).map sn0 ++ [(⟨co, cn, cd, 0, false, 0, 0⟩ : Sn)]).length = k + 1 := by rw [List.length_append, hlen]; rfl
      go_region_law ((refine step_append_sn rfl (.tmp 39) (.tmp 42) 74 rfl Tryz.underlying74 (.slice A k c) ((cs.take k).map sn0) ⟨co, cn, cd, 0, false, 0, 0⟩ (by simp [Act.eval]) HSR.out (Nat.le_trans (by omega : w.heap.size + 1 ≤ w2.heap.size) HBX.out.size) (by omega) ⟨w2.heap.size, 0, none⟩ 1 (by simp [Act.eval]) (sn_new w2 _ _ _ _ _ _ _ _) ?_); intro v' w3 hr1 hg1 ha1; obtain ⟨A1, c1, hv1⟩ := hr1.slice; rw [hl1] at hv1; subst hv1; have y1 := (grownO_cell hg1 (p := ⟨w.heap.size, 0, none⟩) (Nat.lt_of_lt_of_le hx2 HBX.out.size) hxo).trans ((HBX.out.cell (p := ⟨w.heap.size, 0, none⟩) (by exact hx2)).trans hx0); have y2 := (grownO_frozen hg1 (p := ⟨w.heap.size, 0, none⟩) (Nat.lt_of_lt_of_le hx2 HBX.out.size) hxo).trans ((HBX.out.frozen (p := ⟨w.heap.size, 0, none⟩) (by exact hx2)).trans hf0); have HR1 := Lib.hid hr1; have HG1 := Lib.hid hg1; clear hr1 hg1 ha1)
      all_goals go_wp2_with fail
      all_goals go_roundw
      all_goals first
        | (refine ⟨k + 1, .slice A1 (k + 1) c1, by omega, by go_num, Lib.hid ⟨?_, ?_, by simp [go_sem, y1], ?_⟩⟩
           · exact ok_take hh.out.1 (by have := HN.out; omega) HX.out.1 HX.out.2.1 HX.out.2.2 HK0.out
           · rw [show (cs.take (k + 1)).map sn0 = (cs.take k).map sn0 ++ [(⟨co, cn, cd, 0, false, 0, 0⟩ : Sn)] from take_sn (by have := HN.out; omega) HX.out.1 HX.out.2.1 HX.out.2.2]
             exact HR1.out.set (by show w.heap.size < _; omega) _
           · exact ((((hh.out.2.2.2.trans (Fr.of_below HBB.out _ (by show w.heap.size < _; omega))).trans (Fr.of_below HBX.out _ (by exact hx2))).grownN HG1.out (fun g' e => Nat.not_lt.1 (fun hl => HSR.out.own (by rw [HJ0.out.2.2.2] at hl; exact hl) e)) (by rw [HJ0.out.2.2.2]; show w.heap.size < _; omega)).set _))
        | (simp [intOf]; omega)
    · have hkn : k = n := by omega
      subst hkn
      have HFIN := Lib.hid (new_fin hh.out.2.1 hh.out.2.2.1 hh.out.2.2.2 HJ0.out.1 HJ0.out.2.1 HJ0.out.2.2.1 HJ0.out.2.2.2 HN.out)
      go_wp2_with fail
      go_ret2
      refine .inl ⟨?_, rfl, sv, HFIN.out⟩
      unfold newE
      have hall := hh.out.1
      rw [List.take_of_length_le (by have := HN.out; omega)] at hall
      rw [if_neg (by have := HN.out; omega), if_pos hall]
end Go.Proofs.YtebacmmfjadalaaGreat
