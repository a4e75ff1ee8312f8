/- G2 in one text. -/
import Derived.Test.YtebacmmfjadalaaGreatP18
import Derived.Test.YtebacmmfjadalaaGreatP20

namespace Go.Proofs.YtebacmmfjadalaaGreat
open Go Go.RowKit

/-- what a call may turn: the blocks that F names, new blocks -/
structure Ft (w w' : World) (F : Nat → Prop) : Prop where
  os : w'.os = w.os
  tape : w'.tape = w.tape
  output : w'.output = w.output
  size : w.heap.size ≤ w'.heap.size
  block : ∀ k, k < w.heap.size → ¬ F k → w'.heap[k]? = w.heap[k]?
theorem Ft.of_below {w w' : World} (h : Below w.heap.size w w') (F : Nat → Prop) : Ft w w' F := ⟨h.os, h.tape, h.output, h.size, fun k hk _ => h.block k hk⟩
theorem Ft.trans {w w1 w2 : World} {F : Nat → Prop} (h : Ft w w1 F) (k : Ft w1 w2 F) : Ft w w2 F :=
  ⟨k.os.trans h.os, k.tape.trans h.tape, k.output.trans h.output, Nat.le_trans h.size k.size, fun i hi hf => (k.block i (Nat.lt_of_lt_of_le hi h.size) hf).trans (h.block i hi hf)⟩
theorem Ft.mono {w w' : World} {F G : Nat → Prop} (h : Ft w w' F) (hFG : ∀ k, k < w.heap.size → F k → G k) : Ft w w' G := ⟨h.os, h.tape, h.output, h.size, fun k hk hg => h.block k hk (fun hf => hg (hFG k hk hf))⟩
/-- what follows may turn new blocks, too -/
theorem Ft.then {w w1 w2 : World} {F G : Nat → Prop} (h : Ft w w1 F) (k : Ft w1 w2 G) (hG : ∀ i, i < w.heap.size → G i → F i) : Ft w w2 F :=
  ⟨k.os.trans h.os, k.tape.trans h.tape, k.output.trans h.output, Nat.le_trans h.size k.size, fun i hi hf => (k.block i (Nat.lt_of_lt_of_le hi h.size) (fun hg => hf (hG i hi hg))).trans (h.block i hi hf)⟩
theorem Ft.set {w w' : World} {F : Nat → Prop} (h : Ft w w' F) {p : Addr} (hp : F p.block) (u : Value) : Ft w (w'.setCell p u) F :=
  ⟨h.os, h.tape, h.output, by simp [World.setCell]; exact h.size, fun k hk hf => by
    rw [← h.block k hk hf]
    simp only [World.setCell, Array.getElem?_modify]
    rw [if_neg (by rintro rfl; exact hf hp)]⟩
theorem Ft.drew {w w' : World} {F : Nat → Prop} (h : Ft w w' F) : Ft w w'.drew F := ⟨h.os, h.tape, h.output, h.size, h.block⟩
theorem Ft.below {w w' : World} {F : Nat → Prop} {B : Nat} (h : Ft w w' F) (hB : B ≤ w.heap.size) (hF : ∀ k, F k → B ≤ k) : Below B w w' := ⟨h.os, h.tape, h.output, h.size, fun k hk => h.block k (by omega) (fun hf => by have := hF k hf; omega)⟩
theorem Ft.of_fr {w w' : World} {o : Option Nat} {pa : Addr} (h : Fr w w' o pa) : Ft w w' (fun k => k = pa.block ∨ o = some k) := ⟨h.os, h.tape, h.output, h.size, fun k hk hf => h.block k hk (fun e => hf (.inl e)) (fun e => hf (.inr e.symm))⟩
theorem Ft.of_ch {w w' : World} {o : Option Nat} {ok : Addr → Prop} {x : Nat} (h : Ch w w' o ok) (hok : ∀ a, ok a → a.block = x) : Ft w w' (fun k => k = x ∨ o = some k) := ⟨h.os, h.tape, h.output, h.size, fun k hk hf => h.block k hk (fun e => hf (.inr e.symm)) (fun _ hi => hf (.inl (hok _ hi)))⟩
theorem ElOk.ft {w w' : World} {e : El} {F : Nat → Prop} (h : ElOk w e) (k : Ft w w' F) (hF : ∀ b f, e.v = some ⟨b, f, none⟩ → ¬ F b) : ElOk w' e :=
  h.keep fun b f hv => k.block b (h.lt hv) (hF b f hv)

theorem Inv.cnt {w W : World} {x B i : Nat} {j j' : Jn} {sns : List Sn} {xs : List El} {u : Value} (h : Inv w W x B j sns xs) (hj : JnAt (W.setCell ⟨x, i, none⟩ u) x j') (e1 : j'.sen = j.sen) (e2 : j'.wait = j.wait) : Inv w (W.setCell ⟨x, i, none⟩ u) x B j' sns xs := by
  refine ⟨hj, ?_, ?_, fun m => by rw [show (W.setCell ⟨x, i, none⟩ u).frozen? ⟨x, m, none⟩ = W.frozen? ⟨x, m, none⟩ by simp [go_sem]]; exact h.fz m, by simp [World.setCell]; exact h.big, h.xB, h.bel.setCell (p := ⟨x, i, none⟩) (Nat.le_refl _) _⟩
  · rw [e1]; exact h.sn.set (p := ⟨x, i, none⟩) (Nat.lt_succ_self _) _
  · rw [e2]; exact h.row.set (p := ⟨x, i, none⟩) h.xB _
theorem set_self {W : World} {x i : Nat} {u v : Value} (h : W.cell? ⟨x, i, none⟩ = some v) : (W.setCell ⟨x, i, none⟩ u).cell? ⟨x, i, none⟩ = some u := by simp [go_sem, h]
theorem set_ne {W : World} {x i k : Nat} {u : Value} (h : i ≠ k) : (W.setCell ⟨x, i, none⟩ u).cell? ⟨x, k, none⟩ = W.cell? ⟨x, k, none⟩ := World.cell?_setCell_other _ _ _ _ (by intro e; injection e with _ e _; exact h e)
theorem Inv.cnt7 {w W : World} {x B : Nat} {j : Jn} {sns : List Sn} {xs : List El} (h : Inv w W x B j sns xs) (m : Int) : Inv w (W.setCell ⟨x, 7, none⟩ (.int .i64 m)) x B { j with cd := m } sns xs := by
  obtain ⟨g0, g1, g2, g3, g4, g5, ⟨g6, g7, g8, g9, g10⟩, g11⟩ := h.jn
  exact h.cnt ⟨(set_ne (by omega)).trans g0, (set_ne (by omega)).trans g1, (set_ne (by omega)).trans g2, (set_ne (by omega)).trans g3, (set_ne (by omega)).trans g4, (set_ne (by omega)).trans g5, ⟨(set_ne (by omega)).trans g6, set_self g7, (set_ne (by omega)).trans g8, (set_ne (by omega)).trans g9, (set_ne (by omega)).trans g10⟩, (set_ne (by omega)).trans g11⟩ rfl rfl
theorem Inv.cnt8 {w W : World} {x B : Nat} {j : Jn} {sns : List Sn} {xs : List El} (h : Inv w W x B j sns xs) (m : Int) : Inv w (W.setCell ⟨x, 8, none⟩ (.int .i64 m)) x B { j with co := m } sns xs := by
  obtain ⟨g0, g1, g2, g3, g4, g5, ⟨g6, g7, g8, g9, g10⟩, g11⟩ := h.jn
  exact h.cnt ⟨(set_ne (by omega)).trans g0, (set_ne (by omega)).trans g1, (set_ne (by omega)).trans g2, (set_ne (by omega)).trans g3, (set_ne (by omega)).trans g4, (set_ne (by omega)).trans g5, ⟨(set_ne (by omega)).trans g6, (set_ne (by omega)).trans g7, set_self g8, (set_ne (by omega)).trans g9, (set_ne (by omega)).trans g10⟩, (set_ne (by omega)).trans g11⟩ rfl rfl
theorem Inv.cnt9 {w W : World} {x B : Nat} {j : Jn} {sns : List Sn} {xs : List El} (h : Inv w W x B j sns xs) (m : Int) : Inv w (W.setCell ⟨x, 9, none⟩ (.int .i64 m)) x B { j with cl := m } sns xs := by
  obtain ⟨g0, g1, g2, g3, g4, g5, ⟨g6, g7, g8, g9, g10⟩, g11⟩ := h.jn
  exact h.cnt ⟨(set_ne (by omega)).trans g0, (set_ne (by omega)).trans g1, (set_ne (by omega)).trans g2, (set_ne (by omega)).trans g3, (set_ne (by omega)).trans g4, (set_ne (by omega)).trans g5, ⟨(set_ne (by omega)).trans g6, (set_ne (by omega)).trans g7, (set_ne (by omega)).trans g8, set_self g9, (set_ne (by omega)).trans g10⟩, (set_ne (by omega)).trans g11⟩ rfl rfl

/-- how far a number lies below the greatest, where it does -/
def below' (s : Sn) (q : Int) : Bool := s.some && decide (q ≤ s.most)
def bitAt (s : Sn) (d : Nat) : Bool := bits .and .u64 (s.taken / 2 ^ d) 1 == 1

set_option maxRecDepth 8000 in
set_option maxHeartbeats 4000000 in
theorem push_dup (x B : Nat) (j : Jn) (sns : List Sn) (xs : List El) (se : Nat) (sq st : Int) (A : Option Addr) (n c : Nat) (bs : List Nat) (w0 w : World) (hi : Inv w0 w x B j sns xs) (hfl : FlAt w A n bs) (hl : n * 8 ≤ 140737488355328) (hq : chkE se n bs = 0) (s : Sn) (hs : sns[se]? = some s) (st0 : 0 ≤ st) (st1 : st ≤ 4294967295) (hsb : ∀ g, j.sen.ownBlock = some g → g < B) (cnt t : Int) (u1 : Ck.unwV s.last st = cnt) (u2 : Ck.unwE s.last st = 0) (t1 : Ck.timeV s.o s.n s.d cnt = t) (t2 : Ck.timeE s.o s.n s.d cnt = 0) (q0 : 0 ≤ sq) (q1 : sq ≤ 4294967295) (m0 : 0 ≤ s.most) (m1 : s.most ≤ 4294967295) (hbe : below' s sq = true) (dn : Nat) (hdn : s.most - sq = (dn : Int)) (hd64 : dn < 64) (hbit : bitAt s dn = true) (c0 : 0 ≤ j.cd) (c1 : j.cd ≤ 4611686018427387904) :
    Calls Tryz.prog 12 #[.pointer (some ⟨x, 0, none⟩), .agg #[.int .i64 se, .int .u32 sq, .int .u32 st, .slice A n c]] w fun e w' => e = .returned (.tuple #[.int .i64 2, .slice none 0 0, .int .i64 0]) ∧ Inv w w' x B { j with cd := j.cd + 1 } sns xs ∧ Ft w w' (fun k => k = x) := by
  have hi := hi.rebase
  obtain ⟨S, win, V, sm, top, hor, ct, cd, co, cl, cs⟩ := j
  have hxw : x < w.heap.size := by have := hi.big; have := hi.xB; omega
  have hb1 := (Below.refl w.heap.size w).alloc (Nat.le_refl _) (.cells #[.int .i64 se, .int .u32 sq, .int .u32 st, .slice A n c] 38)
  have hi1 := hi.below hb1
  have HI1 := Lib.hid hi1
  have HB1 := Lib.hid hb1
  have HPC := Lib.hid (pcheck_any se sq st A n c bs _ (hfl.below hb1) hl)
  rw [hq] at HPC
  obtain ⟨sb, scap, hgv, hg1, hg2, hsa, hsz⟩ := hi.sn.at hs
  simp only at hgv
  subst hgv
  obtain ⟨so, sn', sd, slast, ssm, smost, staken⟩ := s
  have HSA := Lib.hid hsa
  obtain ⟨snl, hsnl⟩ : ∃ y, sns.length = y := ⟨_, rfl⟩
  have hsel : se < snl := by rw [← hsnl]; exact (List.getElem?_eq_some_iff.1 hs).1
  have hsel' : (se : Int) < (snl : Int) := by omega
  have hse0 : (0 : Int) ≤ (se : Int) := by omega
  have HSNL := Lib.hid hsnl
  clear hi hsa hfl hq hs hsnl
  unfold below' at hbe
  simp only at hbe hdn
  unfold bitAt at hbit
  simp only at hbit
  simp only at c0 c1
  have hsb := hsb sb rfl
  simp only at u1 u2 t1 t2 m0 m1
  have HUN := Lib.hid (fun W => unwrap_any slast st W st0 st1)
  rw [u1, u2] at HUN
  have HTI := Lib.hid (fun W => time_any so sn' sd cnt W)
  rw [t1, t2] at HTI
  unfold clk at HTI
  have HTB := timeV_bd so sn' sd cnt
  rw [t1] at HTB
  obtain ⟨ht0, ht1⟩ := HTB
  clear u1 u2 t1 t2
  go_enter Tryz.func12, Tryz.ntmps12
  go_wp2_with fail
  refine (ready_any x true _ hi1.jn.2.2.2.2.2.2.2).mono ?_
  rintro e w1 ⟨rfl, rfl⟩
  go_wp2_with fail
  refine HPC.out.mono ?_
  rintro e w2 ⟨rfl, hb2⟩
  have HI2 := Lib.hid (hi1.below hb2)
  have hbb := HB1.out.trans (hb2.mono HB1.out.size)
  have HB2 := Lib.hid hbb
  have r0 : w2.cell? ⟨w.heap.size, 0, none⟩ = some (.int .i64 se) := (hb2.cell (p := ⟨w.heap.size, 0, none⟩) (by simp)).trans (by simp [go_sem])
  have r1 : w2.cell? ⟨w.heap.size, 1, none⟩ = some (.int .u32 sq) := (hb2.cell (p := ⟨w.heap.size, 1, none⟩) (by simp)).trans (by simp [go_sem])
  have r2 : w2.cell? ⟨w.heap.size, 2, none⟩ = some (.int .u32 st) := (hb2.cell (p := ⟨w.heap.size, 2, none⟩) (by simp)).trans (by simp [go_sem])
  have r3 : w2.cell? ⟨w.heap.size, 3, none⟩ = some (.slice A n c) := (hb2.cell (p := ⟨w.heap.size, 3, none⟩) (by simp)).trans (by simp [go_sem])
  have hbx : w.heap.size < w2.heap.size := Nat.lt_of_lt_of_le (by simp) hb2.size
  have HSA2 := Lib.hid (HSA.out.same (fun i => hbb.cell (p := ⟨sb, i, none⟩) hg2))
  have HZ2 := Lib.hid (fun i => (hbb.frozen (p := ⟨sb, i, none⟩) hg2).trans (hsz i))
  obtain ⟨s0, s1, s2, s3, s4, s5, s6⟩ := HSA2.out
  simp only at s0 s1 s2 s3 s4 s5 s6
  obtain ⟨g0, g1, g2, g3, g4, g5, ⟨g6, g7, g8, g9, g10⟩, g11⟩ := HI2.out.jn
  simp only at g0 g1 g2 g3 g4 g5 g6 g7 g8 g9 g10 g11
  rw [HSNL.out] at g0
  clear hi1 hb2 hbb HI1 HB1 HSA hsz
  generalize hbxe : w.heap.size = bx at *
  have HBXE := Lib.hid hbxe
  clear hbxe
  go_wp2_with fail
  go_region
  all_goals go_wp2_with fail
  go_region
  all_goals go_wp2_with fail
  go_region_held3 (fun w' => w'.cell? ⟨sb, se * 7 + 3, none⟩ = some (.int .i64 slast) ∧ w'.cell? ⟨bx, 2, none⟩ = some (.int .u32 st))
    (first | exact ⟨s3, r2⟩)
    (first | (go_at_call 31; refine (HUN.out _).mono ?_; rintro e w3 ⟨rfl, rfl⟩))
  go_wp2_with fail
  refine (HTI.out _).mono ?_
  rintro e w3 ⟨rfl, hb3⟩
  have hb23 : Below w2.heap.size w2 w3 := (Below.refl w2.heap.size w2).drew.drew.drew.trans hb3
  have HI3 := Lib.hid (HI2.out.below hb23)
  have HSA3 := Lib.hid (HSA2.out.same (fun i => hb23.cell (p := ⟨sb, i, none⟩) (Nat.lt_of_lt_of_le hsb HI2.out.big)))
  have HZS := Lib.hid (fun i => (hb23.frozen (p := ⟨sb, i, none⟩) (Nat.lt_of_lt_of_le hsb HI2.out.big)).trans (HZ2.out i))
  have HB3 := Lib.hid (HB2.out.trans (hb23.mono (Nat.le_of_lt hbx)))
  have p0 := (hb23.cell (p := ⟨bx, 0, none⟩) hbx).trans r0
  have p1 := (hb23.cell (p := ⟨bx, 1, none⟩) hbx).trans r1
  have p2 := (hb23.cell (p := ⟨bx, 2, none⟩) hbx).trans r2
  have p3 := (hb23.cell (p := ⟨bx, 3, none⟩) hbx).trans r3
  have hbx3 := Nat.lt_of_lt_of_le hbx hb23.size
  have HAG := Lib.hid (age_any sb (se * 7) _ sq w3 HSA3.out)
  simp only at HAG
  clear HTI HUN hb3 hb23 r0 r1 r2 r3 g0 g1 g2 g3 g4 g5 g6 g7 g8 g9 g10 g11 s0 s1 s2 s3 s4 s5 s6 HI2 HSA2 HZ2
  rw [hbe] at HAG
  have hdm : (smost - sq) % 4294967296 = (dn : Int) := by omega
  rw [hdm] at HAG
  clear hbe hdm hdn
  go_wp2_with fail
  refine HAG.out.mono ?_
  rintro e w4 ⟨rfl, rfl⟩
  obtain ⟨g0, g1, g2, g3, g4, g5, ⟨g6, g7, g8, g9, g10⟩, g11⟩ := HI3.out.jn
  simp only at g0 g1 g2 g3 g4 g5 g6 g7 g8 g9 g10 g11
  obtain ⟨s0, s1, s2, s3, s4, s5, s6⟩ := HSA3.out
  simp only at s0 s1 s2 s3 s4 s5 s6
  clear HAG
  have gf := HI3.out.fz 7
  have d1 : decide ((dn : Int) < 64) = true := by simp; omega
  have d2 : (dn : Int) < 64 := by omega
  have HW := Lib.hid (HI3.out.below ((Below.refl w3.heap.size w3).drew))
  have HFT := Lib.hid (((Ft.of_below (by rw [HBXE.out]; exact HB3.out.drew) (fun k => k = x)).set (p := ⟨x, 7, none⟩) rfl (.int .i64 (cd + 1))))
  clear s0 s1 s2 s3 s4 s5 p0 p1 p2 p3 HB2 HB3 HI3 HSA3 HZS
  go_wp2_with fail
  go_ret3
  exact ⟨rfl, HW.out.cnt7 (cd + 1), HFT.out⟩

set_option maxRecDepth 8000 in
set_option maxHeartbeats 4000000 in
theorem push_old (x B : Nat) (j : Jn) (sns : List Sn) (xs : List El) (se : Nat) (sq st : Int) (A : Option Addr) (n c : Nat) (bs : List Nat) (w0 w : World) (hi : Inv w0 w x B j sns xs) (hfl : FlAt w A n bs) (hl : n * 8 ≤ 140737488355328) (hq : chkE se n bs = 0) (s : Sn) (hs : sns[se]? = some s) (st0 : 0 ≤ st) (st1 : st ≤ 4294967295) (hsb : ∀ g, j.sen.ownBlock = some g → g < B) (cnt t : Int) (u1 : Ck.unwV s.last st = cnt) (u2 : Ck.unwE s.last st = 0) (t1 : Ck.timeV s.o s.n s.d cnt = t) (t2 : Ck.timeE s.o s.n s.d cnt = 0) (q0 : 0 ≤ sq) (q1 : sq ≤ 4294967295) (m0 : 0 ≤ s.most) (m1 : s.most ≤ 4294967295) (hbe : below' s sq = true) (dn : Nat) (hdn : s.most - sq = (dn : Int)) (hd64 : 64 ≤ dn) (c0 : 0 ≤ j.co) (c1 : j.co ≤ 4611686018427387904) :
    Calls Tryz.prog 12 #[.pointer (some ⟨x, 0, none⟩), .agg #[.int .i64 se, .int .u32 sq, .int .u32 st, .slice A n c]] w fun e w' => e = .returned (.tuple #[.int .i64 3, .slice none 0 0, .int .i64 0]) ∧ Inv w w' x B { j with co := j.co + 1 } sns xs ∧ Ft w w' (fun k => k = x) := by
  have hi := hi.rebase
  obtain ⟨S, win, V, sm, top, hor, ct, cd, co, cl, cs⟩ := j
  have hxw : x < w.heap.size := by have := hi.big; have := hi.xB; omega
  have hb1 := (Below.refl w.heap.size w).alloc (Nat.le_refl _) (.cells #[.int .i64 se, .int .u32 sq, .int .u32 st, .slice A n c] 38)
  have hi1 := hi.below hb1
  have HI1 := Lib.hid hi1
  have HB1 := Lib.hid hb1
  have HPC := Lib.hid (pcheck_any se sq st A n c bs _ (hfl.below hb1) hl)
  rw [hq] at HPC
  obtain ⟨sb, scap, hgv, hg1, hg2, hsa, hsz⟩ := hi.sn.at hs
  simp only at hgv
  subst hgv
  obtain ⟨so, sn', sd, slast, ssm, smost, staken⟩ := s
  have HSA := Lib.hid hsa
  obtain ⟨snl, hsnl⟩ : ∃ y, sns.length = y := ⟨_, rfl⟩
  have hsel : se < snl := by rw [← hsnl]; exact (List.getElem?_eq_some_iff.1 hs).1
  have hsel' : (se : Int) < (snl : Int) := by omega
  have hse0 : (0 : Int) ≤ (se : Int) := by omega
  have HSNL := Lib.hid hsnl
  clear hi hsa hfl hq hs hsnl
  unfold below' at hbe
  simp only at hbe hdn
  simp only at c0 c1
  have hsb := hsb sb rfl
  simp only at u1 u2 t1 t2 m0 m1
  have HUN := Lib.hid (fun W => unwrap_any slast st W st0 st1)
  rw [u1, u2] at HUN
  have HTI := Lib.hid (fun W => time_any so sn' sd cnt W)
  rw [t1, t2] at HTI
  unfold clk at HTI
  have HTB := timeV_bd so sn' sd cnt
  rw [t1] at HTB
  obtain ⟨ht0, ht1⟩ := HTB
  clear u1 u2 t1 t2
  go_enter Tryz.func12, Tryz.ntmps12
  go_wp2_with fail
  refine (ready_any x true _ hi1.jn.2.2.2.2.2.2.2).mono ?_
  rintro e w1 ⟨rfl, rfl⟩
  go_wp2_with fail
  refine HPC.out.mono ?_
  rintro e w2 ⟨rfl, hb2⟩
  have HI2 := Lib.hid (hi1.below hb2)
  have hbb := HB1.out.trans (hb2.mono HB1.out.size)
  have HB2 := Lib.hid hbb
  have r0 : w2.cell? ⟨w.heap.size, 0, none⟩ = some (.int .i64 se) := (hb2.cell (p := ⟨w.heap.size, 0, none⟩) (by simp)).trans (by simp [go_sem])
  have r1 : w2.cell? ⟨w.heap.size, 1, none⟩ = some (.int .u32 sq) := (hb2.cell (p := ⟨w.heap.size, 1, none⟩) (by simp)).trans (by simp [go_sem])
  have r2 : w2.cell? ⟨w.heap.size, 2, none⟩ = some (.int .u32 st) := (hb2.cell (p := ⟨w.heap.size, 2, none⟩) (by simp)).trans (by simp [go_sem])
  have r3 : w2.cell? ⟨w.heap.size, 3, none⟩ = some (.slice A n c) := (hb2.cell (p := ⟨w.heap.size, 3, none⟩) (by simp)).trans (by simp [go_sem])
  have hbx : w.heap.size < w2.heap.size := Nat.lt_of_lt_of_le (by simp) hb2.size
  have HSA2 := Lib.hid (HSA.out.same (fun i => hbb.cell (p := ⟨sb, i, none⟩) hg2))
  have HZ2 := Lib.hid (fun i => (hbb.frozen (p := ⟨sb, i, none⟩) hg2).trans (hsz i))
  obtain ⟨s0, s1, s2, s3, s4, s5, s6⟩ := HSA2.out
  simp only at s0 s1 s2 s3 s4 s5 s6
  obtain ⟨g0, g1, g2, g3, g4, g5, ⟨g6, g7, g8, g9, g10⟩, g11⟩ := HI2.out.jn
  simp only at g0 g1 g2 g3 g4 g5 g6 g7 g8 g9 g10 g11
  rw [HSNL.out] at g0
  clear hi1 hb2 hbb HI1 HB1 HSA hsz
  generalize hbxe : w.heap.size = bx at *
  have HBXE := Lib.hid hbxe
  clear hbxe
  go_wp2_with fail
  go_region
  all_goals go_wp2_with fail
  go_region
  all_goals go_wp2_with fail
  go_region_held3 (fun w' => w'.cell? ⟨sb, se * 7 + 3, none⟩ = some (.int .i64 slast) ∧ w'.cell? ⟨bx, 2, none⟩ = some (.int .u32 st))
    (first | exact ⟨s3, r2⟩)
    (first | (go_at_call 31; refine (HUN.out _).mono ?_; rintro e w3 ⟨rfl, rfl⟩))
  go_wp2_with fail
  refine (HTI.out _).mono ?_
  rintro e w3 ⟨rfl, hb3⟩
  have hb23 : Below w2.heap.size w2 w3 := (Below.refl w2.heap.size w2).drew.drew.drew.trans hb3
  have HI3 := Lib.hid (HI2.out.below hb23)
  have HSA3 := Lib.hid (HSA2.out.same (fun i => hb23.cell (p := ⟨sb, i, none⟩) (Nat.lt_of_lt_of_le hsb HI2.out.big)))
  have HZS := Lib.hid (fun i => (hb23.frozen (p := ⟨sb, i, none⟩) (Nat.lt_of_lt_of_le hsb HI2.out.big)).trans (HZ2.out i))
  have HB3 := Lib.hid (HB2.out.trans (hb23.mono (Nat.le_of_lt hbx)))
  have p0 := (hb23.cell (p := ⟨bx, 0, none⟩) hbx).trans r0
  have p1 := (hb23.cell (p := ⟨bx, 1, none⟩) hbx).trans r1
  have p2 := (hb23.cell (p := ⟨bx, 2, none⟩) hbx).trans r2
  have p3 := (hb23.cell (p := ⟨bx, 3, none⟩) hbx).trans r3
  have hbx3 := Nat.lt_of_lt_of_le hbx hb23.size
  have HAG := Lib.hid (age_any sb (se * 7) _ sq w3 HSA3.out)
  simp only at HAG
  clear HTI HUN hb3 hb23 r0 r1 r2 r3 g0 g1 g2 g3 g4 g5 g6 g7 g8 g9 g10 g11 s0 s1 s2 s3 s4 s5 s6 HI2 HSA2 HZ2
  rw [hbe] at HAG
  have hdm : (smost - sq) % 4294967296 = (dn : Int) := by omega
  rw [hdm] at HAG
  clear hbe hdm hdn
  go_wp2_with fail
  refine HAG.out.mono ?_
  rintro e w4 ⟨rfl, rfl⟩
  obtain ⟨g0, g1, g2, g3, g4, g5, ⟨g6, g7, g8, g9, g10⟩, g11⟩ := HI3.out.jn
  simp only at g0 g1 g2 g3 g4 g5 g6 g7 g8 g9 g10 g11
  obtain ⟨s0, s1, s2, s3, s4, s5, s6⟩ := HSA3.out
  simp only at s0 s1 s2 s3 s4 s5 s6
  clear HAG
  have gf := HI3.out.fz 8
  have d1 : decide ((dn : Int) < 64) = false := by simp; omega
  have d2 : ¬ (dn : Int) < 64 := by omega
  have d3 : decide (64 ≤ (dn : Int)) = true := by simp; omega
  have d4 : 64 ≤ (dn : Int) := by omega
  have HW := Lib.hid (HI3.out.below ((Below.refl w3.heap.size w3).drew))
  have HFT := Lib.hid (((Ft.of_below (by rw [HBXE.out]; exact HB3.out.drew) (fun k => k = x)).set (p := ⟨x, 8, none⟩) rfl (.int .i64 (co + 1))))
  clear s0 s1 s2 s3 s4 s5 p0 p1 p2 p3 HB2 HB3 HI3 HSA3 HZS
  go_wp2_with fail
  go_ret3
  exact ⟨rfl, HW.out.cnt8 (co + 1), HFT.out⟩

set_option maxRecDepth 8000 in
set_option maxHeartbeats 4000000 in
theorem push_late1 (x B : Nat) (j : Jn) (sns : List Sn) (xs : List El) (se : Nat) (sq st : Int) (A : Option Addr) (n c : Nat) (bs : List Nat) (w0 w : World) (hi : Inv w0 w x B j sns xs) (hfl : FlAt w A n bs) (hl : n * 8 ≤ 140737488355328) (hq : chkE se n bs = 0) (s : Sn) (hs : sns[se]? = some s) (st0 : 0 ≤ st) (st1 : st ≤ 4294967295) (hsb : ∀ g, j.sen.ownBlock = some g → g < B) (cnt t : Int) (u1 : Ck.unwV s.last st = cnt) (u2 : Ck.unwE s.last st = 0) (t1 : Ck.timeV s.o s.n s.d cnt = t) (t2 : Ck.timeE s.o s.n s.d cnt = 0) (m0 : 0 ≤ s.most) (m1 : s.most ≤ 4294967295) (hbe : below' s sq = false) (hsm : j.some = true) (hlt : t < j.hor) (c0 : 0 ≤ j.cl) (c1 : j.cl ≤ 4611686018427387904) :
    Calls Tryz.prog 12 #[.pointer (some ⟨x, 0, none⟩), .agg #[.int .i64 se, .int .u32 sq, .int .u32 st, .slice A n c]] w fun e w' => e = .returned (.tuple #[.int .i64 4, .slice none 0 0, .int .i64 0]) ∧ Inv w w' x B { j with cl := j.cl + 1 } sns xs ∧ Ft w w' (fun k => k = x) := by
  have hi := hi.rebase
  obtain ⟨S, win, V, sm, top, hor, ct, cd, co, cl, cs⟩ := j
  have hxw : x < w.heap.size := by have := hi.big; have := hi.xB; omega
  have hb1 := (Below.refl w.heap.size w).alloc (Nat.le_refl _) (.cells #[.int .i64 se, .int .u32 sq, .int .u32 st, .slice A n c] 38)
  have hi1 := hi.below hb1
  have HI1 := Lib.hid hi1
  have HB1 := Lib.hid hb1
  have HPC := Lib.hid (pcheck_any se sq st A n c bs _ (hfl.below hb1) hl)
  rw [hq] at HPC
  obtain ⟨sb, scap, hgv, hg1, hg2, hsa, hsz⟩ := hi.sn.at hs
  simp only at hgv
  subst hgv
  obtain ⟨so, sn', sd, slast, ssm, smost, staken⟩ := s
  have HSA := Lib.hid hsa
  obtain ⟨snl, hsnl⟩ : ∃ y, sns.length = y := ⟨_, rfl⟩
  have hsel : se < snl := by rw [← hsnl]; exact (List.getElem?_eq_some_iff.1 hs).1
  have hsel' : (se : Int) < (snl : Int) := by omega
  have hse0 : (0 : Int) ≤ (se : Int) := by omega
  have HSNL := Lib.hid hsnl
  clear hi hsa hfl hq hs hsnl
  unfold below' at hbe
  simp only at hbe hsm hlt
  subst hsm
  simp only at c0 c1
  have hsb := hsb sb rfl
  simp only at u1 u2 t1 t2 m0 m1
  have HUN := Lib.hid (fun W => unwrap_any slast st W st0 st1)
  rw [u1, u2] at HUN
  have HTI := Lib.hid (fun W => time_any so sn' sd cnt W)
  rw [t1, t2] at HTI
  unfold clk at HTI
  have HTB := timeV_bd so sn' sd cnt
  rw [t1] at HTB
  obtain ⟨ht0, ht1⟩ := HTB
  clear u1 u2 t1 t2
  go_enter Tryz.func12, Tryz.ntmps12
  go_wp2_with fail
  refine (ready_any x true _ hi1.jn.2.2.2.2.2.2.2).mono ?_
  rintro e w1 ⟨rfl, rfl⟩
  go_wp2_with fail
  refine HPC.out.mono ?_
  rintro e w2 ⟨rfl, hb2⟩
  have HI2 := Lib.hid (hi1.below hb2)
  have hbb := HB1.out.trans (hb2.mono HB1.out.size)
  have HB2 := Lib.hid hbb
  have r0 : w2.cell? ⟨w.heap.size, 0, none⟩ = some (.int .i64 se) := (hb2.cell (p := ⟨w.heap.size, 0, none⟩) (by simp)).trans (by simp [go_sem])
  have r1 : w2.cell? ⟨w.heap.size, 1, none⟩ = some (.int .u32 sq) := (hb2.cell (p := ⟨w.heap.size, 1, none⟩) (by simp)).trans (by simp [go_sem])
  have r2 : w2.cell? ⟨w.heap.size, 2, none⟩ = some (.int .u32 st) := (hb2.cell (p := ⟨w.heap.size, 2, none⟩) (by simp)).trans (by simp [go_sem])
  have r3 : w2.cell? ⟨w.heap.size, 3, none⟩ = some (.slice A n c) := (hb2.cell (p := ⟨w.heap.size, 3, none⟩) (by simp)).trans (by simp [go_sem])
  have hbx : w.heap.size < w2.heap.size := Nat.lt_of_lt_of_le (by simp) hb2.size
  have HSA2 := Lib.hid (HSA.out.same (fun i => hbb.cell (p := ⟨sb, i, none⟩) hg2))
  have HZ2 := Lib.hid (fun i => (hbb.frozen (p := ⟨sb, i, none⟩) hg2).trans (hsz i))
  obtain ⟨s0, s1, s2, s3, s4, s5, s6⟩ := HSA2.out
  simp only at s0 s1 s2 s3 s4 s5 s6
  obtain ⟨g0, g1, g2, g3, g4, g5, ⟨g6, g7, g8, g9, g10⟩, g11⟩ := HI2.out.jn
  simp only at g0 g1 g2 g3 g4 g5 g6 g7 g8 g9 g10 g11
  rw [HSNL.out] at g0
  clear hi1 hb2 hbb HI1 HB1 HSA hsz
  generalize hbxe : w.heap.size = bx at *
  have HBXE := Lib.hid hbxe
  clear hbxe
  go_wp2_with fail
  go_region
  all_goals go_wp2_with fail
  go_region
  all_goals go_wp2_with fail
  go_region_held3 (fun w' => w'.cell? ⟨sb, se * 7 + 3, none⟩ = some (.int .i64 slast) ∧ w'.cell? ⟨bx, 2, none⟩ = some (.int .u32 st))
    (first | exact ⟨s3, r2⟩)
    (first | (go_at_call 31; refine (HUN.out _).mono ?_; rintro e w3 ⟨rfl, rfl⟩))
  go_wp2_with fail
  refine (HTI.out _).mono ?_
  rintro e w3 ⟨rfl, hb3⟩
  have hb23 : Below w2.heap.size w2 w3 := (Below.refl w2.heap.size w2).drew.drew.drew.trans hb3
  have HI3 := Lib.hid (HI2.out.below hb23)
  have HSA3 := Lib.hid (HSA2.out.same (fun i => hb23.cell (p := ⟨sb, i, none⟩) (Nat.lt_of_lt_of_le hsb HI2.out.big)))
  have HZS := Lib.hid (fun i => (hb23.frozen (p := ⟨sb, i, none⟩) (Nat.lt_of_lt_of_le hsb HI2.out.big)).trans (HZ2.out i))
  have HB3 := Lib.hid (HB2.out.trans (hb23.mono (Nat.le_of_lt hbx)))
  have p0 := (hb23.cell (p := ⟨bx, 0, none⟩) hbx).trans r0
  have p1 := (hb23.cell (p := ⟨bx, 1, none⟩) hbx).trans r1
  have p2 := (hb23.cell (p := ⟨bx, 2, none⟩) hbx).trans r2
  have p3 := (hb23.cell (p := ⟨bx, 3, none⟩) hbx).trans r3
  have hbx3 := Nat.lt_of_lt_of_le hbx hb23.size
  have HAG := Lib.hid (age_any sb (se * 7) _ sq w3 HSA3.out)
  simp only at HAG
  clear HTI HUN hb3 hb23 r0 r1 r2 r3 g0 g1 g2 g3 g4 g5 g6 g7 g8 g9 g10 g11 s0 s1 s2 s3 s4 s5 s6 HI2 HSA2 HZ2
  rw [hbe] at HAG
  clear hbe
  go_wp2_with fail
  refine HAG.out.mono ?_
  rintro e w4 ⟨rfl, rfl⟩
  obtain ⟨g0, g1, g2, g3, g4, g5, ⟨g6, g7, g8, g9, g10⟩, g11⟩ := HI3.out.jn
  simp only at g0 g1 g2 g3 g4 g5 g6 g7 g8 g9 g10 g11
  obtain ⟨s0, s1, s2, s3, s4, s5, s6⟩ := HSA3.out
  simp only at s0 s1 s2 s3 s4 s5 s6
  clear HAG
  have gf := HI3.out.fz 9
  have d5 : decide (t < hor) = true := by simpa using hlt
  have HW := Lib.hid (HI3.out.below ((Below.refl w3.heap.size w3).drew))
  have HFT := Lib.hid (((Ft.of_below (by rw [HBXE.out]; exact HB3.out.drew) (fun k => k = x)).set (p := ⟨x, 9, none⟩) rfl (.int .i64 (cl + 1))))
  clear s0 s1 s2 s3 s4 s5 p0 p1 p2 p3 HB2 HB3 HI3 HSA3 HZS
  go_wp2_with fail
  go_ret3
  exact ⟨rfl, HW.out.cnt9 (cl + 1), HFT.out⟩

set_option maxRecDepth 8000 in
set_option maxHeartbeats 4000000 in
theorem push_late2 (x B : Nat) (j : Jn) (sns : List Sn) (xs : List El) (se : Nat) (sq st : Int) (A : Option Addr) (n c : Nat) (bs : List Nat) (w0 w : World) (hi : Inv w0 w x B j sns xs) (hfl : FlAt w A n bs) (hl : n * 8 ≤ 140737488355328) (hq : chkE se n bs = 0) (s : Sn) (hs : sns[se]? = some s) (st0 : 0 ≤ st) (st1 : st ≤ 4294967295) (hsb : ∀ g, j.sen.ownBlock = some g → g < B) (cnt t : Int) (u1 : Ck.unwV s.last st = cnt) (u2 : Ck.unwE s.last st = 0) (t1 : Ck.timeV s.o s.n s.d cnt = t) (t2 : Ck.timeE s.o s.n s.d cnt = 0) (q0 : 0 ≤ sq) (q1 : sq ≤ 4294967295) (m0 : 0 ≤ s.most) (m1 : s.most ≤ 4294967295) (hbe : below' s sq = true) (dn : Nat) (hdn : s.most - sq = (dn : Int)) (hd64 : dn < 64) (hbit : bitAt s dn = false) (hsm : j.some = true) (hlt : t < j.hor) (c0 : 0 ≤ j.cl) (c1 : j.cl ≤ 4611686018427387904) :
    Calls Tryz.prog 12 #[.pointer (some ⟨x, 0, none⟩), .agg #[.int .i64 se, .int .u32 sq, .int .u32 st, .slice A n c]] w fun e w' => e = .returned (.tuple #[.int .i64 4, .slice none 0 0, .int .i64 0]) ∧ Inv w w' x B { j with cl := j.cl + 1 } sns xs ∧ Ft w w' (fun k => k = x) := by
  have hi := hi.rebase
  obtain ⟨S, win, V, sm, top, hor, ct, cd, co, cl, cs⟩ := j
  have hxw : x < w.heap.size := by have := hi.big; have := hi.xB; omega
  have hb1 := (Below.refl w.heap.size w).alloc (Nat.le_refl _) (.cells #[.int .i64 se, .int .u32 sq, .int .u32 st, .slice A n c] 38)
  have hi1 := hi.below hb1
  have HI1 := Lib.hid hi1
  have HB1 := Lib.hid hb1
  have HPC := Lib.hid (pcheck_any se sq st A n c bs _ (hfl.below hb1) hl)
  rw [hq] at HPC
  obtain ⟨sb, scap, hgv, hg1, hg2, hsa, hsz⟩ := hi.sn.at hs
  simp only at hgv
  subst hgv
  obtain ⟨so, sn', sd, slast, ssm, smost, staken⟩ := s
  have HSA := Lib.hid hsa
  obtain ⟨snl, hsnl⟩ : ∃ y, sns.length = y := ⟨_, rfl⟩
  have hsel : se < snl := by rw [← hsnl]; exact (List.getElem?_eq_some_iff.1 hs).1
  have hsel' : (se : Int) < (snl : Int) := by omega
  have hse0 : (0 : Int) ≤ (se : Int) := by omega
  have HSNL := Lib.hid hsnl
  clear hi hsa hfl hq hs hsnl
  unfold below' at hbe
  simp only at hbe hdn
  unfold bitAt at hbit
  simp only at hbit hsm hlt
  subst hsm
  simp only at c0 c1
  have hsb := hsb sb rfl
  simp only at u1 u2 t1 t2 m0 m1
  have HUN := Lib.hid (fun W => unwrap_any slast st W st0 st1)
  rw [u1, u2] at HUN
  have HTI := Lib.hid (fun W => time_any so sn' sd cnt W)
  rw [t1, t2] at HTI
  unfold clk at HTI
  have HTB := timeV_bd so sn' sd cnt
  rw [t1] at HTB
  obtain ⟨ht0, ht1⟩ := HTB
  clear u1 u2 t1 t2
  go_enter Tryz.func12, Tryz.ntmps12
  go_wp2_with fail
  refine (ready_any x true _ hi1.jn.2.2.2.2.2.2.2).mono ?_
  rintro e w1 ⟨rfl, rfl⟩
  go_wp2_with fail
  refine HPC.out.mono ?_
  rintro e w2 ⟨rfl, hb2⟩
  have HI2 := Lib.hid (hi1.below hb2)
  have hbb := HB1.out.trans (hb2.mono HB1.out.size)
  have HB2 := Lib.hid hbb
  have r0 : w2.cell? ⟨w.heap.size, 0, none⟩ = some (.int .i64 se) := (hb2.cell (p := ⟨w.heap.size, 0, none⟩) (by simp)).trans (by simp [go_sem])
  have r1 : w2.cell? ⟨w.heap.size, 1, none⟩ = some (.int .u32 sq) := (hb2.cell (p := ⟨w.heap.size, 1, none⟩) (by simp)).trans (by simp [go_sem])
  have r2 : w2.cell? ⟨w.heap.size, 2, none⟩ = some (.int .u32 st) := (hb2.cell (p := ⟨w.heap.size, 2, none⟩) (by simp)).trans (by simp [go_sem])
  have r3 : w2.cell? ⟨w.heap.size, 3, none⟩ = some (.slice A n c) := (hb2.cell (p := ⟨w.heap.size, 3, none⟩) (by simp)).trans (by simp [go_sem])
  have hbx : w.heap.size < w2.heap.size := Nat.lt_of_lt_of_le (by simp) hb2.size
  have HSA2 := Lib.hid (HSA.out.same (fun i => hbb.cell (p := ⟨sb, i, none⟩) hg2))
  have HZ2 := Lib.hid (fun i => (hbb.frozen (p := ⟨sb, i, none⟩) hg2).trans (hsz i))
  obtain ⟨s0, s1, s2, s3, s4, s5, s6⟩ := HSA2.out
  simp only at s0 s1 s2 s3 s4 s5 s6
  obtain ⟨g0, g1, g2, g3, g4, g5, ⟨g6, g7, g8, g9, g10⟩, g11⟩ := HI2.out.jn
  simp only at g0 g1 g2 g3 g4 g5 g6 g7 g8 g9 g10 g11
  rw [HSNL.out] at g0
  clear hi1 hb2 hbb HI1 HB1 HSA hsz
  generalize hbxe : w.heap.size = bx at *
  have HBXE := Lib.hid hbxe
  clear hbxe
  go_wp2_with fail
  go_region
  all_goals go_wp2_with fail
  go_region
  all_goals go_wp2_with fail
  go_region_held3 (fun w' => w'.cell? ⟨sb, se * 7 + 3, none⟩ = some (.int .i64 slast) ∧ w'.cell? ⟨bx, 2, none⟩ = some (.int .u32 st))
    (first | exact ⟨s3, r2⟩)
    (first | (go_at_call 31; refine (HUN.out _).mono ?_; rintro e w3 ⟨rfl, rfl⟩))
  go_wp2_with fail
  refine (HTI.out _).mono ?_
  rintro e w3 ⟨rfl, hb3⟩
  have hb23 : Below w2.heap.size w2 w3 := (Below.refl w2.heap.size w2).drew.drew.drew.trans hb3
  have HI3 := Lib.hid (HI2.out.below hb23)
  have HSA3 := Lib.hid (HSA2.out.same (fun i => hb23.cell (p := ⟨sb, i, none⟩) (Nat.lt_of_lt_of_le hsb HI2.out.big)))
  have HZS := Lib.hid (fun i => (hb23.frozen (p := ⟨sb, i, none⟩) (Nat.lt_of_lt_of_le hsb HI2.out.big)).trans (HZ2.out i))
  have HB3 := Lib.hid (HB2.out.trans (hb23.mono (Nat.le_of_lt hbx)))
  have p0 := (hb23.cell (p := ⟨bx, 0, none⟩) hbx).trans r0
  have p1 := (hb23.cell (p := ⟨bx, 1, none⟩) hbx).trans r1
  have p2 := (hb23.cell (p := ⟨bx, 2, none⟩) hbx).trans r2
  have p3 := (hb23.cell (p := ⟨bx, 3, none⟩) hbx).trans r3
  have hbx3 := Nat.lt_of_lt_of_le hbx hb23.size
  have HAG := Lib.hid (age_any sb (se * 7) _ sq w3 HSA3.out)
  simp only at HAG
  clear HTI HUN hb3 hb23 r0 r1 r2 r3 g0 g1 g2 g3 g4 g5 g6 g7 g8 g9 g10 g11 s0 s1 s2 s3 s4 s5 s6 HI2 HSA2 HZ2
  rw [hbe] at HAG
  have hdm : (smost - sq) % 4294967296 = (dn : Int) := by omega
  rw [hdm] at HAG
  clear hbe hdm hdn
  go_wp2_with fail
  refine HAG.out.mono ?_
  rintro e w4 ⟨rfl, rfl⟩
  obtain ⟨g0, g1, g2, g3, g4, g5, ⟨g6, g7, g8, g9, g10⟩, g11⟩ := HI3.out.jn
  simp only at g0 g1 g2 g3 g4 g5 g6 g7 g8 g9 g10 g11
  obtain ⟨s0, s1, s2, s3, s4, s5, s6⟩ := HSA3.out
  simp only at s0 s1 s2 s3 s4 s5 s6
  clear HAG
  have gf := HI3.out.fz 9
  have d1 : decide ((dn : Int) < 64) = true := by simp; omega
  have d2 : (dn : Int) < 64 := by omega
  have d3 : decide (64 ≤ (dn : Int)) = false := by simp; omega
  have d4 : ¬ 64 ≤ (dn : Int) := by omega
  have d5 : decide (t < hor) = true := by simpa using hlt
  have HW := Lib.hid (HI3.out.below ((Below.refl w3.heap.size w3).drew))
  have HFT := Lib.hid (((Ft.of_below (by rw [HBXE.out]; exact HB3.out.drew) (fun k => k = x)).set (p := ⟨x, 9, none⟩) rfl (.int .i64 (cl + 1))))
  clear s0 s1 s2 s3 s4 s5 p0 p1 p2 p3 HB2 HB3 HI3 HSA3 HZS
  go_wp2_with fail
  go_ret3
  exact ⟨rfl, HW.out.cnt9 (cl + 1), HFT.out⟩
end Go.Proofs.YtebacmmfjadalaaGreat
