/- G2 G0 T1 T2 in one text. -/
import Derived.Test.YtebacmmfjadalaaGreatP16
import Derived.Test.YtebacmmfjadalaaGreatP18
import Derived.Test.YtebacmmfjadalaaGreatP04

namespace Go.Proofs.YtebacmmfjadalaaGreat
open Go Go.RowKit

/-- what a call may turn: the blocks that F names, new blocks -/
structure Ft (w w' : World) (F : Nat → Prop) : Prop where
  os : w'.os = w.os
  tape : w'.tape = w.tape
  output : w'.output = w.output
  size : w.heap.size ≤ w'.heap.size
  block : ∀ k, k < w.heap.size → ¬ F k → w'.heap[k]? = w.heap[k]?
theorem Ft.of_below {w w' : World} (h : Below w.heap.size w w') (F : Nat → Prop) : Ft w w' F := ⟨h.os, h.tape, h.output, h.size, fun k hk _ => h.block k hk⟩
theorem Ft.trans {w w1 w2 : World} {F : Nat → Prop} (h : Ft w w1 F) (k : Ft w1 w2 F) : Ft w w2 F :=
  ⟨k.os.trans h.os, k.tape.trans h.tape, k.output.trans h.output, Nat.le_trans h.size k.size, fun i hi hf => (k.block i (Nat.lt_of_lt_of_le hi h.size) hf).trans (h.block i hi hf)⟩
theorem Ft.mono {w w' : World} {F G : Nat → Prop} (h : Ft w w' F) (hFG : ∀ k, k < w.heap.size → F k → G k) : Ft w w' G := ⟨h.os, h.tape, h.output, h.size, fun k hk hg => h.block k hk (fun hf => hg (hFG k hk hf))⟩
/-- what follows may turn new blocks, too -/
theorem Ft.then {w w1 w2 : World} {F G : Nat → Prop} (h : Ft w w1 F) (k : Ft w1 w2 G) (hG : ∀ i, i < w.heap.size → G i → F i) : Ft w w2 F :=
  ⟨k.os.trans h.os, k.tape.trans h.tape, k.output.trans h.output, Nat.le_trans h.size k.size, fun i hi hf => (k.block i (Nat.lt_of_lt_of_le hi h.size) (fun hg => hf (hG i hi hg))).trans (h.block i hi hf)⟩
theorem Ft.set {w w' : World} {F : Nat → Prop} (h : Ft w w' F) {p : Addr} (hp : F p.block) (u : Value) : Ft w (w'.setCell p u) F :=
  ⟨h.os, h.tape, h.output, by simp [World.setCell]; exact h.size, fun k hk hf => by
    rw [← h.block k hk hf]
    simp only [World.setCell, Array.getElem?_modify]
    rw [if_neg (by rintro rfl; exact hf hp)]⟩
theorem Ft.drew {w w' : World} {F : Nat → Prop} (h : Ft w w' F) : Ft w w'.drew F := ⟨h.os, h.tape, h.output, h.size, h.block⟩
theorem Ft.below {w w' : World} {F : Nat → Prop} {B : Nat} (h : Ft w w' F) (hB : B ≤ w.heap.size) (hF : ∀ k, F k → B ≤ k) : Below B w w' := ⟨h.os, h.tape, h.output, h.size, fun k hk => h.block k (by omega) (fun hf => by have := hF k hf; omega)⟩
theorem Ft.of_fr {w w' : World} {o : Option Nat} {pa : Addr} (h : Fr w w' o pa) : Ft w w' (fun k => k = pa.block ∨ o = some k) := ⟨h.os, h.tape, h.output, h.size, fun k hk hf => h.block k hk (fun e => hf (.inl e)) (fun e => hf (.inr e.symm))⟩
theorem Ft.of_ch {w w' : World} {o : Option Nat} {ok : Addr → Prop} {x : Nat} (h : Ch w w' o ok) (hok : ∀ a, ok a → a.block = x) : Ft w w' (fun k => k = x ∨ o = some k) := ⟨h.os, h.tape, h.output, h.size, fun k hk hf => h.block k hk (fun e => hf (.inr e.symm)) (fun _ hi => hf (.inl (hok _ hi)))⟩
theorem ElOk.ft {w w' : World} {e : El} {F : Nat → Prop} (h : ElOk w e) (k : Ft w w' F) (hF : ∀ b f, e.v = some ⟨b, f, none⟩ → ¬ F b) : ElOk w' e :=
  h.keep fun b f hv => k.block b (h.lt hv) (hF b f hv)

theorem Inv.cnt {w W : World} {x B i : Nat} {j j' : Jn} {sns : List Sn} {xs : List El} {u : Value} (h : Inv w W x B j sns xs) (hj : JnAt (W.setCell ⟨x, i, none⟩ u) x j') (e1 : j'.sen = j.sen) (e2 : j'.wait = j.wait) : Inv w (W.setCell ⟨x, i, none⟩ u) x B j' sns xs := by
  refine ⟨hj, ?_, ?_, fun m => by rw [show (W.setCell ⟨x, i, none⟩ u).frozen? ⟨x, m, none⟩ = W.frozen? ⟨x, m, none⟩ by simp [go_sem]]; exact h.fz m, by simp [World.setCell]; exact h.big, h.xB, by rw [e1]; exact h.bel.setCell (p := ⟨x, i, none⟩) h.lox _⟩
  · rw [e1]; exact h.sn.setN (p := ⟨x, i, none⟩) h.sn.ne _
  · rw [e2]; exact h.row.set (p := ⟨x, i, none⟩) h.xB _
theorem set_self {W : World} {x i : Nat} {u v : Value} (h : W.cell? ⟨x, i, none⟩ = some v) : (W.setCell ⟨x, i, none⟩ u).cell? ⟨x, i, none⟩ = some u := by simp [go_sem, h]
theorem set_ne {W : World} {x i k : Nat} {u : Value} (h : i ≠ k) : (W.setCell ⟨x, i, none⟩ u).cell? ⟨x, k, none⟩ = W.cell? ⟨x, k, none⟩ := World.cell?_setCell_other _ _ _ _ (by intro e; injection e with _ e _; exact h e)
theorem Inv.cnt7 {w W : World} {x B : Nat} {j : Jn} {sns : List Sn} {xs : List El} (h : Inv w W x B j sns xs) (m : Int) : Inv w (W.setCell ⟨x, 7, none⟩ (.int .i64 m)) x B { j with cd := m } sns xs := by
  obtain ⟨g0, g1, g2, g3, g4, g5, ⟨g6, g7, g8, g9, g10⟩, g11⟩ := h.jn
  exact h.cnt ⟨(set_ne (by omega)).trans g0, (set_ne (by omega)).trans g1, (set_ne (by omega)).trans g2, (set_ne (by omega)).trans g3, (set_ne (by omega)).trans g4, (set_ne (by omega)).trans g5, ⟨(set_ne (by omega)).trans g6, set_self g7, (set_ne (by omega)).trans g8, (set_ne (by omega)).trans g9, (set_ne (by omega)).trans g10⟩, (set_ne (by omega)).trans g11⟩ rfl rfl
theorem Inv.cnt8 {w W : World} {x B : Nat} {j : Jn} {sns : List Sn} {xs : List El} (h : Inv w W x B j sns xs) (m : Int) : Inv w (W.setCell ⟨x, 8, none⟩ (.int .i64 m)) x B { j with co := m } sns xs := by
  obtain ⟨g0, g1, g2, g3, g4, g5, ⟨g6, g7, g8, g9, g10⟩, g11⟩ := h.jn
  exact h.cnt ⟨(set_ne (by omega)).trans g0, (set_ne (by omega)).trans g1, (set_ne (by omega)).trans g2, (set_ne (by omega)).trans g3, (set_ne (by omega)).trans g4, (set_ne (by omega)).trans g5, ⟨(set_ne (by omega)).trans g6, (set_ne (by omega)).trans g7, set_self g8, (set_ne (by omega)).trans g9, (set_ne (by omega)).trans g10⟩, (set_ne (by omega)).trans g11⟩ rfl rfl
theorem Inv.cnt9 {w W : World} {x B : Nat} {j : Jn} {sns : List Sn} {xs : List El} (h : Inv w W x B j sns xs) (m : Int) : Inv w (W.setCell ⟨x, 9, none⟩ (.int .i64 m)) x B { j with cl := m } sns xs := by
  obtain ⟨g0, g1, g2, g3, g4, g5, ⟨g6, g7, g8, g9, g10⟩, g11⟩ := h.jn
  exact h.cnt ⟨(set_ne (by omega)).trans g0, (set_ne (by omega)).trans g1, (set_ne (by omega)).trans g2, (set_ne (by omega)).trans g3, (set_ne (by omega)).trans g4, (set_ne (by omega)).trans g5, ⟨(set_ne (by omega)).trans g6, (set_ne (by omega)).trans g7, (set_ne (by omega)).trans g8, set_self g9, (set_ne (by omega)).trans g10⟩, (set_ne (by omega)).trans g11⟩ rfl rfl

/-- how far a number lies below the greatest, where it does -/
def below' (s : Sn) (q : Int) : Bool := s.some && decide (q ≤ s.most)
def bitAt (s : Sn) (d : Nat) : Bool := bits .and .u64 (s.taken / 2 ^ d) 1 == 1

set_option maxRecDepth 8000 in
set_option maxHeartbeats 4000000 in
theorem push_dup (x B : Nat) (j : Jn) (sns : List Sn) (xs : List El) (se : Nat) (sq st : Int) (A : Option Addr) (n c : Nat) (bs : List Nat) (w0 w : World) (hi : Inv w0 w x B j sns xs) (hfl : FlAt w A n bs) (hl : n * 8 ≤ 140737488355328) (hq : chkE se n bs = 0) (s : Sn) (hs : sns[se]? = some s) (st0 : 0 ≤ st) (st1 : st ≤ 4294967295) (hsb : ∀ g, j.sen.ownBlock = some g → g < B) (cnt t : Int) (u1 : Ck.unwV s.last st = cnt) (u2 : Ck.unwE s.last st = 0) (t1 : Ck.timeV s.o s.n s.d cnt = t) (t2 : Ck.timeE s.o s.n s.d cnt = 0) (q0 : 0 ≤ sq) (q1 : sq ≤ 4294967295) (m0 : 0 ≤ s.most) (m1 : s.most ≤ 4294967295) (hbe : below' s sq = true) (dn : Nat) (hdn : s.most - sq = (dn : Int)) (hd64 : dn < 64) (hbit : bitAt s dn = true) (c0 : 0 ≤ j.cd) (c1 : j.cd ≤ 4611686018427387904) :
    Calls Tryz.prog 12 #[.pointer (some ⟨x, 0, none⟩), .agg #[.int .i64 se, .int .u32 sq, .int .u32 st, .slice A n c]] w fun e w' => e = .returned (.tuple #[.int .i64 2, .slice none 0 0, .int .i64 0]) ∧ Inv w w' x B { j with cd := j.cd + 1 } sns xs ∧ Ft w w' (fun k => k = x) := by
  have hi := hi.rebase
  obtain ⟨S, win, V, sm, top, hor, ct, cd, co, cl, cs⟩ := j
  have hxw : x < w.heap.size := by have := hi.big; have := hi.xB; omega
  have hb1 := (Below.refl w.heap.size w).alloc (Nat.le_refl _) (.cells #[.int .i64 se, .int .u32 sq, .int .u32 st, .slice A n c] 38)
  have hi1 := hi.below hb1
  have HI1 := Lib.hid hi1
  have HB1 := Lib.hid hb1
  have HPC := Lib.hid (pcheck_any se sq st A n c bs _ (hfl.below hb1) hl)
  rw [hq] at HPC
  obtain ⟨sb, scap, hgv, hg1, hg2, hsa, hsz⟩ := hi.sn.at hs
  simp only at hgv
  subst hgv
  obtain ⟨so, sn', sd, slast, ssm, smost, staken⟩ := s
  have HSA := Lib.hid hsa
  obtain ⟨snl, hsnl⟩ : ∃ y, sns.length = y := ⟨_, rfl⟩
  have hsel : se < snl := by rw [← hsnl]; exact (List.getElem?_eq_some_iff.1 hs).1
  have hsel' : (se : Int) < (snl : Int) := by omega
  have hse0 : (0 : Int) ≤ (se : Int) := by omega
  have HSNL := Lib.hid hsnl
  clear hi hsa hfl hq hs hsnl
  unfold below' at hbe
  simp only at hbe hdn
  unfold bitAt at hbit
  simp only at hbit
  simp only at c0 c1
  have hsb := hsb sb rfl
  simp only at u1 u2 t1 t2 m0 m1
  have HUN := Lib.hid (fun W => unwrap_any slast st W st0 st1)
  rw [u1, u2] at HUN
  have HTI := Lib.hid (fun W => time_any so sn' sd cnt W)
  rw [t1, t2] at HTI
  unfold clk at HTI
  have HTB := timeV_bd so sn' sd cnt
  rw [t1] at HTB
  obtain ⟨ht0, ht1⟩ := HTB
  clear u1 u2 t1 t2
  go_enter Tryz.func12, Tryz.ntmps12
  go_wp2_with fail
  refine (ready_any x true _ hi1.jn.2.2.2.2.2.2.2).mono ?_
  rintro e w1 ⟨rfl, rfl⟩
  go_wp2_with fail
  refine HPC.out.mono ?_
  rintro e w2 ⟨rfl, hb2⟩
  have HI2 := Lib.hid (hi1.below hb2)
  have hbb := HB1.out.trans (hb2.mono HB1.out.size)
  have HB2 := Lib.hid hbb
  have r0 : w2.cell? ⟨w.heap.size, 0, none⟩ = some (.int .i64 se) := (hb2.cell (p := ⟨w.heap.size, 0, none⟩) (by simp)).trans (by simp [go_sem])
  have r1 : w2.cell? ⟨w.heap.size, 1, none⟩ = some (.int .u32 sq) := (hb2.cell (p := ⟨w.heap.size, 1, none⟩) (by simp)).trans (by simp [go_sem])
  have r2 : w2.cell? ⟨w.heap.size, 2, none⟩ = some (.int .u32 st) := (hb2.cell (p := ⟨w.heap.size, 2, none⟩) (by simp)).trans (by simp [go_sem])
  have r3 : w2.cell? ⟨w.heap.size, 3, none⟩ = some (.slice A n c) := (hb2.cell (p := ⟨w.heap.size, 3, none⟩) (by simp)).trans (by simp [go_sem])
  have hbx : w.heap.size < w2.heap.size := Nat.lt_of_lt_of_le (by simp) hb2.size
  have HSA2 := Lib.hid (HSA.out.same (fun i => hbb.cell (p := ⟨sb, i, none⟩) hg2))
  have HZ2 := Lib.hid (fun i => (hbb.frozen (p := ⟨sb, i, none⟩) hg2).trans (hsz i))
  obtain ⟨s0, s1, s2, s3, s4, s5, s6⟩ := HSA2.out
  simp only at s0 s1 s2 s3 s4 s5 s6
  obtain ⟨g0, g1, g2, g3, g4, g5, ⟨g6, g7, g8, g9, g10⟩, g11⟩ := HI2.out.jn
  simp only at g0 g1 g2 g3 g4 g5 g6 g7 g8 g9 g10 g11
  rw [HSNL.out] at g0
  clear hi1 hb2 hbb HI1 HB1 HSA hsz
  generalize hbxe : w.heap.size = bx at *
  have HBXE := Lib.hid hbxe
  clear hbxe
  go_wp2_with fail
  go_region
  all_goals go_wp2_with fail
  go_region
  all_goals go_wp2_with fail
  go_region_held3 (fun w' => w'.cell? ⟨sb, se * 7 + 3, none⟩ = some (.int .i64 slast) ∧ w'.cell? ⟨bx, 2, none⟩ = some (.int .u32 st))
    (first | exact ⟨s3, r2⟩)
    (first | (go_at_call 31; refine (HUN.out _).mono ?_; rintro e w3 ⟨rfl, rfl⟩))
  go_wp2_with fail
  refine (HTI.out _).mono ?_
  rintro e w3 ⟨rfl, hb3⟩
  have hb23 : Below w2.heap.size w2 w3 := (Below.refl w2.heap.size w2).drew.drew.drew.trans hb3
  have HI3 := Lib.hid (HI2.out.below hb23)
  have HSA3 := Lib.hid (HSA2.out.same (fun i => hb23.cell (p := ⟨sb, i, none⟩) (Nat.lt_of_lt_of_le hsb HI2.out.big)))
  have HZS := Lib.hid (fun i => (hb23.frozen (p := ⟨sb, i, none⟩) (Nat.lt_of_lt_of_le hsb HI2.out.big)).trans (HZ2.out i))
  have HB3 := Lib.hid (HB2.out.trans (hb23.mono (Nat.le_of_lt hbx)))
  have p0 := (hb23.cell (p := ⟨bx, 0, none⟩) hbx).trans r0
  have p1 := (hb23.cell (p := ⟨bx, 1, none⟩) hbx).trans r1
  have p2 := (hb23.cell (p := ⟨bx, 2, none⟩) hbx).trans r2
  have p3 := (hb23.cell (p := ⟨bx, 3, none⟩) hbx).trans r3
  have hbx3 := Nat.lt_of_lt_of_le hbx hb23.size
  have HAG := Lib.hid (age_any sb (se * 7) _ sq w3 HSA3.out)
  simp only at HAG
  clear HTI HUN hb3 hb23 r0 r1 r2 r3 g0 g1 g2 g3 g4 g5 g6 g7 g8 g9 g10 g11 s0 s1 s2 s3 s4 s5 s6 HI2 HSA2 HZ2
  rw [hbe] at HAG
  have hdm : (smost - sq) % 4294967296 = (dn : Int) := by omega
  rw [hdm] at HAG
  clear hbe hdm hdn
  go_wp2_with fail
  refine HAG.out.mono ?_
  rintro e w4 ⟨rfl, rfl⟩
  obtain ⟨g0, g1, g2, g3, g4, g5, ⟨g6, g7, g8, g9, g10⟩, g11⟩ := HI3.out.jn
  simp only at g0 g1 g2 g3 g4 g5 g6 g7 g8 g9 g10 g11
  obtain ⟨s0, s1, s2, s3, s4, s5, s6⟩ := HSA3.out
  simp only at s0 s1 s2 s3 s4 s5 s6
  clear HAG
  have gf := HI3.out.fz 7
  have d1 : decide ((dn : Int) < 64) = true := by simp; omega
  have d2 : (dn : Int) < 64 := by omega
  have HW := Lib.hid (HI3.out.below ((Below.refl w3.heap.size w3).drew))
  have HFT := Lib.hid (((Ft.of_below (by rw [HBXE.out]; exact HB3.out.drew) (fun k => k = x)).set (p := ⟨x, 7, none⟩) rfl (.int .i64 (cd + 1))))
  clear s0 s1 s2 s3 s4 s5 p0 p1 p2 p3 HB2 HB3 HI3 HSA3 HZS
  go_wp2_with fail
  go_ret3
  exact ⟨rfl, HW.out.cnt7 (cd + 1), HFT.out⟩

set_option maxRecDepth 8000 in
set_option maxHeartbeats 4000000 in
theorem push_old (x B : Nat) (j : Jn) (sns : List Sn) (xs : List El) (se : Nat) (sq st : Int) (A : Option Addr) (n c : Nat) (bs : List Nat) (w0 w : World) (hi : Inv w0 w x B j sns xs) (hfl : FlAt w A n bs) (hl : n * 8 ≤ 140737488355328) (hq : chkE se n bs = 0) (s : Sn) (hs : sns[se]? = some s) (st0 : 0 ≤ st) (st1 : st ≤ 4294967295) (hsb : ∀ g, j.sen.ownBlock = some g → g < B) (cnt t : Int) (u1 : Ck.unwV s.last st = cnt) (u2 : Ck.unwE s.last st = 0) (t1 : Ck.timeV s.o s.n s.d cnt = t) (t2 : Ck.timeE s.o s.n s.d cnt = 0) (q0 : 0 ≤ sq) (q1 : sq ≤ 4294967295) (m0 : 0 ≤ s.most) (m1 : s.most ≤ 4294967295) (hbe : below' s sq = true) (dn : Nat) (hdn : s.most - sq = (dn : Int)) (hd64 : 64 ≤ dn) (c0 : 0 ≤ j.co) (c1 : j.co ≤ 4611686018427387904) :
    Calls Tryz.prog 12 #[.pointer (some ⟨x, 0, none⟩), .agg #[.int .i64 se, .int .u32 sq, .int .u32 st, .slice A n c]] w fun e w' => e = .returned (.tuple #[.int .i64 3, .slice none 0 0, .int .i64 0]) ∧ Inv w w' x B { j with co := j.co + 1 } sns xs ∧ Ft w w' (fun k => k = x) := by
  have hi := hi.rebase
  obtain ⟨S, win, V, sm, top, hor, ct, cd, co, cl, cs⟩ := j
  have hxw : x < w.heap.size := by have := hi.big; have := hi.xB; omega
  have hb1 := (Below.refl w.heap.size w).alloc (Nat.le_refl _) (.cells #[.int .i64 se, .int .u32 sq, .int .u32 st, .slice A n c] 38)
  have hi1 := hi.below hb1
  have HI1 := Lib.hid hi1
  have HB1 := Lib.hid hb1
  have HPC := Lib.hid (pcheck_any se sq st A n c bs _ (hfl.below hb1) hl)
  rw [hq] at HPC
  obtain ⟨sb, scap, hgv, hg1, hg2, hsa, hsz⟩ := hi.sn.at hs
  simp only at hgv
  subst hgv
  obtain ⟨so, sn', sd, slast, ssm, smost, staken⟩ := s
  have HSA := Lib.hid hsa
  obtain ⟨snl, hsnl⟩ : ∃ y, sns.length = y := ⟨_, rfl⟩
  have hsel : se < snl := by rw [← hsnl]; exact (List.getElem?_eq_some_iff.1 hs).1
  have hsel' : (se : Int) < (snl : Int) := by omega
  have hse0 : (0 : Int) ≤ (se : Int) := by omega
  have HSNL := Lib.hid hsnl
  clear hi hsa hfl hq hs hsnl
  unfold below' at hbe
  simp only at hbe hdn
  simp only at c0 c1
  have hsb := hsb sb rfl
  simp only at u1 u2 t1 t2 m0 m1
  have HUN := Lib.hid (fun W => unwrap_any slast st W st0 st1)
  rw [u1, u2] at HUN
  have HTI := Lib.hid (fun W => time_any so sn' sd cnt W)
  rw [t1, t2] at HTI
  unfold clk at HTI
  have HTB := timeV_bd so sn' sd cnt
  rw [t1] at HTB
  obtain ⟨ht0, ht1⟩ := HTB
  clear u1 u2 t1 t2
  go_enter Tryz.func12, Tryz.ntmps12
  go_wp2_with fail
  refine (ready_any x true _ hi1.jn.2.2.2.2.2.2.2).mono ?_
  rintro e w1 ⟨rfl, rfl⟩
  go_wp2_with fail
  refine HPC.out.mono ?_
  rintro e w2 ⟨rfl, hb2⟩
  have HI2 := Lib.hid (hi1.below hb2)
  have hbb := HB1.out.trans (hb2.mono HB1.out.size)
  have HB2 := Lib.hid hbb
  have r0 : w2.cell? ⟨w.heap.size, 0, none⟩ = some (.int .i64 se) := (hb2.cell (p := ⟨w.heap.size, 0, none⟩) (by simp)).trans (by simp [go_sem])
  have r1 : w2.cell? ⟨w.heap.size, 1, none⟩ = some (.int .u32 sq) := (hb2.cell (p := ⟨w.heap.size, 1, none⟩) (by simp)).trans (by simp [go_sem])
  have r2 : w2.cell? ⟨w.heap.size, 2, none⟩ = some (.int .u32 st) := (hb2.cell (p := ⟨w.heap.size, 2, none⟩) (by simp)).trans (by simp [go_sem])
  have r3 : w2.cell? ⟨w.heap.size, 3, none⟩ = some (.slice A n c) := (hb2.cell (p := ⟨w.heap.size, 3, none⟩) (by simp)).trans (by simp [go_sem])
  have hbx : w.heap.size < w2.heap.size := Nat.lt_of_lt_of_le (by simp) hb2.size
  have HSA2 := Lib.hid (HSA.out.same (fun i => hbb.cell (p := ⟨sb, i, none⟩) hg2))
  have HZ2 := Lib.hid (fun i => (hbb.frozen (p := ⟨sb, i, none⟩) hg2).trans (hsz i))
  obtain ⟨s0, s1, s2, s3, s4, s5, s6⟩ := HSA2.out
  simp only at s0 s1 s2 s3 s4 s5 s6
  obtain ⟨g0, g1, g2, g3, g4, g5, ⟨g6, g7, g8, g9, g10⟩, g11⟩ := HI2.out.jn
  simp only at g0 g1 g2 g3 g4 g5 g6 g7 g8 g9 g10 g11
  rw [HSNL.out] at g0
  clear hi1 hb2 hbb HI1 HB1 HSA hsz
  generalize hbxe : w.heap.size = bx at *
  have HBXE := Lib.hid hbxe
  clear hbxe
  go_wp2_with fail
  go_region
  all_goals go_wp2_with fail
  go_region
  all_goals go_wp2_with fail
  go_region_held3 (fun w' => w'.cell? ⟨sb, se * 7 + 3, none⟩ = some (.int .i64 slast) ∧ w'.cell? ⟨bx, 2, none⟩ = some (.int .u32 st))
    (first | exact ⟨s3, r2⟩)
    (first | (go_at_call 31; refine (HUN.out _).mono ?_; rintro e w3 ⟨rfl, rfl⟩))
  go_wp2_with fail
  refine (HTI.out _).mono ?_
  rintro e w3 ⟨rfl, hb3⟩
  have hb23 : Below w2.heap.size w2 w3 := (Below.refl w2.heap.size w2).drew.drew.drew.trans hb3
  have HI3 := Lib.hid (HI2.out.below hb23)
  have HSA3 := Lib.hid (HSA2.out.same (fun i => hb23.cell (p := ⟨sb, i, none⟩) (Nat.lt_of_lt_of_le hsb HI2.out.big)))
  have HZS := Lib.hid (fun i => (hb23.frozen (p := ⟨sb, i, none⟩) (Nat.lt_of_lt_of_le hsb HI2.out.big)).trans (HZ2.out i))
  have HB3 := Lib.hid (HB2.out.trans (hb23.mono (Nat.le_of_lt hbx)))
  have p0 := (hb23.cell (p := ⟨bx, 0, none⟩) hbx).trans r0
  have p1 := (hb23.cell (p := ⟨bx, 1, none⟩) hbx).trans r1
  have p2 := (hb23.cell (p := ⟨bx, 2, none⟩) hbx).trans r2
  have p3 := (hb23.cell (p := ⟨bx, 3, none⟩) hbx).trans r3
  have hbx3 := Nat.lt_of_lt_of_le hbx hb23.size
  have HAG := Lib.hid (age_any sb (se * 7) _ sq w3 HSA3.out)
  simp only at HAG
  clear HTI HUN hb3 hb23 r0 r1 r2 r3 g0 g1 g2 g3 g4 g5 g6 g7 g8 g9 g10 g11 s0 s1 s2 s3 s4 s5 s6 HI2 HSA2 HZ2
  rw [hbe] at HAG
  have hdm : (smost - sq) % 4294967296 = (dn : Int) := by omega
  rw [hdm] at HAG
  clear hbe hdm hdn
  go_wp2_with fail
  refine HAG.out.mono ?_
  rintro e w4 ⟨rfl, rfl⟩
  obtain ⟨g0, g1, g2, g3, g4, g5, ⟨g6, g7, g8, g9, g10⟩, g11⟩ := HI3.out.jn
  simp only at g0 g1 g2 g3 g4 g5 g6 g7 g8 g9 g10 g11
  obtain ⟨s0, s1, s2, s3, s4, s5, s6⟩ := HSA3.out
  simp only at s0 s1 s2 s3 s4 s5 s6
  clear HAG
  have gf := HI3.out.fz 8
  have d1 : decide ((dn : Int) < 64) = false := by simp; omega
  have d2 : ¬ (dn : Int) < 64 := by omega
  have d3 : decide (64 ≤ (dn : Int)) = true := by simp; omega
  have d4 : 64 ≤ (dn : Int) := by omega
  have HW := Lib.hid (HI3.out.below ((Below.refl w3.heap.size w3).drew))
  have HFT := Lib.hid (((Ft.of_below (by rw [HBXE.out]; exact HB3.out.drew) (fun k => k = x)).set (p := ⟨x, 8, none⟩) rfl (.int .i64 (co + 1))))
  clear s0 s1 s2 s3 s4 s5 p0 p1 p2 p3 HB2 HB3 HI3 HSA3 HZS
  go_wp2_with fail
  go_ret3
  exact ⟨rfl, HW.out.cnt8 (co + 1), HFT.out⟩

set_option maxRecDepth 8000 in
set_option maxHeartbeats 4000000 in
theorem push_late1 (x B : Nat) (j : Jn) (sns : List Sn) (xs : List El) (se : Nat) (sq st : Int) (A : Option Addr) (n c : Nat) (bs : List Nat) (w0 w : World) (hi : Inv w0 w x B j sns xs) (hfl : FlAt w A n bs) (hl : n * 8 ≤ 140737488355328) (hq : chkE se n bs = 0) (s : Sn) (hs : sns[se]? = some s) (st0 : 0 ≤ st) (st1 : st ≤ 4294967295) (hsb : ∀ g, j.sen.ownBlock = some g → g < B) (cnt t : Int) (u1 : Ck.unwV s.last st = cnt) (u2 : Ck.unwE s.last st = 0) (t1 : Ck.timeV s.o s.n s.d cnt = t) (t2 : Ck.timeE s.o s.n s.d cnt = 0) (m0 : 0 ≤ s.most) (m1 : s.most ≤ 4294967295) (hbe : below' s sq = false) (hsm : j.some = true) (hlt : t < j.hor) (c0 : 0 ≤ j.cl) (c1 : j.cl ≤ 4611686018427387904) :
    Calls Tryz.prog 12 #[.pointer (some ⟨x, 0, none⟩), .agg #[.int .i64 se, .int .u32 sq, .int .u32 st, .slice A n c]] w fun e w' => e = .returned (.tuple #[.int .i64 4, .slice none 0 0, .int .i64 0]) ∧ Inv w w' x B { j with cl := j.cl + 1 } sns xs ∧ Ft w w' (fun k => k = x) := by
  have hi := hi.rebase
  obtain ⟨S, win, V, sm, top, hor, ct, cd, co, cl, cs⟩ := j
  have hxw : x < w.heap.size := by have := hi.big; have := hi.xB; omega
  have hb1 := (Below.refl w.heap.size w).alloc (Nat.le_refl _) (.cells #[.int .i64 se, .int .u32 sq, .int .u32 st, .slice A n c] 38)
  have hi1 := hi.below hb1
  have HI1 := Lib.hid hi1
  have HB1 := Lib.hid hb1
  have HPC := Lib.hid (pcheck_any se sq st A n c bs _ (hfl.below hb1) hl)
  rw [hq] at HPC
  obtain ⟨sb, scap, hgv, hg1, hg2, hsa, hsz⟩ := hi.sn.at hs
  simp only at hgv
  subst hgv
  obtain ⟨so, sn', sd, slast, ssm, smost, staken⟩ := s
  have HSA := Lib.hid hsa
  obtain ⟨snl, hsnl⟩ : ∃ y, sns.length = y := ⟨_, rfl⟩
  have hsel : se < snl := by rw [← hsnl]; exact (List.getElem?_eq_some_iff.1 hs).1
  have hsel' : (se : Int) < (snl : Int) := by omega
  have hse0 : (0 : Int) ≤ (se : Int) := by omega
  have HSNL := Lib.hid hsnl
  clear hi hsa hfl hq hs hsnl
  unfold below' at hbe
  simp only at hbe hsm hlt
  subst hsm
  simp only at c0 c1
  have hsb := hsb sb rfl
  simp only at u1 u2 t1 t2 m0 m1
  have HUN := Lib.hid (fun W => unwrap_any slast st W st0 st1)
  rw [u1, u2] at HUN
  have HTI := Lib.hid (fun W => time_any so sn' sd cnt W)
  rw [t1, t2] at HTI
  unfold clk at HTI
  have HTB := timeV_bd so sn' sd cnt
  rw [t1] at HTB
  obtain ⟨ht0, ht1⟩ := HTB
  clear u1 u2 t1 t2
  go_enter Tryz.func12, Tryz.ntmps12
  go_wp2_with fail
  refine (ready_any x true _ hi1.jn.2.2.2.2.2.2.2).mono ?_
  rintro e w1 ⟨rfl, rfl⟩
  go_wp2_with fail
  refine HPC.out.mono ?_
  rintro e w2 ⟨rfl, hb2⟩
  have HI2 := Lib.hid (hi1.below hb2)
  have hbb := HB1.out.trans (hb2.mono HB1.out.size)
  have HB2 := Lib.hid hbb
  have r0 : w2.cell? ⟨w.heap.size, 0, none⟩ = some (.int .i64 se) := (hb2.cell (p := ⟨w.heap.size, 0, none⟩) (by simp)).trans (by simp [go_sem])
  have r1 : w2.cell? ⟨w.heap.size, 1, none⟩ = some (.int .u32 sq) := (hb2.cell (p := ⟨w.heap.size, 1, none⟩) (by simp)).trans (by simp [go_sem])
  have r2 : w2.cell? ⟨w.heap.size, 2, none⟩ = some (.int .u32 st) := (hb2.cell (p := ⟨w.heap.size, 2, none⟩) (by simp)).trans (by simp [go_sem])
  have r3 : w2.cell? ⟨w.heap.size, 3, none⟩ = some (.slice A n c) := (hb2.cell (p := ⟨w.heap.size, 3, none⟩) (by simp)).trans (by simp [go_sem])
  have hbx : w.heap.size < w2.heap.size := Nat.lt_of_lt_of_le (by simp) hb2.size
  have HSA2 := Lib.hid (HSA.out.same (fun i => hbb.cell (p := ⟨sb, i, none⟩) hg2))
  have HZ2 := Lib.hid (fun i => (hbb.frozen (p := ⟨sb, i, none⟩) hg2).trans (hsz i))
  obtain ⟨s0, s1, s2, s3, s4, s5, s6⟩ := HSA2.out
  simp only at s0 s1 s2 s3 s4 s5 s6
  obtain ⟨g0, g1, g2, g3, g4, g5, ⟨g6, g7, g8, g9, g10⟩, g11⟩ := HI2.out.jn
  simp only at g0 g1 g2 g3 g4 g5 g6 g7 g8 g9 g10 g11
  rw [HSNL.out] at g0
  clear hi1 hb2 hbb HI1 HB1 HSA hsz
  generalize hbxe : w.heap.size = bx at *
  have HBXE := Lib.hid hbxe
  clear hbxe
  go_wp2_with fail
  go_region
  all_goals go_wp2_with fail
  go_region
  all_goals go_wp2_with fail
  go_region_held3 (fun w' => w'.cell? ⟨sb, se * 7 + 3, none⟩ = some (.int .i64 slast) ∧ w'.cell? ⟨bx, 2, none⟩ = some (.int .u32 st))
    (first | exact ⟨s3, r2⟩)
    (first | (go_at_call 31; refine (HUN.out _).mono ?_; rintro e w3 ⟨rfl, rfl⟩))
  go_wp2_with fail
  refine (HTI.out _).mono ?_
  rintro e w3 ⟨rfl, hb3⟩
  have hb23 : Below w2.heap.size w2 w3 := (Below.refl w2.heap.size w2).drew.drew.drew.trans hb3
  have HI3 := Lib.hid (HI2.out.below hb23)
  have HSA3 := Lib.hid (HSA2.out.same (fun i => hb23.cell (p := ⟨sb, i, none⟩) (Nat.lt_of_lt_of_le hsb HI2.out.big)))
  have HZS := Lib.hid (fun i => (hb23.frozen (p := ⟨sb, i, none⟩) (Nat.lt_of_lt_of_le hsb HI2.out.big)).trans (HZ2.out i))
  have HB3 := Lib.hid (HB2.out.trans (hb23.mono (Nat.le_of_lt hbx)))
  have p0 := (hb23.cell (p := ⟨bx, 0, none⟩) hbx).trans r0
  have p1 := (hb23.cell (p := ⟨bx, 1, none⟩) hbx).trans r1
  have p2 := (hb23.cell (p := ⟨bx, 2, none⟩) hbx).trans r2
  have p3 := (hb23.cell (p := ⟨bx, 3, none⟩) hbx).trans r3
  have hbx3 := Nat.lt_of_lt_of_le hbx hb23.size
  have HAG := Lib.hid (age_any sb (se * 7) _ sq w3 HSA3.out)
  simp only at HAG
  clear HTI HUN hb3 hb23 r0 r1 r2 r3 g0 g1 g2 g3 g4 g5 g6 g7 g8 g9 g10 g11 s0 s1 s2 s3 s4 s5 s6 HI2 HSA2 HZ2
  rw [hbe] at HAG
  clear hbe
  go_wp2_with fail
  refine HAG.out.mono ?_
  rintro e w4 ⟨rfl, rfl⟩
  obtain ⟨g0, g1, g2, g3, g4, g5, ⟨g6, g7, g8, g9, g10⟩, g11⟩ := HI3.out.jn
  simp only at g0 g1 g2 g3 g4 g5 g6 g7 g8 g9 g10 g11
  obtain ⟨s0, s1, s2, s3, s4, s5, s6⟩ := HSA3.out
  simp only at s0 s1 s2 s3 s4 s5 s6
  clear HAG
  have gf := HI3.out.fz 9
  have d5 : decide (t < hor) = true := by simpa using hlt
  have HW := Lib.hid (HI3.out.below ((Below.refl w3.heap.size w3).drew))
  have HFT := Lib.hid (((Ft.of_below (by rw [HBXE.out]; exact HB3.out.drew) (fun k => k = x)).set (p := ⟨x, 9, none⟩) rfl (.int .i64 (cl + 1))))
  clear s0 s1 s2 s3 s4 s5 p0 p1 p2 p3 HB2 HB3 HI3 HSA3 HZS
  go_wp2_with fail
  go_ret3
  exact ⟨rfl, HW.out.cnt9 (cl + 1), HFT.out⟩

set_option maxRecDepth 8000 in
set_option maxHeartbeats 4000000 in
theorem push_late2 (x B : Nat) (j : Jn) (sns : List Sn) (xs : List El) (se : Nat) (sq st : Int) (A : Option Addr) (n c : Nat) (bs : List Nat) (w0 w : World) (hi : Inv w0 w x B j sns xs) (hfl : FlAt w A n bs) (hl : n * 8 ≤ 140737488355328) (hq : chkE se n bs = 0) (s : Sn) (hs : sns[se]? = some s) (st0 : 0 ≤ st) (st1 : st ≤ 4294967295) (hsb : ∀ g, j.sen.ownBlock = some g → g < B) (cnt t : Int) (u1 : Ck.unwV s.last st = cnt) (u2 : Ck.unwE s.last st = 0) (t1 : Ck.timeV s.o s.n s.d cnt = t) (t2 : Ck.timeE s.o s.n s.d cnt = 0) (q0 : 0 ≤ sq) (q1 : sq ≤ 4294967295) (m0 : 0 ≤ s.most) (m1 : s.most ≤ 4294967295) (hbe : below' s sq = true) (dn : Nat) (hdn : s.most - sq = (dn : Int)) (hd64 : dn < 64) (hbit : bitAt s dn = false) (hsm : j.some = true) (hlt : t < j.hor) (c0 : 0 ≤ j.cl) (c1 : j.cl ≤ 4611686018427387904) :
    Calls Tryz.prog 12 #[.pointer (some ⟨x, 0, none⟩), .agg #[.int .i64 se, .int .u32 sq, .int .u32 st, .slice A n c]] w fun e w' => e = .returned (.tuple #[.int .i64 4, .slice none 0 0, .int .i64 0]) ∧ Inv w w' x B { j with cl := j.cl + 1 } sns xs ∧ Ft w w' (fun k => k = x) := by
  have hi := hi.rebase
  obtain ⟨S, win, V, sm, top, hor, ct, cd, co, cl, cs⟩ := j
  have hxw : x < w.heap.size := by have := hi.big; have := hi.xB; omega
  have hb1 := (Below.refl w.heap.size w).alloc (Nat.le_refl _) (.cells #[.int .i64 se, .int .u32 sq, .int .u32 st, .slice A n c] 38)
  have hi1 := hi.below hb1
  have HI1 := Lib.hid hi1
  have HB1 := Lib.hid hb1
  have HPC := Lib.hid (pcheck_any se sq st A n c bs _ (hfl.below hb1) hl)
  rw [hq] at HPC
  obtain ⟨sb, scap, hgv, hg1, hg2, hsa, hsz⟩ := hi.sn.at hs
  simp only at hgv
  subst hgv
  obtain ⟨so, sn', sd, slast, ssm, smost, staken⟩ := s
  have HSA := Lib.hid hsa
  obtain ⟨snl, hsnl⟩ : ∃ y, sns.length = y := ⟨_, rfl⟩
  have hsel : se < snl := by rw [← hsnl]; exact (List.getElem?_eq_some_iff.1 hs).1
  have hsel' : (se : Int) < (snl : Int) := by omega
  have hse0 : (0 : Int) ≤ (se : Int) := by omega
  have HSNL := Lib.hid hsnl
  clear hi hsa hfl hq hs hsnl
  unfold below' at hbe
  simp only at hbe hdn
  unfold bitAt at hbit
  simp only at hbit hsm hlt
  subst hsm
  simp only at c0 c1
  have hsb := hsb sb rfl
  simp only at u1 u2 t1 t2 m0 m1
  have HUN := Lib.hid (fun W => unwrap_any slast st W st0 st1)
  rw [u1, u2] at HUN
  have HTI := Lib.hid (fun W => time_any so sn' sd cnt W)
  rw [t1, t2] at HTI
  unfold clk at HTI
  have HTB := timeV_bd so sn' sd cnt
  rw [t1] at HTB
  obtain ⟨ht0, ht1⟩ := HTB
  clear u1 u2 t1 t2
  go_enter Tryz.func12, Tryz.ntmps12
  go_wp2_with fail
  refine (ready_any x true _ hi1.jn.2.2.2.2.2.2.2).mono ?_
  rintro e w1 ⟨rfl, rfl⟩
  go_wp2_with fail
  refine HPC.out.mono ?_
  rintro e w2 ⟨rfl, hb2⟩
  have HI2 := Lib.hid (hi1.below hb2)
  have hbb := HB1.out.trans (hb2.mono HB1.out.size)
  have HB2 := Lib.hid hbb
  have r0 : w2.cell? ⟨w.heap.size, 0, none⟩ = some (.int .i64 se) := (hb2.cell (p := ⟨w.heap.size, 0, none⟩) (by simp)).trans (by simp [go_sem])
  have r1 : w2.cell? ⟨w.heap.size, 1, none⟩ = some (.int .u32 sq) := (hb2.cell (p := ⟨w.heap.size, 1, none⟩) (by simp)).trans (by simp [go_sem])
  have r2 : w2.cell? ⟨w.heap.size, 2, none⟩ = some (.int .u32 st) := (hb2.cell (p := ⟨w.heap.size, 2, none⟩) (by simp)).trans (by simp [go_sem])
  have r3 : w2.cell? ⟨w.heap.size, 3, none⟩ = some (.slice A n c) := (hb2.cell (p := ⟨w.heap.size, 3, none⟩) (by simp)).trans (by simp [go_sem])
  have hbx : w.heap.size < w2.heap.size := Nat.lt_of_lt_of_le (by simp) hb2.size
  have HSA2 := Lib.hid (HSA.out.same (fun i => hbb.cell (p := ⟨sb, i, none⟩) hg2))
  have HZ2 := Lib.hid (fun i => (hbb.frozen (p := ⟨sb, i, none⟩) hg2).trans (hsz i))
  obtain ⟨s0, s1, s2, s3, s4, s5, s6⟩ := HSA2.out
  simp only at s0 s1 s2 s3 s4 s5 s6
  obtain ⟨g0, g1, g2, g3, g4, g5, ⟨g6, g7, g8, g9, g10⟩, g11⟩ := HI2.out.jn
  simp only at g0 g1 g2 g3 g4 g5 g6 g7 g8 g9 g10 g11
  rw [HSNL.out] at g0
  clear hi1 hb2 hbb HI1 HB1 HSA hsz
  generalize hbxe : w.heap.size = bx at *
  have HBXE := Lib.hid hbxe
  clear hbxe
  go_wp2_with fail
  go_region
  all_goals go_wp2_with fail
  go_region
  all_goals go_wp2_with fail
  go_region_held3 (fun w' => w'.cell? ⟨sb, se * 7 + 3, none⟩ = some (.int .i64 slast) ∧ w'.cell? ⟨bx, 2, none⟩ = some (.int .u32 st))
    (first | exact ⟨s3, r2⟩)
    (first | (go_at_call 31; refine (HUN.out _).mono ?_; rintro e w3 ⟨rfl, rfl⟩))
  go_wp2_with fail
  refine (HTI.out _).mono ?_
  rintro e w3 ⟨rfl, hb3⟩
  have hb23 : Below w2.heap.size w2 w3 := (Below.refl w2.heap.size w2).drew.drew.drew.trans hb3
  have HI3 := Lib.hid (HI2.out.below hb23)
  have HSA3 := Lib.hid (HSA2.out.same (fun i => hb23.cell (p := ⟨sb, i, none⟩) (Nat.lt_of_lt_of_le hsb HI2.out.big)))
  have HZS := Lib.hid (fun i => (hb23.frozen (p := ⟨sb, i, none⟩) (Nat.lt_of_lt_of_le hsb HI2.out.big)).trans (HZ2.out i))
  have HB3 := Lib.hid (HB2.out.trans (hb23.mono (Nat.le_of_lt hbx)))
  have p0 := (hb23.cell (p := ⟨bx, 0, none⟩) hbx).trans r0
  have p1 := (hb23.cell (p := ⟨bx, 1, none⟩) hbx).trans r1
  have p2 := (hb23.cell (p := ⟨bx, 2, none⟩) hbx).trans r2
  have p3 := (hb23.cell (p := ⟨bx, 3, none⟩) hbx).trans r3
  have hbx3 := Nat.lt_of_lt_of_le hbx hb23.size
  have HAG := Lib.hid (age_any sb (se * 7) _ sq w3 HSA3.out)
  simp only at HAG
  clear HTI HUN hb3 hb23 r0 r1 r2 r3 g0 g1 g2 g3 g4 g5 g6 g7 g8 g9 g10 g11 s0 s1 s2 s3 s4 s5 s6 HI2 HSA2 HZ2
  rw [hbe] at HAG
  have hdm : (smost - sq) % 4294967296 = (dn : Int) := by omega
  rw [hdm] at HAG
  clear hbe hdm hdn
  go_wp2_with fail
  refine HAG.out.mono ?_
  rintro e w4 ⟨rfl, rfl⟩
  obtain ⟨g0, g1, g2, g3, g4, g5, ⟨g6, g7, g8, g9, g10⟩, g11⟩ := HI3.out.jn
  simp only at g0 g1 g2 g3 g4 g5 g6 g7 g8 g9 g10 g11
  obtain ⟨s0, s1, s2, s3, s4, s5, s6⟩ := HSA3.out
  simp only at s0 s1 s2 s3 s4 s5 s6
  clear HAG
  have gf := HI3.out.fz 9
  have d1 : decide ((dn : Int) < 64) = true := by simp; omega
  have d2 : (dn : Int) < 64 := by omega
  have d3 : decide (64 ≤ (dn : Int)) = false := by simp; omega
  have d4 : ¬ 64 ≤ (dn : Int) := by omega
  have d5 : decide (t < hor) = true := by simpa using hlt
  have HW := Lib.hid (HI3.out.below ((Below.refl w3.heap.size w3).drew))
  have HFT := Lib.hid (((Ft.of_below (by rw [HBXE.out]; exact HB3.out.drew) (fun k => k = x)).set (p := ⟨x, 9, none⟩) rfl (.int .i64 (cl + 1))))
  clear s0 s1 s2 s3 s4 s5 p0 p1 p2 p3 HB2 HB3 HI3 HSA3 HZS
  go_wp2_with fail
  go_ret3
  exact ⟨rfl, HW.out.cnt9 (cl + 1), HFT.out⟩
end Go.Proofs.YtebacmmfjadalaaGreat

namespace Go.Proofs.YtebacmmfjadalaaGreat
open Go Go.RowKit

theorem tkW_block {w : World} {b off k : Nat} {s : Sn} {q : Int} (h : k ≠ b) : (tkW w b off s q).heap[k]? = w.heap[k]? := by
  have e : ∀ (W : World) (i : Nat) (u : Value), (W.setCell ⟨b, i, none⟩ u).heap[k]? = W.heap[k]? := fun W i u => by
    simp only [World.setCell, Array.getElem?_modify]
    rw [if_neg (by intro e; exact h e.symm)]
  unfold tkW
  split
  · exact e _ _ _
  · exact (e _ _ _).trans ((e _ _ _).trans ((e _ _ _).trans (e _ _ _)))
theorem Ft.tk {w w' : World} {F : Nat → Prop} (h : Ft w w' F) {b off : Nat} {s : Sn} {q : Int} (hb : F b) : Ft w (tkW w' b off s q) F := by
  refine ⟨?_, ?_, ?_, by rw [tkW_size]; exact h.size, fun k hk hf => (tkW_block (by rintro rfl; exact hf hb)).trans (h.block k hk hf)⟩
  · unfold tkW; split <;> exact h.os
  · unfold tkW; split <;> exact h.tape
  · unfold tkW; split <;> exact h.output
theorem Row.lt {B : Nat} {w : World} {v : Value} {xs : List El} (h : Row B w v xs) {g : Nat} (hg : v.ownBlock = some g) : B ≤ g ∧ g < w.heap.size := by
  rcases h.2 with ⟨h3, -⟩ | ⟨g', cap, cur, h3, h4, h5, -⟩
  · rw [h3] at hg; simp [Value.ownBlock] at hg
  · rw [h3] at hg
    simp only [Value.ownBlock] at hg
    injection hg with hg
    subst hg
    exact ⟨h4, (Array.getElem?_eq_some_iff.1 h5).1⟩
theorem Row.mono {B B' : Nat} {w : World} {v : Value} {xs : List El} (h : Row B w v xs) (hb : B' ≤ B) : Row B' w v xs := by
  refine ⟨h.1, h.2.imp id ?_⟩
  rintro ⟨g', cap, cur, h3, h4, h5⟩
  exact ⟨g', cap, cur, h3, Nat.le_trans hb h4, h5⟩
/-- readings whose values lie in blocks from B on, apart from the row's -/
def VI (w : World) (B : Nat) (v : Value) (xs : List El) : Prop := ∀ e ∈ xs, ElOk w e ∧ Away e v.ownBlock ∧ (∀ b f, e.v = some ⟨b, f, none⟩ → B ≤ b) ∧ W32 e
theorem VI.ft {w w' : World} {B : Nat} {v : Value} {xs : List El} {F : Nat → Prop} (h : VI w B v xs) (k : Ft w w' F) (hF : ∀ b, F b → b < B ∨ v.ownBlock = some b) : VI w' B v xs := fun e he => by
  obtain ⟨h1, h2, h3, h4⟩ := h e he
  refine ⟨h1.ft k (fun b f hv hf => ?_), h2, h3, h4⟩
  rcases hF b hf with h5 | h5
  · have := h3 b f hv; omega
  · exact h2 b f hv h5
/-- all that is due, and what is left, behind a reading that was taken -/
def tkT (j : Jn) (xs : List El) (t : Int) (e0 : El) : List El × List El := dueL cmpK (xs.length + 2) (upL cmpK (xs.length + 1) (xs ++ [e0]) xs.length) (riseH j t) []
/-- a reading was taken -/
structure Took (w w' : World) (x B sb se : Nat) (j : Jn) (sns : List Sn) (xs : List El) (s : Sn) (sq cnt t : Int) (e0 : El) (ov v' : Value) : Prop where
  out : Row w.heap.size w' ov (tkT j xs t e0).1
  inv : Inv w w' x B { riseJ j t with ct := j.ct + 1, wait := v', cs := j.cs + (tkT j xs t e0).1.length } (sns.set se (tkL s sq cnt)) (tkT j xs t e0).2
  vi : VI w' B v' ((tkT j xs t e0).1 ++ (tkT j xs t e0).2)
  ft : Ft w w' (fun k => k = x ∨ k = sb ∨ j.wait.ownBlock = some k)
  apart : ∀ g, ov.ownBlock = some g → v'.ownBlock ≠ some g
  own : v'.ownBlock = j.wait.ownBlock ∨ ∃ g, v'.ownBlock = some g ∧ w.heap.size ≤ g
  fresh : ∀ b f, e0.v = some ⟨b, f, none⟩ → w.heap.size ≤ b
theorem due_mem {C : El → El → Int} : ∀ (f : Nat) (xs : List El) (bef : Int) (out : List El) (e : El), e ∈ (dueL C f xs bef out).1 ++ (dueL C f xs bef out).2 → e ∈ out ∨ e ∈ xs
  | 0, xs, bef, out, e, h => List.mem_append.1 h
  | f + 1, xs, bef, out, e, h => by
    rw [dueL] at h
    cases hx : xs[0]? with
    | none => rw [hx] at h; exact List.mem_append.1 h
    | some a =>
      rw [hx] at h
      simp only at h
      split at h
      · rcases due_mem f _ _ _ e h with h | h
        · rcases List.mem_append.1 h with h | h
          · exact .inl h
          · rw [List.mem_singleton.1 h]; exact .inr (List.mem_of_getElem? hx)
        · exact .inr (popL_mem h)
      · exact List.mem_append.1 h

theorem VI.sub {w : World} {B : Nat} {v : Value} {xs ys : List El} (h : VI w B v xs) (hs : ∀ e ∈ ys, e ∈ xs) : VI w B v ys := fun e he => h e (hs e he)
theorem VI.snoc {w : World} {B : Nat} {v : Value} {xs : List El} {e : El} (h : VI w B v xs) (he : ElOk w e ∧ Away e v.ownBlock ∧ (∀ b f, e.v = some ⟨b, f, none⟩ → B ≤ b) ∧ W32 e) : VI w B v (xs ++ [e]) := fun a ha => by
  rcases List.mem_append.1 ha with ha | ha
  · exact h a ha
  · rw [List.mem_singleton.1 ha]; exact he
theorem VI.cmp {w : World} {B x i : Nat} {v : Value} {ys : List El} (h : VI w B v ys) (hx : x < B) : ∀ a ∈ ys, ∀ b ∈ ys, ∀ W, Fr w W v.ownBlock ⟨x, i, none⟩ → Calls Tryz.prog 81 #[a.val, b.val] W fun e w' => e = .returned (.int .i64 (cmpK a b)) ∧ Below W.heap.size W w' := fun a ha b hb W hF => by
  have hk : VI W B v ys := h.ft (Ft.of_fr hF) (fun k hk => hk.imp (fun e => by rw [e]; exact hx) id)
  exact order_any a b W (hk a ha).1 (hk b hb).1
theorem VI.push {w w' : World} {B x i : Nat} {v v' : Value} {ys : List El} (h : VI w B v ys) (hx : x < B) (hF : Fr w w' v.ownBlock ⟨x, i, none⟩) (ha : At v' v w) : VI w' B v' ys := fun e he => by
  obtain ⟨h1, h2, h3, h4⟩ := (h.ft (Ft.of_fr hF) (fun k hk => hk.imp (fun e => by rw [e]; exact hx) id)) e he
  refine ⟨h1, ?_, h3, h4⟩
  rcases ha with ha | ⟨g, ha, hg⟩
  · rw [ha]; exact h2
  · rw [ha]; exact Away.new (h e he).1 hg

end Go.Proofs.YtebacmmfjadalaaGreat

namespace Go.Proofs.YtebacmmfjadalaaGreat
open Go Go.RowKit

/-- bit d of a word -/
theorem bit_nat {t : Int} (h0 : 0 ≤ t) (h1 : t ≤ 18446744073709551615) (d : Nat) : (bits .and .u64 (t / 2 ^ d) 1 == 1) = t.toNat.testBit d := by
  obtain ⟨T, rfl⟩ := Int.eq_ofNat_of_zero_le h0
  have e1 : ((T : Int) / 2 ^ d) = ((T / 2 ^ d : Nat) : Int) := by simp
  have hl : T / 2 ^ d ≤ T := Nat.div_le_self _ _
  rw [e1, Int.toNat_natCast, Nat.testBit_eq_decide_div_mod_eq]
  generalize T / 2 ^ d = D at *
  rw [u64_and _ _ (by omega) (by omega) (by omega) (by omega), Int.toNat_natCast]
  have e2 : D &&& (1 : Int).toNat = D % 2 := Nat.and_one_is_mod _
  rw [e2]
  by_cases h : D % 2 = 1
  · rw [h]; simp
  · have h' : D % 2 = 0 := by omega
    rw [h']; simp
/-- what is known of a sensor may be -/
structure SnOk (s : Sn) : Prop where
  m0 : 0 ≤ s.most
  m1 : s.most ≤ 4294967295
  t0 : 0 ≤ s.taken
  t1 : s.taken ≤ 18446744073709551615
/-- of the numbers that were taken each is known, or is old -/
def Knows (s : Sn) (q : Int) : Prop := s.some = true ∧ 0 ≤ q ∧ q ≤ s.most ∧ (s.most - q < 64 → bitAt s (s.most - q).toNat = true)
theorem or_nat {a b : Int} (a0 : 0 ≤ a) (a1 : a ≤ 18446744073709551615) (b0 : 0 ≤ b) (b1 : b ≤ 18446744073709551615) : bits .or .u64 a b = ((a.toNat ||| b.toNat : Nat) : Int) := u64_or a b a0 (by omega) b0 (by omega)
theorem pow_bd {d : Nat} (h : d < 64) : 0 ≤ ((2 ^ d : Nat) : Int) ∧ ((2 ^ d : Nat) : Int) ≤ 18446744073709551615 := by
  have h1 : 2 ^ d ≤ 2 ^ 63 := Nat.pow_le_pow_right (by omega) (by omega : d ≤ 63)
  generalize 2 ^ d = D at *
  omega
theorem pow_wrap {d : Nat} (h : d < 64) : IntKind.u64.wrap ((2 : Int) ^ d) = ((2 ^ d : Nat) : Int) := by
  have e : ((2 : Int) ^ d) = ((2 ^ d : Nat) : Int) := by simp
  rw [e]
  exact IntWalk.u64_in _ (pow_bd h)
theorem shl_nat {t : Int} (h0 : 0 ≤ t) (d : Nat) : IntKind.u64.wrap (t * 2 ^ d) = ((t.toNat * 2 ^ d % 2 ^ 64 : Nat) : Int) := by
  obtain ⟨T, rfl⟩ := Int.eq_ofNat_of_zero_le h0
  have e : ((T : Int) * 2 ^ d) = ((T * 2 ^ d : Nat) : Int) := by simp
  rw [e, Int.toNat_natCast]
  simp [IntKind.wrap, IntKind.bits, IntKind.signed]
theorem or_lt64 {a b : Nat} (ha : a < 2 ^ 64) (hb : b < 2 ^ 64) : a ||| b < 2 ^ 64 := Nat.or_lt_two_pow ha hb

theorem tk_ok {s : Sn} {q : Int} (h : SnOk s) (q0 : 0 ≤ q) (q1 : q ≤ 4294967295) (hn : s.some = true → q ≤ s.most → s.most - q < 64) : SnOk (tk s q) := by
  unfold tk
  split
  · rename_i hc
    have hd : (s.most - q).toNat < 64 := by have := hn hc.1 hc.2; omega
    refine ⟨h.m0, h.m1, ?_, ?_⟩
    · simp only
      rw [pow_wrap hd, or_nat h.t0 h.t1 (pow_bd hd).1 (pow_bd hd).2]
      omega
    · simp only
      have hp : 2 ^ (s.most - q).toNat ≤ 2 ^ 63 := Nat.pow_le_pow_right (by omega) (by omega)
      rw [pow_wrap hd, or_nat h.t0 h.t1 (pow_bd hd).1 (pow_bd hd).2]
      have := or_lt64 (a := s.taken.toNat) (b := ((2 ^ (s.most - q).toNat : Nat) : Int).toNat) (by have := h.t1; have := h.t0; omega) (by have := pow_bd hd; rw [Int.toNat_natCast]; omega)
      omega
  · refine ⟨q0, q1, ?_, ?_⟩
    · simp only
      split
      · decide
      · rw [shl_nat h.t0, or_nat (by omega) (by omega) (by omega) (by omega)]
        omega
    · simp only
      split
      · decide
      · rw [shl_nat h.t0, or_nat (by omega) (by omega) (by omega) (by omega)]
        have := or_lt64 (a := ((s.taken.toNat * 2 ^ (q - s.most).toNat % 2 ^ 64 : Nat) : Int).toNat) (b := (1 : Int).toNat) (by omega) (by decide)
        omega
/-- a number that was noted is known -/
theorem tk_self {s : Sn} {q : Int} (h : SnOk s) (q0 : 0 ≤ q) (q1 : q ≤ 4294967295) (hn : s.some = true → q ≤ s.most → s.most - q < 64) : Knows (tk s q) q := by
  have hk := tk_ok h q0 q1 hn
  unfold Knows bitAt
  rw [bit_nat hk.t0 hk.t1]
  unfold tk at hk ⊢
  split
  · rename_i hc
    have hd : (s.most - q).toNat < 64 := by have := hn hc.1 hc.2; omega
    refine ⟨hc.1, q0, hc.2, fun _ => ?_⟩
    simp only
    have hp : 2 ^ (s.most - q).toNat ≤ 2 ^ 63 := Nat.pow_le_pow_right (by omega) (by omega)
    rw [pow_wrap hd, or_nat h.t0 h.t1 (pow_bd hd).1 (pow_bd hd).2, Int.toNat_natCast, Int.toNat_natCast, Nat.testBit_or, Nat.testBit_two_pow_self]
    simp
  · refine ⟨rfl, q0, Int.le_refl _, fun _ => ?_⟩
    simp only [Int.sub_self, Int.toNat_zero]
    split
    · decide
    · rw [shl_nat h.t0, or_nat (by omega) (by omega) (by omega) (by omega), Int.toNat_natCast, Nat.testBit_or]
      simp
/-- and the others stay so -/
theorem tk_keeps {s : Sn} {q p : Int} (h : SnOk s) (q0 : 0 ≤ q) (q1 : q ≤ 4294967295) (hn : s.some = true → q ≤ s.most → s.most - q < 64) (hp : Knows s p) : Knows (tk s q) p := by
  have hk := tk_ok h q0 q1 hn
  obtain ⟨p1, p2, p3, p4⟩ := hp
  unfold bitAt at p4
  unfold Knows bitAt
  rw [bit_nat hk.t0 hk.t1]
  unfold tk at hk ⊢
  split
  · rename_i hc
    have hd : (s.most - q).toNat < 64 := by have := hn hc.1 hc.2; omega
    refine ⟨p1, p2, p3, fun hlt => ?_⟩
    have hb := p4 hlt
    rw [bit_nat h.t0 h.t1] at hb
    simp only
    have hpw : 2 ^ (s.most - q).toNat ≤ 2 ^ 63 := Nat.pow_le_pow_right (by omega) (by omega)
    rw [pow_wrap hd, or_nat h.t0 h.t1 (pow_bd hd).1 (pow_bd hd).2, Int.toNat_natCast, Nat.testBit_or, hb]
    simp
  · rename_i hc
    have hqm : s.most < q := by
      rcases Int.lt_or_le s.most q with h | h
      · exact h
      · exact absurd ⟨p1, h⟩ hc
    refine ⟨rfl, p2, by show p ≤ q; omega, fun hlt => ?_⟩
    simp only at hlt ⊢
    have hb := p4 (by omega)
    rw [bit_nat h.t0 h.t1] at hb
    have hq : (q - s.most) % 4294967296 = q - s.most := by have := h.m0; omega
    rw [hq, if_neg (by rw [p1]; simp; omega), shl_nat h.t0, or_nat (by omega) (by omega) (by omega) (by omega), Int.toNat_natCast, Nat.testBit_or, Int.toNat_natCast]
    have e1 : (q - p).toNat = (s.most - p).toNat + (q - s.most).toNat := by omega
    have : (s.taken.toNat * 2 ^ (q - s.most).toNat % 2 ^ 64).testBit (q - p).toNat = true := by
      rw [Nat.testBit_mod_two_pow, Nat.testBit_mul_two_pow, e1, Nat.add_sub_cancel, hb]
      simp
      omega
    rw [this]
    rfl
/-- one that is taken was not known -/
theorem new_unknown {s : Sn} {q : Int} {dn : Nat} (hno : below' s q = false ∨ (dn < 64 ∧ s.most - q = (dn : Int) ∧ bitAt s dn = false)) : ¬ Knows s q := by
  rintro ⟨k1, k2, k3, k4⟩
  rcases hno with h | ⟨h1, h2, h3⟩
  · unfold below' at h
    rw [k1, decide_eq_true k3] at h
    cases h
  · have := k4 (by omega)
    rw [h2, Int.toNat_natCast, h3] at this
    cases this
end Go.Proofs.YtebacmmfjadalaaGreat

namespace Go.Proofs.YtebacmmfjadalaaGreat
open Go Go.RowKit

theorem dueL_is (C : El → El → Int) : ∀ (f : Nat) (xs : List El) (bef : Int) (out : List El), dueL C f xs bef out = dueG El.at_ C f xs bef out
  | 0, _, _, _ => rfl
  | f + 1, xs, bef, out => by
    rw [dueL, dueG]
    cases xs[0]? with
    | none => rfl
    | some a =>
      simp only
      split
      · exact dueL_is C f _ _ _
      · rfl
/-- what is due, and what is left, of a heap -/
theorem due_is {xs : List El} (h : Heap cmpK xs xs.length) (bef : Int) {f : Nat} (hf : xs.length < f) : ∃ mid rest, dueL cmpK f xs bef [] = (mid, rest) ∧ (mid ++ rest).Perm xs ∧ mid.Pairwise (Le cmpK) ∧ (∀ a ∈ mid, a.at_ < bef) ∧ (∀ b ∈ rest, bef ≤ b.at_) ∧ Heap cmpK rest rest.length := by
  obtain ⟨mid, h1, h2, h3, h4, h5, h6⟩ := due_law (at_ := El.at_) cmpK_swo (fun a b hab => cmpK_at hab) bef f xs [] hf h
  refine ⟨mid, (dueL cmpK f xs bef []).2, ?_, ?_, h3, h4, ?_, ?_⟩
  · rw [List.nil_append] at h1
    rw [← dueL_is] at h1
    rw [← h1]
  · rw [dueL_is]; exact h2
  · rw [dueL_is]; exact h5
  · rw [dueL_is]; exact h6

/-- a joiner's numbers may be -/
structure JNum (j : Jn) : Prop where
  c0 : 0 ≤ j.ct
  k0 : 0 ≤ j.cs
  d0 : 0 ≤ j.cd
  o0 : 0 ≤ j.co
  l0 : 0 ≤ j.cl
  t0 : -1125899906842624 ≤ j.top
  t1 : j.top ≤ 1125899906842624
  w0 : 0 ≤ j.win
  w1 : j.win ≤ 1125899906842624
/-- what is so of a joiner, all that it told, and all that waits -/
structure JP (j : Jn) (sns : List Sn) (xs told : List El) : Prop where
  ok : ∀ s ∈ sns, SnOk s
  heap : Heap cmpK xs xs.length
  know : ∀ e ∈ told ++ xs, ∃ (i : Nat) (s : Sn), e.se = (i : Int) ∧ sns[i]? = some s ∧ Knows s e.sq
  dist : (told ++ xs).Pairwise (fun a b => ¬ (a.se = b.se ∧ a.sq = b.sq))
  srt : told.Pairwise (fun a b => a.at_ ≤ b.at_)
  low : ∀ e ∈ told, e.at_ < j.hor
  high : ∀ e ∈ xs, j.hor ≤ e.at_
  top : ∀ e ∈ xs, e.at_ ≤ j.top
  none : j.some = false → xs = [] ∧ told = []
  num : JNum j
  cnt : j.ct = told.length + xs.length
  cs : j.cs = told.length
  srtk : told.Pairwise (Le cmpK)
theorem le_at {a b : El} (h : a.at_ < b.at_) : Le cmpK a b := fun q => by
  unfold cmpK El.key at q
  rw [lexL, if_neg (by omega), if_pos h] at q
  omega

theorem riseT_bd {j : Jn} {t : Int} (hn : JNum j) (h0 : -1125899906842624 ≤ t) (h1 : t ≤ 1125899906842624) : -1125899906842624 ≤ riseT j t ∧ riseT j t ≤ 1125899906842624 := by
  unfold riseT
  have := hn.t0; have := hn.t1
  split <;> omega
theorem riseH_ge {j : Jn} {t : Int} (hs : j.some = true) : j.hor ≤ riseH j t := by
  unfold riseH
  split
  · rename_i h
    rw [hs] at h
    rcases h with h | h
    · cases h
    · omega
  · omega
theorem riseT_ge {j : Jn} {t : Int} : t ≤ riseT j t ∧ (j.some = true → j.top ≤ riseT j t) := by
  unfold riseT
  split
  · rename_i h
    refine ⟨Int.le_refl _, fun hs => ?_⟩
    rw [hs] at h
    rcases h with h | h
    · cases h
    · omega
  · rename_i h
    exact ⟨by omega, fun _ => Int.le_refl _⟩

theorem pair_perm {xs ys zs : List El} {R : El → El → Prop} (hsym : ∀ {x y}, R x y → R y x) (hp : ys.Perm zs) (h : (xs ++ zs).Pairwise R) : (xs ++ ys).Pairwise R :=
  List.Pairwise.perm h (List.Perm.append_left xs hp.symm) hsym
theorem dist_sym {a b : El} (h : ¬ (a.se = b.se ∧ a.sq = b.sq)) : ¬ (b.se = a.se ∧ b.sq = a.sq) := fun ⟨h1, h2⟩ => h ⟨h1.symm, h2.symm⟩

/-- behind a reading that was taken -/
theorem JP.take {j : Jn} {sns : List Sn} {xs told : List El} {e0 : El} {se : Nat} {s : Sn} {sq cnt t : Int} {v' : Value} {dn : Nat} {ks : List Int} (h : JP j sns xs told) (hs : sns[se]? = some s) (hk : e0.key = t :: (se : Int) :: sq :: ks) (q0 : 0 ≤ sq) (q1 : sq ≤ 4294967295)
    (hdn : (s.most - sq) % 4294967296 = (dn : Int)) (hno : below' s sq = false ∨ (dn < 64 ∧ s.most - sq = (dn : Int) ∧ bitAt s dn = false)) (hlate : j.some = false ∨ j.hor ≤ t) (t0 : -1125899906842624 ≤ t) (t1 : t ≤ 1125899906842624) :
    JP { riseJ j t with ct := j.ct + 1, wait := v', cs := j.cs + (tkT j xs t e0).1.length } (sns.set se (tkL s sq cnt)) (tkT j xs t e0).2 (told ++ (tkT j xs t e0).1) := by
  have hk' := hk
  unfold El.key at hk'
  simp only [List.cons.injEq] at hk'
  obtain ⟨ka, kse, ksq, -⟩ := hk'
  have hok := h.ok s (List.mem_of_getElem? hs)
  have hn : s.some = true → sq ≤ s.most → s.most - sq < 64 := fun a1 a2 => by
    rcases hno with hb | ⟨b1, b2, -⟩
    · unfold below' at hb
      rw [a1, decide_eq_true a2] at hb
      cases hb
    · omega
  have hsel : se < sns.length := (List.getElem?_eq_some_iff.1 hs).1
  have hheap : Heap cmpK (upL cmpK (xs.length + 1) (xs ++ [e0]) xs.length) (upL cmpK (xs.length + 1) (xs ++ [e0]) xs.length).length := by
    have := push_heap cmpK_swo (e := e0) rfl h.heap
    rw [(upL_perm _ _ _ _).length_eq, List.length_append]
    exact this
  obtain ⟨mid, rest, d1, d2, d3, d4, d5, d6⟩ := due_is hheap (riseH j t) (f := xs.length + 2) (by rw [(upL_perm _ _ _ _).length_eq, List.length_append]; simp)
  have hT : tkT j xs t e0 = (mid, rest) := d1
  rw [hT]
  simp only
  have hperm : (mid ++ rest).Perm (xs ++ [e0]) := d2.trans (upL_perm _ _ _ _)
  have hall : ∀ e, e ∈ mid ∨ e ∈ rest → e ∈ xs ∨ e = e0 := fun e he => by
    have := hperm.mem_iff.1 (List.mem_append.2 he)
    rcases List.mem_append.1 this with q | q
    · exact .inl q
    · exact .inr (List.mem_singleton.1 q)
  have hgetE : ∀ {i : Nat} {s2 : Sn}, sns[i]? = some s2 → ∃ s3, (sns.set se (tkL s sq cnt))[i]? = some s3 ∧ ∀ p, Knows s2 p → Knows s3 p := by
    intro i s2 hi
    by_cases e : i = se
    · subst e
      rw [hs] at hi
      injection hi with hi
      subst hi
      exact ⟨_, List.getElem?_set_self hsel, fun p hp => tk_keeps hok q0 q1 hn hp⟩
    · exact ⟨s2, by rw [List.getElem?_set_ne (fun q => e q.symm)]; exact hi, fun p hp => hp⟩
  have hnew : ∀ e ∈ told ++ xs, ¬ (e.se = e0.se ∧ e.sq = e0.sq) := by
    rintro e he ⟨r1, r2⟩
    obtain ⟨i, s2, i1, i2, i3⟩ := h.know e he
    rw [kse, i1] at r1
    have : i = se := by omega
    subst this
    rw [hs] at i2
    injection i2 with i2
    subst i2
    rw [r2, ksq] at i3
    exact new_unknown hno i3
  refine ⟨?_, d6, ?_, ?_, ?_, ?_, d5, ?_, ?_, ?_, ?_, ?_, ?_⟩
  · intro s2 hs2
    rcases List.mem_or_eq_of_mem_set hs2 with q | q
    · exact h.ok s2 q
    · subst q
      have := tk_ok hok q0 q1 hn
      exact ⟨this.m0, this.m1, this.t0, this.t1⟩
  · intro e he
    rw [List.append_assoc] at he
    rcases List.mem_append.1 he with q | q
    · obtain ⟨i, s2, i1, i2, i3⟩ := h.know e (List.mem_append_left _ q)
      obtain ⟨s3, j1, j2⟩ := hgetE i2
      exact ⟨i, s3, i1, j1, j2 _ i3⟩
    · rcases List.mem_append.1 (hperm.mem_iff.1 q) with q | q
      · obtain ⟨i, s2, i1, i2, i3⟩ := h.know e (List.mem_append_right _ q)
        obtain ⟨s3, j1, j2⟩ := hgetE i2
        exact ⟨i, s3, i1, j1, j2 _ i3⟩
      · rw [List.mem_singleton.1 q]
        refine ⟨se, _, kse, List.getElem?_set_self hsel, ?_⟩
        rw [ksq]
        exact tk_self hok q0 q1 hn
  · rw [List.append_assoc]
    refine pair_perm dist_sym hperm ?_
    rw [← List.append_assoc]
    refine List.pairwise_append.2 ⟨h.dist, List.pairwise_singleton _ _, fun a ha b hb => ?_⟩
    rw [List.mem_singleton.1 hb]
    exact hnew a ha
  · refine List.pairwise_append.2 ⟨h.srt, d3.imp (fun hab => cmpK_at hab), fun a ha b hb => ?_⟩
    have h1 := h.low a ha
    rcases hall b (.inl hb) with q | q
    · have := h.high b q
      omega
    · rcases hlate with hl | hl
      · rw [(h.none hl).2] at ha; simp at ha
      · rw [q, ka]; omega
  · intro e he
    show e.at_ < riseH j t
    rcases List.mem_append.1 he with q | q
    · have h1 := h.low e q
      cases hsm : j.some with
      | false => rw [(h.none hsm).2] at q; simp at q
      | true => have := riseH_ge (t := t) hsm; omega
    · exact d4 e q
  · intro e he
    show e.at_ ≤ riseT j t
    rcases hall e (.inr he) with q | q
    · cases hsm : j.some with
      | false => rw [(h.none hsm).1] at q; simp at q
      | true => have := h.top e q; have := (riseT_ge (t := t)).2 hsm; omega
    · rw [q, ka]; exact riseT_ge.1
  · intro q; cases q
  · have hb := riseT_bd h.num t0 t1
    have := h.num
    refine ⟨?_, ?_, this.d0, this.o0, this.l0, hb.1, hb.2, this.w0, this.w1⟩
    · show 0 ≤ j.ct + 1
      have := this.c0
      omega
    · show 0 ≤ j.cs + (mid.length : Int)
      have := this.k0
      omega
  · show j.ct + 1 = _
    have h1 := hperm.length_eq
    have h2 := h.cnt
    simp only [List.length_append, List.length_singleton] at h1 ⊢
    omega
  · show j.cs + (mid.length : Int) = _
    have h2 := h.cs
    simp only [List.length_append]
    omega
  · refine List.pairwise_append.2 ⟨h.srtk, d3, fun a ha b hb => le_at ?_⟩
    have h1 := h.low a ha
    rcases hall b (.inl hb) with q | q
    · have := h.high b q
      omega
    · rcases hlate with hl | hl
      · rw [(h.none hl).2] at ha; simp at ha
      · rw [q, ka]; omega

/-- behind a flush -/
theorem JP.flush {j : Jn} {sns : List Sn} {xs told : List El} {v' : Value} (h : JP j sns xs told) (hs : j.some = true) (hh : j.hor ≤ j.top + 1) :
    ∃ mid, dueL cmpK (xs.length + 1) xs (j.top + 1) [] = (mid, []) ∧ mid.Perm xs ∧ mid.Pairwise (Le cmpK) ∧ JP { j with hor := j.top + 1, wait := v', cs := j.cs + mid.length } sns [] (told ++ mid) := by
  obtain ⟨mid, rest, d1, d2, d3, d4, d5, d6⟩ := due_is h.heap (j.top + 1) (f := xs.length + 1) (by omega)
  have hrest : rest = [] := by
    cases rest with
    | nil => rfl
    | cons a l =>
      have h1 := d5 a List.mem_cons_self
      have h2 := h.top a (d2.mem_iff.1 (List.mem_append_right _ List.mem_cons_self))
      omega
  subst hrest
  rw [List.append_nil] at d2
  refine ⟨mid, d1, d2, d3, h.ok, fun i i0 i1 => by simp at i1, ?_, ?_, ?_, ?_, by simp, by simp, (fun q => by rw [hs] at q; cases q), ?_, ?_, ?_, ?_⟩
  · intro e he
    rw [List.append_nil] at he
    refine h.know e ?_
    rcases List.mem_append.1 he with q | q
    · exact List.mem_append_left _ q
    · exact List.mem_append_right _ (d2.mem_iff.1 q)
  · rw [List.append_nil]
    exact pair_perm dist_sym d2 h.dist
  · refine List.pairwise_append.2 ⟨h.srt, d3.imp (fun hab => cmpK_at hab), fun a ha b hb => ?_⟩
    have h1 := h.low a ha
    have h2 := h.high b (d2.mem_iff.1 hb)
    omega
  · intro e he
    show e.at_ < j.top + 1
    rcases List.mem_append.1 he with q | q
    · have h1 := h.low e q
      omega
    · exact d4 e q
  · have := h.num
    refine ⟨this.c0, ?_, this.d0, this.o0, this.l0, this.t0, this.t1, this.w0, this.w1⟩
    show 0 ≤ j.cs + (mid.length : Int)
    have := this.k0
    omega
  · show j.ct = _
    have h1 := d2.length_eq
    have h2 := h.cnt
    simp only [List.length_append, List.length_nil] at h1 ⊢
    omega
  · show j.cs + (mid.length : Int) = _
    have h2 := h.cs
    simp only [List.length_append]
    omega
  · refine List.pairwise_append.2 ⟨h.srtk, d3, fun a ha b hb => le_at ?_⟩
    have h1 := h.low a ha
    have h2 := h.high b (d2.mem_iff.1 hb)
    omega
end Go.Proofs.YtebacmmfjadalaaGreat
