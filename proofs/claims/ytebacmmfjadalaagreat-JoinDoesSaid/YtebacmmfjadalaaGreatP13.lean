/- V1 J20 J21 J22 J23 J24 K1 in one text. -/
import Derived.Test.YtebacmmfjadalaaGreatP12
import Derived.WalkLawsBesides
import Derived.Laws.Externs
import Derived.Deep.RegionHeld3

namespace Go.Proofs.YtebacmmfjadalaaGreat
open Go Go.RowKit

/-- numbers behind a slice -/
def NumAt (w : World) (A : Option Addr) (n : Nat) (ts : List Int) : Prop := ts.length = n ∧ (n = 0 ∨ ∃ b off, A = some ⟨b, off, none⟩ ∧ b < w.heap.size ∧ ∀ i, i < n → w.cell? ⟨b, off + i, none⟩ = some (.int .u32 (ts.getD i 0)))
theorem NumAt.below {w w' : World} {A : Option Addr} {n : Nat} {ts : List Int} (h : NumAt w A n ts) (hb : Below w.heap.size w w') : NumAt w' A n ts := by
  refine ⟨h.1, h.2.imp id ?_⟩
  rintro ⟨b, off, h1, h2, h3⟩
  exact ⟨b, off, h1, Nat.lt_of_lt_of_le h2 hb.size, fun i hi => (hb.cell (p := ⟨b, off + i, none⟩) h2).trans (h3 i hi)⟩
def oldO (any : Bool) (top q : Int) : Bool := any && decide (q + 64 ≤ top)
def hasO (any : Bool) (top : Int) (ts : List Int) (q : Int) : Bool := any && !decide (q + 64 ≤ top) && decide (q ∈ ts)

set_option maxHeartbeats 1000000 in
theorem oold_any (last top : Int) (any : Bool) (A : Option Addr) (n c : Nat) (q : Int) (w : World) (q0 : 0 ≤ q) (q1 : q ≤ 4294967295) (t0 : 0 ≤ top) (t1 : top ≤ 4294967295) :
    Calls Tryz.prog 40 #[.agg #[.int .i64 last, .int .u32 top, .bool any, .slice A n c], .int .u32 q] w fun e w' => e = .returned (.bool (oldO any top q)) ∧ Below w.heap.size w w' := by
  have HB := Lib.hid ((Below.refl w.heap.size w).alloc (Nat.le_refl _) (.cells #[.int .i64 last, .int .u32 top, .bool any, .slice A n c] 50))
  have e1 : IntKind.i64.wrap q = q := by rw [IntKind.wrap_i64]; omega
  have e2 : IntKind.i64.wrap top = top := by rw [IntKind.wrap_i64]; omega
  have e3 : IntKind.i64.wrap (q + 64) = q + 64 := by rw [IntKind.wrap_i64]; omega
  unfold oldO
  cases any
  · go_enter Tryz.func40, Tryz.ntmps40
    go_wp2_with fail
    go_ret
    exact ⟨rfl, HB.out⟩
  · go_enter Tryz.func40, Tryz.ntmps40
    go_wp2_with fail
    go_ret
    exact ⟨by simp, HB.out⟩

theorem contains_take {ts : List Int} {k : Nat} {q : Int} (h : q ∉ ts.take k) (hk : k < ts.length) (hq : (ts.getD k 0 == q) = false) : q ∉ ts.take (k + 1) := by
  rw [List.take_add_one, List.getElem?_eq_getElem hk]
  have e : ts.getD k 0 = ts[k] := by simp [List.getD_eq_getElem?_getD, hk]
  rw [e] at hq
  simp only [Option.toList_some]
  have hq' : ¬ q = ts[k] := fun e => by rw [e] at hq; simp at hq
  simp only [List.mem_append, List.mem_singleton, not_or]
  exact ⟨h, hq'⟩
theorem contains_at {ts : List Int} {k : Nat} {q : Int} (hk : k < ts.length) (hq : ts.getD k 0 = q) : q ∈ ts := by
  have e : ts.getD k 0 = ts[k] := by simp [List.getD_eq_getElem?_getD, hk]
  rw [e] at hq
  rw [← hq]
  simp

set_option maxHeartbeats 1000000 in
theorem ohas_any (last top : Int) (any : Bool) (A : Option Addr) (n c : Nat) (ts : List Int) (q : Int) (w : World) (h : NumAt w A n ts) (hl : n ≤ 1099511627776) (q0 : 0 ≤ q) (q1 : q ≤ 4294967295) (t0 : 0 ≤ top) (t1 : top ≤ 4294967295) :
    Calls Tryz.prog 39 #[.agg #[.int .i64 last, .int .u32 top, .bool any, .slice A n c], .int .u32 q] w fun e w' => e = .returned (.bool (hasO any top ts q)) ∧ Below w.heap.size w w' := by
  have HB := Lib.hid ((Below.refl w.heap.size w).alloc (Nat.le_refl _) (.cells #[.int .i64 last, .int .u32 top, .bool any, .slice A n c] 50))
  have HOL := Lib.hid (fun W => oold_any last top true A n c q W q0 q1 t0 t1)
  have HN := Lib.hid h
  unfold hasO
  cases any
  · go_enter Tryz.func39, Tryz.ntmps39
    go_wp2_with fail
    go_ret
    exact ⟨rfl, HB.out⟩
  · unfold oldO at HOL
    obtain ⟨o, ho⟩ : ∃ o, decide (q + 64 ≤ top) = o := ⟨_, rfl⟩
    rw [ho] at HOL ⊢
    clear ho h
    have y3 : (w.alloc (.cells #[.int .i64 last, .int .u32 top, .bool true, .slice A n c] 50)).cell? ⟨w.heap.size, 3, none⟩ = some (.slice A n c) := by simp [go_sem]
    have hs : w.heap.size < (w.alloc (.cells #[.int .i64 last, .int .u32 top, .bool true, .slice A n c] 50)).heap.size := by simp
    go_enter Tryz.func39, Tryz.ntmps39
    go_wp2_with fail
    refine (HOL.out _).mono ?_
    rintro e w2 ⟨rfl, hb2⟩
    have y3' := (hb2.cell (p := ⟨w.heap.size, 3, none⟩) hs).trans y3
    have HB2 := Lib.hid (HB.out.trans (hb2.mono HB.out.size))
    have HN2 := Lib.hid (HN.out.below HB2.out)
    clear y3 hs hb2 HOL HN HB
    cases o
    · go_wp2_with fail
      go_loopw [18] (fun iv wr => ∃ k : Nat, k ≤ n ∧ iv = .int .i64 (k : Int) ∧ Hid (q ∉ ts.take k) ∧ w2 = wr) (fun iv _ => n - (intOf iv).toNat)
      case atStart => exact ⟨0, by omega, rfl, Lib.hid (by simp), rfl⟩
      case round =>
        obtain ⟨k, hk, rfl, hh, rfl⟩ := hrel
        by_cases hlt : k < n
        · obtain ⟨hn, h0 | ⟨b, off, hA, hb, hcell⟩⟩ := HN2.out
          · omega
          · subst hA
            have x0 := hcell k hlt
            obtain ⟨y, hy⟩ : ∃ y, ts.getD k 0 = y := ⟨_, rfl⟩
            rw [hy] at x0
            have HY := Lib.hid (And.intro hy hn)
            have hki : (k : Int) < (n : Int) := by omega
            have hk0 : (0 : Int) ≤ (k : Int) := by omega
            clear hcell hy hn
            cases hq : (y == q) with
            | true =>
              have HQ := Lib.hid (show y = q by simpa using hq)
              go_wp2_with fail
              go_ret
              refine ⟨?_, HB2.out⟩
              rw [decide_eq_true (contains_at (k := k) (by have := HY.out.2; omega) (HY.out.1.trans HQ.out))]
              rfl
            | false =>
              have HQ := Lib.hid hq
              go_wp2_with fail
              go_roundw
              case rel => exact ⟨k + 1, by omega, by go_num, Lib.hid (contains_take hh.out (by have := HY.out.2; omega) (by rw [HY.out.1]; exact HQ.out)), by first | rfl | trivial⟩
              case measure => simp [intOf]; omega
        · have hki : ¬ (k : Int) < (n : Int) := by omega
          go_wp2_with fail
          go_ret
          refine ⟨?_, HB2.out⟩
          have h1 := hh.out
          rw [List.take_of_length_le (by have := HN2.out.1; omega)] at h1
          rw [decide_eq_false h1]
          rfl
    · go_wp2_with fail
      go_ret
      exact ⟨rfl, HB2.out⟩
end Go.Proofs.YtebacmmfjadalaaGreat

namespace Go.Proofs.YtebacmmfjadalaaGreat
open Go Go.RowKit

set_option maxRecDepth 100000 in
set_option maxHeartbeats 8000000 in
theorem push_more (x B sb scap sn : Nat) (j : Jn) (sns : List Sn) (xs : List El) (n se : Nat) (sq st cnt t : Int) (s : Sn) (w0 w : World) (hi : Inv w0 w x B j sns xs) (hsen : j.sen = .slice (some ⟨sb, 0, none⟩) sn scap) (hsn : sns.length = sn) (hsb : sb < B) (hs : sns[se]? = some s) (hse : se < 64)
    (hn : xs.length = n) (hn2 : n < 4096) (hv : ∀ a ∈ xs, a.n = 0) (u1 : Ck.unwV s.last st = cnt) (u2 : Ck.unwE s.last st = 0) (t1 : Ck.timeV s.o s.n s.d cnt = t) (t2 : Ck.timeE s.o s.n s.d cnt = 0) (st0 : 0 ≤ st) (st1 : st ≤ 4294967295) (q0 : 0 ≤ sq) (q1 : sq ≤ 4294967295)
    (m0 : 0 ≤ s.most) (m1 : s.most ≤ 4294967295) (hnew : (s.some && decide (sq ≤ s.most)) = false) (hsm : j.some = true) (hlt : j.hor ≤ t) (c0 : 0 ≤ j.ct) (c1 : j.ct ≤ 4611686018427387904) (d0 : 0 ≤ j.cs) (d1 : j.cs ≤ 4611686018427387904) (b3 : -2251799813685248 ≤ j.top) (b4 : j.top ≤ 2251799813685248) (b5 : 0 ≤ j.win) (b6 : j.win ≤ 2251799813685248) :
    Calls Tryz.prog 12 #[.pointer (some ⟨x, 0, none⟩), .agg #[.int .i64 se, .int .u32 sq, .int .u32 st, .slice none 0 0]] w fun e w' => ∃ ov D v', e = .returned (.tuple #[.int .i64 1, ov, .int .i64 0]) ∧ Row D w' ov (dueL headC (n + 2) (upL headC (n + 1) (xs ++ [⟨t, se, sq, st, none, 0, 0, []⟩]) n) (riseH j t) []).1 ∧
      Inv w0 w' x B { riseJ j t with ct := j.ct + 1, wait := v', cs := j.cs + (dueL headC (n + 2) (upL headC (n + 1) (xs ++ [⟨t, se, sq, st, none, 0, 0, []⟩]) n) (riseH j t) []).1.length } (sns.set se (tkL s sq cnt)) (dueL headC (n + 2) (upL headC (n + 1) (xs ++ [⟨t, se, sq, st, none, 0, 0, []⟩]) n) (riseH j t) []).2 := by
  obtain ⟨g, cap, hgv, hg1, hg2, hsa, hsz⟩ := hi.sn.at hs
  rw [hsen] at hgv
  injection hgv with e1 e2 e3
  injection e1 with e1
  injection e1 with e1 _ _
  subst e1 e3 e2
  have hHead := Lib.hid (And.intro hsen (And.intro hsn hs))
  have HI := Lib.hid hi
  have HU := Lib.hid (And.intro (And.intro u1 u2) (And.intro t1 t2))
  have hxw : x < w.heap.size := by have := hi.big; have := hi.xB; omega
  obtain ⟨S, win, V, sm, top, hor, ct, cd, co, cl, cs⟩ := j
  obtain ⟨so, sn', sd, slast, ssm, smost, staken⟩ := s
  simp only at hsen hnew hsm hlt c0 c1 m0 m1 d0 d1 b3 b4 b5 b6
  subst hsen hsm
  have HSA := Lib.hid hsa
  have HVO := Lib.hid hi.row.old
  have hb1 := (Below.refl w.heap.size w).alloc (Nat.le_refl _) (.cells #[.int .i64 se, .int .u32 sq, .int .u32 st, .slice none 0 0] 38)
  have hi1 := hi.below hb1
  have HI1 := Lib.hid hi1
  have HB1 := Lib.hid hb1
  have hse0 : (0 : Int) ≤ (se : Int) := by omega
  clear hi hsa u1 u2 t1 t2 hb1 hs hsn
  go_enter Tryz.func12, Tryz.ntmps12
  go_wp2_with fail
  refine (ready_any x true _ hi1.jn.2.2.2.2.2.2.2).mono ?_
  rintro e w1 ⟨rfl, rfl⟩
  go_wp2_with fail
  refine (pcheck_nil se sq st _ (by omega) (by omega)).mono ?_
  rintro e w2 ⟨rfl, hb2⟩
  have HI2 := Lib.hid (hi1.below hb2)
  have hbb := HB1.out.trans (hb2.mono HB1.out.size)
  have r0 : w2.cell? ⟨w.heap.size, 0, none⟩ = some (.int .i64 se) := (hb2.cell (p := ⟨w.heap.size, 0, none⟩) (by simp)).trans (by simp [go_sem])
  have r1 : w2.cell? ⟨w.heap.size, 1, none⟩ = some (.int .u32 sq) := (hb2.cell (p := ⟨w.heap.size, 1, none⟩) (by simp)).trans (by simp [go_sem])
  have r2 : w2.cell? ⟨w.heap.size, 2, none⟩ = some (.int .u32 st) := (hb2.cell (p := ⟨w.heap.size, 2, none⟩) (by simp)).trans (by simp [go_sem])
  have r3 : w2.cell? ⟨w.heap.size, 3, none⟩ = some (.slice none 0 0) := (hb2.cell (p := ⟨w.heap.size, 3, none⟩) (by simp)).trans (by simp [go_sem])
  have HSA2 := Lib.hid (HSA.out.same (fun i => hbb.cell (p := ⟨sb, i, none⟩) hg2))
  have HW2 := Lib.hid (And.intro hbb.size (fun i => (hbb.frozen (p := ⟨sb, i, none⟩) hg2).trans (hsz i)))
  have hbx : w.heap.size < w2.heap.size := Nat.lt_of_lt_of_le (by simp) hb2.size
  obtain ⟨g0, g1, g2, g3, g4, g5, ⟨g6, g7, g8, g9, g10⟩, g11⟩ := HI2.out.jn
  simp only at g0 g1 g2 g3 g4 g5 g6 g7 g8 g9 g10 g11
  obtain ⟨s0, s1, s2, s3, s4, s5, s6⟩ := HSA2.out
  simp only at s0 s1 s2 s3 s4 s5 s6
  have hsel : se < sns.length := (List.getElem?_eq_some_iff.1 hHead.out.2.2).1
  have hsel' : (se : Int) < (sns.length : Int) := by omega
  clear hi1 hb2 hbb HI1 HB1 HSA hsz
  generalize w.heap.size = bx at *
  go_wp2_with fail
  go_region
  all_goals go_wp2_with fail
  go_region
  all_goals go_wp2_with fail
  have HUN := Lib.hid (fun W => unwrap_any slast st W st0 st1)
  rw [HU.out.1.1, HU.out.1.2] at HUN
  go_region_held3 (fun w' => w'.cell? ⟨sb, se * 7 + 3, none⟩ = some (.int .i64 slast) ∧ w'.cell? ⟨bx, 2, none⟩ = some (.int .u32 st))
    (first | exact ⟨s3, r2⟩)
    (first | (go_at_call 31; refine (HUN.out _).mono ?_; rintro e w3 ⟨rfl, rfl⟩))
  have HTB := timeV_bd so sn' sd cnt
  rw [HU.out.2.1] at HTB
  obtain ⟨ht0, ht1⟩ := HTB
  have HTI := Lib.hid (fun W => time_any so sn' sd cnt W)
  rw [HU.out.2.1, HU.out.2.2] at HTI
  unfold clk at HTI
  go_wp2_with fail
  refine (HTI.out _).mono ?_
  rintro e w3 ⟨rfl, hb3⟩
  have hb23 : Below w2.heap.size w2 w3 := (Below.refl w2.heap.size w2).drew.drew.drew.trans hb3
  have HI3 := Lib.hid (HI2.out.below hb23)
  have HSA3 := Lib.hid (HSA2.out.same (fun i => hb23.cell (p := ⟨sb, i, none⟩) (Nat.lt_of_lt_of_le hsb HI2.out.big)))
  have HZS := Lib.hid (fun i => (hb23.frozen (p := ⟨sb, i, none⟩) (Nat.lt_of_lt_of_le hsb HI2.out.big)).trans (HW2.out.2 i))
  have p0 := (hb23.cell (p := ⟨bx, 0, none⟩) hbx).trans r0
  have p1 := (hb23.cell (p := ⟨bx, 1, none⟩) hbx).trans r1
  have p2 := (hb23.cell (p := ⟨bx, 2, none⟩) hbx).trans r2
  have p3 := (hb23.cell (p := ⟨bx, 3, none⟩) hbx).trans r3
  have hbx3 := Nat.lt_of_lt_of_le hbx hb23.size
  have HAG := Lib.hid (age_any sb (se * 7) _ sq w3 HSA3.out)
  simp only at HAG
  rw [hnew] at HAG
  have HNEW := Lib.hid hnew
  clear HTI HUN hb3 hb23 r0 r1 r2 r3 g0 g1 g2 g3 g4 g5 g6 g7 g8 g9 g10 g11 s0 s1 s2 s3 s4 s5 s6 HI2 HSA2 HW2 hnew
  go_wp2_with fail
  refine HAG.out.mono ?_
  rintro e w4 ⟨rfl, rfl⟩
  obtain ⟨g0, g1, g2, g3, g4, g5, ⟨g6, g7, g8, g9, g10⟩, g11⟩ := HI3.out.jn
  simp only at g0 g1 g2 g3 g4 g5 g6 g7 g8 g9 g10 g11
  obtain ⟨A, c, hV⟩ := HI3.out.row.slice
  simp only at hV
  rw [hn] at hV
  subst hV
  have hn3 : (n : Int) < 4096 := by omega
  clear HAG
  have hlt' : ¬ t < hor := by omega
  go_wp2_with fail
  have hxsb : x ≠ sb := fun e => HI.out.sn.ne (congrArg some e.symm)
  have hg2' : sb < bx := hg2
  have HI5 := Lib.hid (((HI3.out.below ((Below.refl w3.heap.size w3).drew)).take rfl hHead.out.2.2 hsb hxsb sq))
  have hd : Below w3.heap.size w3 w3.drew := (Below.refl w3.heap.size w3).drew
  have HTK := Lib.hid (take_sets sb (se * 7) _ sq w3.drew (HSA3.out.same (fun i => rfl)) (fun i => HZS.out i) q0 (by omega) m0 (by simp only; omega) (fun hh1 hh2 => by
    have := HNEW.out
    simp only at hh1 hh2
    rw [hh1] at this
    simp at this
    omega))
  refine HTK.out.mono ?_
  rintro e w5 ⟨rfl, rfl⟩
  have y0 := (tkW_cell (w := w3.drew) (b := sb) (off := se * 7) (s := ⟨so, sn', sd, slast, ssm, smost, staken⟩) (q := sq) (a := ⟨bx, 0, none⟩) (by show bx ≠ sb; omega)).trans p0
  have y1 := (tkW_cell (w := w3.drew) (b := sb) (off := se * 7) (s := ⟨so, sn', sd, slast, ssm, smost, staken⟩) (q := sq) (a := ⟨bx, 1, none⟩) (by show bx ≠ sb; omega)).trans p1
  have y2 := (tkW_cell (w := w3.drew) (b := sb) (off := se * 7) (s := ⟨so, sn', sd, slast, ssm, smost, staken⟩) (q := sq) (a := ⟨bx, 2, none⟩) (by show bx ≠ sb; omega)).trans p2
  have y3 := (tkW_cell (w := w3.drew) (b := sb) (off := se * 7) (s := ⟨so, sn', sd, slast, ssm, smost, staken⟩) (q := sq) (a := ⟨bx, 3, none⟩) (by show bx ≠ sb; omega)).trans p3
  have hbx5 : bx < (tkW w3.drew sb (se * 7) ⟨so, sn', sd, slast, ssm, smost, staken⟩ sq).heap.size := by rw [tkW_size]; exact hbx3
  clear HTK g0 g1 g2 g3 g4 g5 g6 g7 g8 g9 g10 g11 p0 p1 p2 p3 hbx3 hd HSA3 HZS HI3
  generalize tkW w3.drew sb (se * 7) ⟨so, sn', sd, slast, ssm, smost, staken⟩ sq = w5 at *
  have hsI : (sns.set se (tk ⟨so, sn', sd, slast, ssm, smost, staken⟩ sq))[se]? = some (tk ⟨so, sn', sd, slast, ssm, smost, staken⟩ sq) := by rw [List.getElem?_set_self hsel]
  have hlast : (tk ⟨so, sn', sd, slast, ssm, smost, staken⟩ sq).last = slast := by unfold tk; split <;> rfl
  obtain ⟨s', hs'⟩ : ∃ s', tk ⟨so, sn', sd, slast, ssm, smost, staken⟩ sq = s' := ⟨_, rfl⟩
  rw [hs'] at HI5 hsI hlast
  have HTKE := Lib.hid hs'
  obtain ⟨g', cap', hgv', _, _, hsa', hsz'⟩ := HI5.out.sn.at hsI
  have e1 : sb = g' := by injection hgv' with e1; injection e1 with e1; injection e1
  subst e1
  clear hgv'
  have s3 := hsa'.2.2.2.1
  rw [hlast] at s3
  have HSI := Lib.hid hsI
  have g6 := HI5.out.jn.2.2.2.2.2.2.1.1
  simp only at g6
  have g6f := HI5.out.fz 6
  have hsbx : ¬ sb = x := by omega
  have hxsb' : ¬ x = sb := by omega
  have HHL := Lib.hid hlast
  have s3f := hsz' (se * 7 + 3)
  clear hs' hsI hlast hsa' HNEW hsz'
  go_wp2_with fail
  have HI6 := Lib.hid ((HI5.out.last rfl HSI.out hsb hxsb (max slast cnt)).ct (ct + 1))
  have hbsb : bx ≠ sb := by omega
  have hbxx : bx ≠ x := by omega
  have z0 := (two_other (W := w5) (i := se * 7 + 3) (k := 6) (m := 0) (u := .int .i64 (max slast cnt)) (v := .int .i64 (ct + 1)) hbsb hbxx).trans y0
  have z1 := (two_other (W := w5) (i := se * 7 + 3) (k := 6) (m := 1) (u := .int .i64 (max slast cnt)) (v := .int .i64 (ct + 1)) hbsb hbxx).trans y1
  have z2 := (two_other (W := w5) (i := se * 7 + 3) (k := 6) (m := 2) (u := .int .i64 (max slast cnt)) (v := .int .i64 (ct + 1)) hbsb hbxx).trans y2
  have z3 := (two_other (W := w5) (i := se * 7 + 3) (k := 6) (m := 3) (u := .int .i64 (max slast cnt)) (v := .int .i64 (ct + 1)) hbsb hbxx).trans y3
  have hbx6 : bx < ((w5.setCell ⟨sb, se * 7 + 3, none⟩ (.int .i64 (max slast cnt))).setCell ⟨x, 6, none⟩ (.int .i64 (ct + 1))).heap.size := by simp [World.setCell]; exact hbx5
  clear y0 y1 y2 y3 s3 s3f g6 g6f hbx5 HI5
  generalize (w5.setCell ⟨sb, se * 7 + 3, none⟩ (.int .i64 (max slast cnt))).setCell ⟨x, 6, none⟩ (.int .i64 (ct + 1)) = w6 at *
  obtain ⟨e0, he0⟩ : ∃ y : El, (⟨t, se, sq, st, none, 0, 0, []⟩ : El) = y := ⟨_, rfl⟩
  have hval : e0.val = .agg #[.int .i64 t, .int .i64 se, .int .u32 sq, .int .u32 st, .slice none 0 0] := by rw [← he0]; rfl
  have hcn : ∀ a ∈ xs ++ [e0], a.n = 0 := by
    intro a ha
    rcases List.mem_append.1 ha with h | h
    · exact hv a h
    · rw [List.mem_singleton.1 h, ← he0]
  have HPU := Lib.hid (fun W (hI : Inv w0 W x B ⟨.slice (some ⟨sb, 0, none⟩) sns.length scap, win, .slice A n c, true, top, hor, ct + 1, cd, co, cl, cs⟩ ((sns.set se s').set se { s' with last := max slast cnt }) xs) =>
    hpush_any headC B ⟨x, 2, none⟩ (.slice A n c) xs n e0 W hI.row hn hI.big hI.jn.2.2.1 (hI.fz 2) hI.xB (by omega) (fun a ha b hb W' _ => order_nil a b W' (hcn a ha)))
  rw [hval] at HPU
  have HE0 := Lib.hid (And.intro he0 hcn)
  have hvo : ¬ (Value.slice A n c).ownBlock = some bx := HVO.out
  clear he0 hval hcn HVO
  have HVB := Lib.hid hvo
  clear hvo
  go_region_held3 (fun w' => w'.cell? ⟨bx, 0, none⟩ = some (.int .i64 se) ∧ w'.cell? ⟨bx, 1, none⟩ = some (.int .u32 sq) ∧ w'.cell? ⟨bx, 2, none⟩ = some (.int .u32 st) ∧ w'.cell? ⟨bx, 3, none⟩ = some (.slice none 0 0))
    (first | exact ⟨z0, z1, z2, z3⟩ | exact ⟨(hb7.cell (by exact hbx6)).trans z0, (hb7.cell (by exact hbx6)).trans z1, (hb7.cell (by exact hbx6)).trans z2, (hb7.cell (by exact hbx6)).trans z3⟩ | exact ⟨(hk8 0).trans z0, (hk8 1).trans z1, (hk8 2).trans z2, (hk8 3).trans z3⟩)
    (first | (go_at_call 36; refine (copied_nil t se sq st _).mono ?_; rintro e w7 ⟨rfl, hb7⟩; have HI7 := Lib.hid (HI6.out.below ((Below.refl w6.heap.size w6).drew.trans hb7))) | (go_at_call 35; refine (HPU.out w7 HI7.out).mono ?_; rintro e w8 ⟨rfl, ⟨v8, hr8, hc8, ha8⟩, hF8⟩; have hk8 : ∀ i, w8.cell? ⟨bx, i, none⟩ = w6.cell? ⟨bx, i, none⟩ := (fun i => (World.cell?_of_block (hF8.block bx (Nat.lt_of_lt_of_le hbx6 hb7.size) (by exact hbxx) (fun e => HVB.out e.symm))).trans (hb7.cell (p := ⟨bx, i, none⟩) (by exact hbx6)))))
  have HI8 := Lib.hid (HI7.out.push rfl hsb hxsb hF8 hr8 hc8)
  clear hk8 hr8 hc8 ha8 hF8 hb7 HI7 HPU HI6 z0 z1 z2 z3
  go_wp2_with fail
  refine (rise_any x _ t w8 HI8.out.jn HI8.out.fz (by omega) (by omega) b3 b4 b5 b6).mono ?_
  rintro e w9 ⟨rfl, hj9, hch9⟩
  have hI9 := HI8.out.ch hch9 (by rintro a (rfl | rfl | rfl) <;> rfl) hj9 rfl rfl
  have hch := hI9.jn.2.2.2.2.2.1
  have HI9 := Lib.hid hI9
  clear hch9 hj9 hI9 HI8
  have HDU := Lib.hid (fun W (hI : Inv w0 W x B (riseJ ⟨.slice (some ⟨sb, 0, none⟩) sns.length scap, win, v8, true, top, hor, ct + 1, cd, co, cl, cs⟩ t) ((sns.set se s').set se { s' with last := max slast cnt }) (upL headC (n + 1) (xs ++ [e0]) n)) =>
    due_walk headC B x v8 _ (riseH ⟨.slice (some ⟨sb, 0, none⟩) sns.length scap, win, v8, true, top, hor, ct + 1, cd, co, cl, cs⟩ t) cs W hI.row hI.big hI.xB hI.jn.2.2.1 hI.jn.2.2.2.2.2.2.1.2.2.2.2 hI.fz (by rw [upL_len, List.length_append, hn]; simp; omega) d0 d1 (fun a ha b hb W' _ => order_nil a b W' (HE0.out.2 a (upL_mem _ _ _ _ _ ha))))
  obtain ⟨RH, hRH⟩ : ∃ y, riseH ⟨.slice (some ⟨sb, 0, none⟩) sns.length scap, win, v8, true, top, hor, ct + 1, cd, co, cl, cs⟩ t = y := ⟨_, rfl⟩
  have hch' : w9.cell? ⟨x, 5, none⟩ = some (.int .i64 RH) := by rw [← hRH]; exact hch
  rw [hRH] at HDU
  have HRH := Lib.hid hRH
  clear hch hRH
  go_wp2_with fail
  go_region_held3 (fun w' => w'.cell? ⟨x, 5, none⟩ = some (.int .i64 RH))
    (first | exact hch' | exact hk10)
    (first | (go_at_call 38; refine (HDU.out _ (HI9.out.below (Below.refl w9.heap.size w9).drew)).mono ?_; rintro e w10 ⟨ov, v10, rfl, ho, hr10, hc10, hv10, hs10, hch10⟩; have hI10 := (HI9.out.below (Below.refl w9.heap.size w9).drew).due rfl hsb hxsb hch10 hr10 hc10 hs10; have hk10 : w10.cell? ⟨x, 5, none⟩ = some (.int .i64 RH) := (by rw [← HRH.out]; exact hI10.jn.2.2.2.2.2.1)))
  have HFIN := Lib.hid (And.intro ho hI10)
  clear ho hI10 hk10 hr10 hc10 hv10 hs10 hch10
  go_wp2_with fail
  go_ret3
  have hl : (upL headC (n + 1) (xs ++ [e0]) n).length + 1 = n + 2 := by rw [upL_len, List.length_append, hn]; rfl
  have hf := HFIN.out
  rw [hl, List.set_set] at hf
  have hrh : riseH ⟨.slice (some ⟨sb, 0, none⟩) sns.length scap, win, .slice A n c, true, top, hor, ct, cd, co, cl, cs⟩ t = RH := HRH.out
  have htl : tkL ⟨so, sn', sd, slast, ssm, smost, staken⟩ sq cnt = { s' with last := max slast cnt } := by unfold tkL; rw [HTKE.out]
  rw [HE0.out.1, hrh, htl]
  exact ⟨ov, _, v10, rfl, hf.1, hf.2⟩
end Go.Proofs.YtebacmmfjadalaaGreat

namespace Go.Proofs.YtebacmmfjadalaaGreat
open Go Go.RowKit

def e1 : El := ⟨100, 0, 1, 100, none, 0, 0, []⟩
def e2 : El := ⟨95, 0, 2, 95, none, 0, 0, []⟩
def e3 : El := ⟨111, 0, 3, 111, none, 0, 0, []⟩
theorem due1 : dueL headC 2 (upL headC 1 ([] ++ [(⟨100, 0, 1, 100, none, 0, 0, []⟩ : El)]) 0) 90 [] = ([], [e1]) := by rfl
theorem due2 : dueL headC 3 (upL headC 2 ([e1] ++ [(⟨95, 0, 2, 95, none, 0, 0, []⟩ : El)]) 1) 90 [] = ([], [e2, e1]) := by rfl
theorem due3 : dueL headC 4 (upL headC 3 ([e2, e1] ++ [(⟨111, 0, 3, 111, none, 0, 0, []⟩ : El)]) 2) 101 [] = ([e2, e1], [e3]) := by rfl
theorem unw1 : Ck.unwV 0 100 = 100 ∧ Ck.unwE 0 100 = 0 ∧ Ck.timeV 0 1 1 100 = 100 ∧ Ck.timeE 0 1 1 100 = 0 := by decide
theorem unw2 : Ck.unwV 100 95 = 95 ∧ Ck.unwE 100 95 = 0 ∧ Ck.timeV 0 1 1 95 = 95 ∧ Ck.timeE 0 1 1 95 = 0 := by decide
theorem unw3 : Ck.unwV 100 111 = 111 ∧ Ck.unwE 100 111 = 0 ∧ Ck.timeV 0 1 1 111 = 111 ∧ Ck.timeE 0 1 1 111 = 0 := by decide
def sA : Sn := ⟨0, 1, 1, 0, false, 0, 0⟩
def sB : Sn := tkL sA 1 100
def sC : Sn := tkL sB 2 95
theorem sB_eq : sB.some = true ∧ sB.most = 1 ∧ sB.last = 100 ∧ sB.o = 0 ∧ sB.n = 1 ∧ sB.d = 1 := by decide
theorem sC_eq : sC.some = true ∧ sC.most = 2 ∧ sC.last = 100 ∧ sC.o = 0 ∧ sC.n = 1 ∧ sC.d = 1 := by decide

theorem SRow.low {B B' : Nat} {w : World} {v : Value} {xs : List Sn} (h : SRow B w v xs) (hb : B' ≤ B) : SRow B' w v xs := by
  refine ⟨h.1, ?_⟩
  rcases h.2 with hn | ⟨g, cap, cur, hv, h1, h2, h3⟩
  · exact .inl hn
  · exact .inr ⟨g, cap, cur, hv, Nat.le_trans hb h1, h2, h3⟩
theorem SRow.lo {x : Nat} {W : World} {v : Value} {xs : List Sn} (h : SRow (x + 1) W v xs) : SRow (lo x v) W v xs := h.low (by rw [lo_of h]; omega)

set_option maxRecDepth 100000 in
set_option maxHeartbeats 8000000 in
theorem awake_join (w : World) : Calls Tryz.prog 8 #[] w fun e w' => e = .returned (.bool true) ∧ Below w.heap.size w w' := by
  have hb0 := (Below.refl w.heap.size w).alloc (Nat.le_refl _) (.cells #[.int .i64 0, .int .i64 1, .int .i64 1] 53)
  have hnew := new_any w.heap.size 0 1 1 [(0, 1, 1)] 10 (w.alloc (.cells #[.int .i64 0, .int .i64 1, .int .i64 1] 53)) rfl (by simp) (fun i hi => by have h0 : i = 0 := (by omega); subst h0; simp [go_sem]) (fun i hi => by have h0 : i = 0 := (by omega); subst h0; decide) (by omega) (by omega) (by omega)
  have HB0 := Lib.hid hb0
  have HN := Lib.hid hnew
  have hs0 : (w.alloc (.cells #[.int .i64 0, .int .i64 1, .int .i64 1] 53)).heap.size = w.heap.size + 1 := by simp
  have HS0 := Lib.hid hs0
  clear hb0 hnew hs0
  go_enter Tryz.func8, Tryz.ntmps8
  go_wp2_with fail
  refine HN.out.mono ?_
  rintro e w1 ⟨rfl, sv, hsr, hjn, hfz, hlt, hbel⟩
  generalize w.alloc (.cells #[.int .i64 0, .int .i64 1, .int .i64 1] 53) = W0 at *
  obtain ⟨sb, scap, rfl, hsb1, hsb2, -, -⟩ := hsr.at (i := 0) (s := sA) rfl
  obtain ⟨x, hx⟩ : ∃ x, W0.heap.size = x := ⟨_, rfl⟩
  rw [hx] at hsr hjn hfz hlt hbel hsb1
  have hsr1 : SRow (x + 1) w1 (.slice (some ⟨sb, 0, none⟩) 1 scap) [sA] := hsr
  have HLO := Lib.hid (lo_of hsr1)
  have HI0 := Lib.hid (show Inv W0 w1 x w1.heap.size ⟨.slice (some ⟨sb, 0, none⟩) 1 scap, 10, .slice none 0 0, false, 0, 0, 0, 0, 0, 0, 0⟩ [sA] [] from ⟨hjn, hsr1.lo, World.ownsRow_nil _ _ _ _, hfz, Nat.le_refl _, hlt, (by show Below (lo x (.slice (some ⟨sb, 0, none⟩) 1 scap)) W0 w1; rw [HLO.out]; exact hbel)⟩)

  have HX := Lib.hid hx
  have HP1 := Lib.hid (push_first x w1.heap.size sb scap 1 _ [sA] [] 0 0 1 100 100 100 sA W0 w1 HI0.out rfl rfl hsb2 rfl (by omega) rfl (by omega) (by simp) unw1.1 unw1.2.1 unw1.2.2.1 unw1.2.2.2 (by omega) (by omega) (by omega) (by omega) (by decide) (by decide) (by decide) rfl (by simp only; omega) (by simp only; omega) (by simp only; omega) (by simp only; omega) (by simp only; omega) (by simp only; omega) (by simp only; omega) (by simp only; omega))
  clear hsr hsr1 hjn hfz hlt hbel hx HN
  rw [HX.out]
  go_wp2_with fail
  refine HP1.out.mono ?_
  rintro e w2 ⟨ov, D, v2, rfl, ho, hi⟩
  have ho' : Row D w2 ov [] := ho
  have hi' : Inv W0 w2 x w1.heap.size ⟨.slice (some ⟨sb, 0, none⟩) 1 scap, 10, v2, true, 100, 90, 1, 0, 0, 0, 0⟩ [sB] [e1] := hi
  obtain ⟨A1, c1, rfl⟩ := ho'.slice
  have HI1 := Lib.hid hi'
  have HP2 := Lib.hid (fun W (hI : Inv W0 W x w1.heap.size ⟨.slice (some ⟨sb, 0, none⟩) 1 scap, 10, v2, true, 100, 90, 1, 0, 0, 0, 0⟩ [sB] [e1]) => push_more x w1.heap.size sb scap 1 _ [sB] [e1] 1 0 2 95 95 95 sB W0 W hI rfl rfl hsb2 rfl (by omega) rfl (by omega) (by simp [e1]) unw2.1 unw2.2.1 unw2.2.2.1 unw2.2.2.2 (by omega) (by omega) (by omega) (by omega) (by decide) (by decide) (by decide) rfl (by simp only; omega) (by simp only; omega) (by simp only; omega) (by simp only; omega) (by simp only; omega) (by simp only; omega) (by simp only; omega) (by simp only; omega) (by simp only; omega))
  clear ho ho' hi hi' HP1 HI0
  go_wp2_with fail
  refine (horizon_some x _ w2 HI1.out.jn rfl).mono ?_
  rintro e w3 ⟨rfl, hb3⟩
  have HI2 := Lib.hid (HI1.out.below hb3)
  clear hb3 HI1
  go_wp2_with fail
  refine (HP2.out w3 HI2.out).mono ?_
  rintro e w4 ⟨ov, D2, v4, rfl, ho, hi⟩
  have ho' : Row D2 w4 ov [] := ho
  have hi' : Inv W0 w4 x w1.heap.size ⟨.slice (some ⟨sb, 0, none⟩) 1 scap, 10, v4, true, 100, 90, 2, 0, 0, 0, 0⟩ [sC] [e2, e1] := hi
  obtain ⟨A2, c2, rfl⟩ := ho'.slice
  have HP3 := Lib.hid (push_more x w1.heap.size sb scap 1 _ [sC] [e2, e1] 2 0 3 111 111 111 sC W0 w4 hi' rfl rfl hsb2 rfl (by omega) rfl (by omega) (by simp [e1, e2]) unw3.1 unw3.2.1 unw3.2.2.1 unw3.2.2.2 (by omega) (by omega) (by omega) (by omega) (by decide) (by decide) (by decide) rfl (by simp only; omega) (by simp only; omega) (by simp only; omega) (by simp only; omega) (by simp only; omega) (by simp only; omega) (by simp only; omega) (by simp only; omega) (by simp only; omega))
  clear ho ho' hi hi' HP2 HI2
  go_wp2_with fail
  refine HP3.out.mono ?_
  rintro e w5 ⟨ov, D3, v5, rfl, ho, hi⟩
  have ho' : Row D3 w5 ov [e2, e1] := ho
  have hi' : Inv W0 w5 x w1.heap.size ⟨.slice (some ⟨sb, 0, none⟩) 1 scap, 10, v5, true, 111, 101, 3, 0, 0, 0, 2⟩ [tkL sC 3 111] [e3] := hi
  obtain ⟨g, cap, rfl, -, hpl⟩ := ho'.pl (by simp)
  have k0 := (hpl.cells (i := 0) (e := e2) rfl).1
  have k1 := (hpl.cells (i := 1) (e := e1) rfl).1
  simp only [Nat.zero_mul, e1, e2] at k0 k1
  have HE := Lib.hid (HB0.out.trans (hi'.bel.mono (by show w.heap.size ≤ lo x (.slice (some ⟨sb, 0, none⟩) 1 scap); rw [HLO.out]; have := HS0.out; have := HX.out; omega)))
  clear ho ho' hi hi' HP3 hpl
  go_wp2_with fail
  go_ret
  exact ⟨rfl, HE.out⟩
end Go.Proofs.YtebacmmfjadalaaGreat

namespace Go.Proofs.YtebacmmfjadalaaGreat
open Go Go.RowKit

/-- no joiner, or one that nobody made -/
def NoJ (px : Value) (w : World) : Prop := px = .pointer none ∨ ∃ x, px = .pointer (some ⟨x, 0, none⟩) ∧ x < w.heap.size ∧ w.cell? ⟨x, 11, none⟩ = some (.bool false)
theorem NoJ.below {px : Value} {w w' : World} (h : NoJ px w) (hb : Below w.heap.size w w') : NoJ px w' := by
  rcases h with h | ⟨x, h, hx, hc⟩
  · exact .inl h
  · exact .inr ⟨x, h, Nat.lt_of_lt_of_le hx hb.size, (hb.cell (p := ⟨x, 11, none⟩) hx).trans hc⟩
theorem ready_no (px : Value) (w : World) (h : NoJ px w) : Calls Tryz.prog 29 #[px] w fun e w' => e = .returned (.bool false) ∧ w = w' := by
  rcases h with rfl | ⟨x, rfl, hx, hc⟩
  · exact ready_none w
  · exact ready_any x false w hc

set_option maxRecDepth 100000 in
set_option maxHeartbeats 1000000 in
theorem push_no (px : Value) (se sq st : Int) (A : Option Addr) (n c : Nat) (w : World) (h : NoJ px w) : Calls Tryz.prog 12 #[px, .agg #[.int .i64 se, .int .u32 sq, .int .u32 st, .slice A n c]] w fun e w' => e = .returned (.tuple #[.int .i64 0, .slice none 0 0, .int .i64 232]) ∧ Below w.heap.size w w' := by
  have HN := Lib.hid h
  clear h
  go_enter Tryz.func12, Tryz.ntmps12
  go_wp2_with fail
  refine (ready_no px _ (HN.out.below ((Below.refl w.heap.size w).alloc (Nat.le_refl _) _))).mono ?_
  rintro e w1 ⟨rfl, rfl⟩
  go_wp2_with fail
  go_ret3
  exact ⟨rfl, ((Below.refl w.heap.size w).alloc (Nat.le_refl _) _)⟩
set_option maxHeartbeats 1000000 in
theorem horizon_no (px : Value) (w : World) (h : NoJ px w) : Calls Tryz.prog 23 #[px] w fun e w' => e = .returned (.tuple #[.int .i64 0, .bool false]) ∧ Below w.heap.size w w' := by
  have HN := Lib.hid h
  clear h
  go_enter Tryz.func23, Tryz.ntmps23
  go_wp2_with fail
  refine (ready_no px _ (HN.out.below (Below.refl w.heap.size w))).mono ?_
  rintro e w1 ⟨rfl, rfl⟩
  go_wp2_with fail
  go_ret2
  exact ⟨rfl, (Below.refl w.heap.size w)⟩
set_option maxHeartbeats 1000000 in
theorem flush_no (px : Value) (w : World) (h : NoJ px w) : Calls Tryz.prog 16 #[px] w fun e w' => e = .returned (.slice none 0 0) ∧ Below w.heap.size w w' := by
  have HN := Lib.hid h
  clear h
  go_enter Tryz.func16, Tryz.ntmps16
  go_wp2_with fail
  refine (ready_no px _ (HN.out.below (Below.refl w.heap.size w))).mono ?_
  rintro e w1 ⟨rfl, rfl⟩
  go_wp2_with fail
  go_ret
  exact ⟨rfl, (Below.refl w.heap.size w)⟩
set_option maxHeartbeats 1000000 in
theorem waiting_no (px : Value) (w : World) (h : NoJ px w) : Calls Tryz.prog 45 #[px] w fun e w' => e = .returned (.slice none 0 0) ∧ Below w.heap.size w w' := by
  have HN := Lib.hid h
  clear h
  go_enter Tryz.func45, Tryz.ntmps45
  go_wp2_with fail
  refine (ready_no px _ (HN.out.below (Below.refl w.heap.size w))).mono ?_
  rintro e w1 ⟨rfl, rfl⟩
  go_wp2_with fail
  go_ret
  exact ⟨rfl, (Below.refl w.heap.size w)⟩
set_option maxHeartbeats 1000000 in
theorem seen_no (px : Value) (se sq : Int) (w : World) (h : NoJ px w) : Calls Tryz.prog 47 #[px, .int .i64 se, .int .u32 sq] w fun e w' => e = .returned (.bool false) ∧ Below w.heap.size w w' := by
  have HN := Lib.hid h
  clear h
  go_enter Tryz.func47, Tryz.ntmps47
  go_wp2_with fail
  refine (ready_no px _ (HN.out.below (Below.refl w.heap.size w))).mono ?_
  rintro e w1 ⟨rfl, rfl⟩
  go_wp2_with fail
  go_ret
  exact ⟨rfl, (Below.refl w.heap.size w)⟩
set_option maxHeartbeats 1000000 in
theorem clone_no (px : Value) (w : World) (h : NoJ px w) : Calls Tryz.prog 19 #[px] w fun e w' => e = .returned (.pointer none) ∧ Below w.heap.size w w' := by
  have HN := Lib.hid h
  clear h
  go_enter Tryz.func19, Tryz.ntmps19
  go_wp2_with fail
  refine (ready_no px _ (HN.out.below (Below.refl w.heap.size w))).mono ?_
  rintro e w1 ⟨rfl, rfl⟩
  go_wp2_with fail
  go_ret
  exact ⟨rfl, (Below.refl w.heap.size w)⟩
set_option maxHeartbeats 1000000 in
theorem counts_no (px : Value) (w : World) (h : NoJ px w) : Calls Tryz.prog 46 #[px] w fun e w' => e = .returned (.agg #[.int .i64 0, .int .i64 0, .int .i64 0, .int .i64 0, .int .i64 0]) ∧ Below w.heap.size w w' := by
  have HN := Lib.hid h
  clear h
  go_enter Tryz.func46, Tryz.ntmps46
  go_wp2_with fail
  refine (ready_no px _ (HN.out.below ((Below.refl w.heap.size w).alloc (Nat.le_refl _) _))).mono ?_
  rintro e w1 ⟨rfl, rfl⟩
  go_wp2_with fail
  exact bodyPost_ret (by simp only [results, Tryz.results46]; simp [go_sem]; try rfl) rfl ⟨rfl, ((Below.refl w.heap.size w).alloc (Nat.le_refl _) _)⟩
end Go.Proofs.YtebacmmfjadalaaGreat

namespace Go.Proofs.YtebacmmfjadalaaGreat
open Go Go.RowKit Go.WideShapes

theorem infoF : (Tryz.prog.info? 114).map (fun i => (i.zero, i.size, i.bytes)) = some (some (.float .f64 0), 1, 8) := by kernel_rfl
theorem run_frombits (n : Int) (w : World) : Sem.run Tryz.prog (callFunc 49 #[.int .u64 n]) w = .ok (.value (.float .f64 n.toNat)) w :=
  (run_callFunc_extern (e := Extern.MathFloatBits.float64frombits) Tryz.func49 (by kernel_rfl) (by kernel_rfl) (by kernel_rfl) (by kernel_rfl) _ _).trans rfl
theorem float_new (w : World) (f : Nat) (T : TypeId) : ∀ j u, [(Value.float .f64 f)][j]? = some u → (w.alloc (.cells #[.float .f64 f] T)).cell? ((⟨w.heap.size, 0, none⟩ : Addr).add j) = some u := by
  intro j u h
  have hj : j = 0 := by
    have := (List.getElem?_eq_some_iff.1 h).1
    simp at this
    omega
  subst hj
  simp at h
  subst h
  rw [Go.WideShapes.add_plain, Nat.zero_add]
  simp [go_sem]

theorem ownsRow_below {w w' : World} {B : Nat} {e : TypeId} {sz n : Nat} {v : Value} {xs : List Value} (h : w.ownsRow B e sz v n xs) (hb : Below w.heap.size w w') : w'.ownsRow B e sz v n xs := by
  refine ⟨h.1, ?_⟩
  rcases h.2 with hn | ⟨g, cap, cur, hv, h1, h2, h3⟩
  · exact .inl hn
  · exact .inr ⟨g, cap, cur, hv, h1, (hb.block g (Array.getElem?_eq_some_iff.1 h2).1).trans h2, h3⟩
theorem ownsRow_base {w : World} {B : Nat} {e : TypeId} {sz n : Nat} {v : Value} {xs : List Value} (h : w.ownsRow B e sz v n xs) : ∀ k, v.ownBlock = some k → B ≤ k := by
  intro k hk
  rcases h.2 with ⟨hn, -⟩ | ⟨g, cap, cur, hv, h1, -⟩
  · rw [hn] at hk; simp [Value.ownBlock] at hk
  · rw [hv] at hk
    simp only [Value.ownBlock] at hk
    injection hk with hk
    omega

set_option maxRecDepth 8000 in
set_option maxHeartbeats 2000000 in
theorem of64_any (A : Option Addr) (n c : Nat) (ts : List Int) (w : World) (hn : ts.length = n) (hc : ∀ i, i < n → ∃ b off, A = some ⟨b, off, none⟩ ∧ b < w.heap.size ∧ w.cell? ⟨b, off + i, none⟩ = some (.int .u64 (ts.getD i 0))) (hl : n * 8 ≤ 140737488355328) :
    Calls Tryz.prog 24 #[.slice A n c] w fun e w' => (∃ B m k, e = .returned (.slice B m k)) ∧ Below w.heap.size w w' := by
  have HC := Lib.hid hc
  have HN := Lib.hid hn
  clear hc hn
  go_enter Tryz.func24, Tryz.ntmps24
  go_wp2_with fail
  go_loopw [3, 8] (fun ov iv wr => ∃ (k : Nat) (fs : List Value), k ≤ n ∧ iv = .int .i64 (k : Int) ∧ Hid (wr.ownsRow w.heap.size 114 1 ov k fs ∧ Below w.heap.size w wr)) (fun _ iv _ => n - (intOf iv).toNat)
  case atStart => exact ⟨0, [], by omega, rfl, Lib.hid ⟨World.ownsRow_nil _ _ _ _, Below.refl _ _⟩⟩
  case round =>
    obtain ⟨k, fs, hk, rfl, hh⟩ := hrel
    by_cases hlt : k < n
    · obtain ⟨b, off, rfl, hb, hcell⟩ := HC.out k hlt
      obtain ⟨y, hy⟩ : ∃ y, ts.getD k 0 = y := ⟨_, rfl⟩
      rw [hy] at hcell
      have hcr := (hh.out.2.cell (p := ⟨b, off + k, none⟩) hb).trans hcell
      have hki : (k : Int) < (n : Int) := by omega
      clear hcell hy
      have hfb := run_frombits y
      obtain ⟨i0, hi0, hz0, hz1, hz2⟩ := info_parts infoF
      have HBX := Lib.hid ((Below.refl wr.heap.size wr).alloc (Nat.le_refl _) (.cells #[.float .f64 y.toNat] 114))
      have HRX := Lib.hid (ownsRow_below hh.out.1 HBX.out)
      have hwr := hh.out.2.size
      go_wp2_with (at_builtin; refine wpList_append_own _ rfl _ _ 36 rfl w.heap.size 114 i0 _ 1 8 Tryz.underlying36 hi0 hz0 hz1 hz2 rfl (by omega) u3 k fs rfl HRX.out ⟨wr.heap.size, 0, none⟩ 1 1 [.float .f64 y.toNat] rfl rfl (float_new _ _ _) (by simp [Value.oneCell']) (by simp only [maxLen]; omega) (by omega) (Nat.le_trans hwr HBX.out.size) ?_; intro v' w3 hr3 hg3 ha3; have HR3 := Lib.hid (And.intro hr3 hg3); clear hr3 hg3 ha3)
      go_roundw
      case rel => exact ⟨k + 1, fs ++ [.float .f64 y.toNat], by omega, by go_num, Lib.hid ⟨HR3.out.1, (hh.out.2.trans (HBX.out.mono hwr)).grown HR3.out.2 (Nat.le_trans hwr HBX.out.size) (ownsRow_base hh.out.1)⟩⟩
      case measure => simp [intOf]; omega
    · have hkn : k = n := by omega
      subst hkn
      have hsl : ∃ A' c', u3 = .slice A' k c' := by
        rcases hh.out.1.2 with ⟨h1, h2⟩ | ⟨g, cap, cur, h1, -⟩
        · exact ⟨none, 0, by rw [h1, h2]⟩
        · exact ⟨_, _, h1⟩
      obtain ⟨A', c', rfl⟩ := hsl
      go_wp2_with fail
      go_ret
      exact ⟨⟨_, _, _, rfl⟩, hh.out.2⟩
end Go.Proofs.YtebacmmfjadalaaGreat

namespace Go.Proofs.YtebacmmfjadalaaGreat
open Go Go.RowKit

theorem four_kept {w : World} {b : Nat} {v0 v1 v2 v3 : Value} (i : Nat) : ((((w.setCell ⟨b + 1, 0, none⟩ v0).setCell ⟨b + 1, 1, none⟩ v1).setCell ⟨b + 1, 2, none⟩ v2).setCell ⟨b + 1, 3, none⟩ v3).cell? ⟨b, i, none⟩ = w.cell? ⟨b, i, none⟩ := by
  have e : ∀ (W : World) (k : Nat) (v : Value), (W.setCell ⟨b + 1, k, none⟩ v).cell? ⟨b, i, none⟩ = W.cell? ⟨b, i, none⟩ := fun W k v => World.cell?_setCell_other _ _ _ _ (by intro e; injection e with e _ _; omega)
  exact (e _ _ _).trans ((e _ _ _).trans ((e _ _ _).trans (e _ _ _)))

set_option maxRecDepth 8000 in
set_option maxHeartbeats 2000000 in
theorem of_any (se sq st : Int) (A : Option Addr) (n c : Nat) (ts : List Int) (w : World) (hn : ts.length = n) (hc : ∀ i, i < n → ∃ b off, A = some ⟨b, off, none⟩ ∧ b < w.heap.size ∧ w.cell? ⟨b, off + i, none⟩ = some (.int .u64 (ts.getD i 0))) (hl : n * 8 ≤ 140737488355328) :
    Calls Tryz.prog 9 #[.agg #[.int .i64 se, .int .u32 sq, .int .u32 st, .slice A n c]] w fun e w' => (∃ B m k, e = .returned (.agg #[.int .i64 se, .int .u32 sq, .int .u32 st, .slice B m k])) ∧ Below w.heap.size w w' := by
  have hb := ((Below.refl w.heap.size w).alloc (Nat.le_refl _) (.cells #[.int .i64 se, .int .u32 sq, .int .u32 st, .slice A n c] 35)).alloc (by simp) (.cells #[.int .i64 0, .int .u32 0, .int .u32 0, .slice none 0 0] 38)
  have HO := Lib.hid (fun W (hW : Below w.heap.size w W) => of64_any A n c ts W hn (fun i hi => by
    obtain ⟨b, off, h1, h2, h3⟩ := hc i hi
    exact ⟨b, off, h1, Nat.lt_of_lt_of_le h2 hW.size, (hW.cell (p := ⟨b, off + i, none⟩) h2).trans h3⟩) hl)
  have HB := Lib.hid hb
  clear hb hc hn
  go_enter Tryz.func9, Tryz.ntmps9
  go_wp2_with fail
  have HC := Lib.hid (show ((w.alloc (.cells #[.int .i64 se, .int .u32 sq, .int .u32 st, .slice A n c] 35)).alloc (.cells #[.int .i64 0, .int .u32 0, .int .u32 0, .slice none 0 0] 38)).drew.cell? ⟨w.heap.size, 0, none⟩ = some (.int .i64 se) ∧ ((w.alloc (.cells #[.int .i64 se, .int .u32 sq, .int .u32 st, .slice A n c] 35)).alloc (.cells #[.int .i64 0, .int .u32 0, .int .u32 0, .slice none 0 0] 38)).drew.cell? ⟨w.heap.size, 1, none⟩ = some (.int .u32 sq) ∧ ((w.alloc (.cells #[.int .i64 se, .int .u32 sq, .int .u32 st, .slice A n c] 35)).alloc (.cells #[.int .i64 0, .int .u32 0, .int .u32 0, .slice none 0 0] 38)).drew.cell? ⟨w.heap.size, 2, none⟩ = some (.int .u32 st) ∧ ((w.alloc (.cells #[.int .i64 se, .int .u32 sq, .int .u32 st, .slice A n c] 35)).alloc (.cells #[.int .i64 0, .int .u32 0, .int .u32 0, .slice none 0 0] 38)).drew.cell? ⟨w.heap.size, 3, none⟩ = some (.slice A n c) from by simp [go_sem])
  have hz : ∀ i, ((w.alloc (.cells #[.int .i64 se, .int .u32 sq, .int .u32 st, .slice A n c] 35)).alloc (.cells #[.int .i64 0, .int .u32 0, .int .u32 0, .slice none 0 0] 38)).frozen? ⟨w.heap.size + 1, i, none⟩ = false := fun i => by simp [go_sem]
  have hr : ((w.alloc (.cells #[.int .i64 se, .int .u32 sq, .int .u32 st, .slice A n c] 35)).alloc (.cells #[.int .i64 0, .int .u32 0, .int .u32 0, .slice none 0 0] 38)).cell? ⟨w.heap.size + 1, 0, none⟩ = some (.int .i64 0) ∧ ((w.alloc (.cells #[.int .i64 se, .int .u32 sq, .int .u32 st, .slice A n c] 35)).alloc (.cells #[.int .i64 0, .int .u32 0, .int .u32 0, .slice none 0 0] 38)).cell? ⟨w.heap.size + 1, 1, none⟩ = some (.int .u32 0) ∧ ((w.alloc (.cells #[.int .i64 se, .int .u32 sq, .int .u32 st, .slice A n c] 35)).alloc (.cells #[.int .i64 0, .int .u32 0, .int .u32 0, .slice none 0 0] 38)).cell? ⟨w.heap.size + 1, 2, none⟩ = some (.int .u32 0) ∧ ((w.alloc (.cells #[.int .i64 se, .int .u32 sq, .int .u32 st, .slice A n c] 35)).alloc (.cells #[.int .i64 0, .int .u32 0, .int .u32 0, .slice none 0 0] 38)).cell? ⟨w.heap.size + 1, 3, none⟩ = some (.slice none 0 0) := by simp [go_sem]
  have hsz : w.heap.size + 1 < ((w.alloc (.cells #[.int .i64 se, .int .u32 sq, .int .u32 st, .slice A n c] 35)).alloc (.cells #[.int .i64 0, .int .u32 0, .int .u32 0, .slice none 0 0] 38)).heap.size := by simp
  generalize (w.alloc (.cells #[.int .i64 se, .int .u32 sq, .int .u32 st, .slice A n c] 35)).alloc (.cells #[.int .i64 0, .int .u32 0, .int .u32 0, .slice none 0 0] 38) = W0 at *
  have HR := Lib.hid (And.intro hz (And.intro hr hsz))
  clear hz hr hsz
  go_region_held3 (fun w' => w'.cell? ⟨w.heap.size, 0, none⟩ = some (.int .i64 se) ∧ w'.cell? ⟨w.heap.size, 1, none⟩ = some (.int .u32 sq) ∧ w'.cell? ⟨w.heap.size, 2, none⟩ = some (.int .u32 st) ∧ w'.cell? ⟨w.heap.size, 3, none⟩ = some (.slice A n c))
    (first | exact HC.out | exact ⟨(hk 0).trans HC.out.1, (hk 1).trans HC.out.2.1, (hk 2).trans HC.out.2.2.1, (hk 3).trans HC.out.2.2.2⟩ | exact ⟨(hks 0).trans HC.out.1, (hks 1).trans HC.out.2.1, (hks 2).trans HC.out.2.2.1, (hks 3).trans HC.out.2.2.2⟩)
    (first | (go_at_call 24; refine (HO.out _ HB.out.drew).mono ?_; rintro e w1 ⟨⟨B, m, k, rfl⟩, hb1⟩; have hk : ∀ i, w1.cell? ⟨w.heap.size, i, none⟩ = W0.drew.cell? ⟨w.heap.size, i, none⟩ := (fun i => hb1.cell (p := ⟨w.heap.size, i, none⟩) (Nat.lt_of_succ_lt HR.out.2.2)); have y0 := (hb1.cell (p := ⟨w.heap.size + 1, 0, none⟩) HR.out.2.2).trans HR.out.2.1.1; have y1 := (hb1.cell (p := ⟨w.heap.size + 1, 1, none⟩) HR.out.2.2).trans HR.out.2.1.2.1; have y2 := (hb1.cell (p := ⟨w.heap.size + 1, 2, none⟩) HR.out.2.2).trans HR.out.2.1.2.2.1; have y3 := (hb1.cell (p := ⟨w.heap.size + 1, 3, none⟩) HR.out.2.2).trans HR.out.2.1.2.2.2; have yz := (fun i => (hb1.frozen (p := ⟨w.heap.size + 1, i, none⟩) HR.out.2.2).trans (HR.out.1 i)); have hks := four_kept (w := w1) (b := w.heap.size) (v0 := .int .i64 se) (v1 := .int .u32 sq) (v2 := .int .u32 st) (v3 := .slice B m k); have hks := (fun i => (hks i).trans (hk i))))
  have hB1 : Below w.heap.size w w1 := HB.out.drew.trans (hb1.mono HB.out.size)
  have HE := Lib.hid ((((hB1.setCell (p := ⟨w.heap.size + 1, 0, none⟩) (Nat.le_succ _) (.int .i64 se)).setCell (p := ⟨w.heap.size + 1, 1, none⟩) (Nat.le_succ _) (.int .u32 sq)).setCell (p := ⟨w.heap.size + 1, 2, none⟩) (Nat.le_succ _) (.int .u32 st)).setCell (p := ⟨w.heap.size + 1, 3, none⟩) (Nat.le_succ _) (.slice B m k))
  clear hk hks yz hb1 hB1 HR HC HB HO
  go_wp2_with fail
  exact bodyPost_ret (by simp only [results, Tryz.results9]; simp [go_sem, y0, y1, y2, y3]; try rfl) rfl ⟨⟨B, m, k, rfl⟩, HE.out⟩
end Go.Proofs.YtebacmmfjadalaaGreat

namespace Go.Proofs.YtebacmmfjadalaaGreat
open Go Go.RowKit

abbrev fmt : Value := .agg #[.int .u64 52, .int .i64 2047, .int .i64 1075]
theorem run_bits (f : Nat) (w : World) : Sem.run Tryz.prog (callFunc 88 #[.float .f64 f]) w = .ok (.value (.int .u64 f)) w :=
  (run_callFunc_extern (e := Extern.MathFloatBits.float64bits) Tryz.func88 (by kernel_rfl) (by kernel_rfl) (by kernel_rfl) (by kernel_rfl) _ _).trans rfl

theorem index_fmt (w : World) : Sem.run Tryz.prog (Instr.index 185 (.agg #[.int .u64 52, .int .i64 2047, .int .i64 1075, .int .u64 23, .int .i64 255, .int .i64 150]) (.int .i64 0)) w = .ok fmt w := by kernel_rfl
set_option maxRecDepth 100000 in
theorem of_dbl (w : World) : Calls Tryz.prog 89 #[.int .i64 0] w fun e w' => e = .returned fmt ∧ Below w.heap.size w w' := by
  have hix := index_fmt
  go_enter Tryz.func89, Tryz.ntmps89
  go_wp2_with fail
  exact bodyPost_ret (by simp only [results, Tryz.results89]; simp [go_sem]; try rfl) rfl ⟨rfl, (Below.refl w.heap.size w).alloc (Nat.le_refl _) _⟩

theorem hidden_dbl (w : World) : Calls Tryz.prog 120 #[fmt] w fun e w' => e = .returned (.int .u64 4503599627370496) ∧ Below w.heap.size w w' := by
  go_enter Tryz.func120, Tryz.ntmps120
  go_wp2_with fail
  go_ret
  exact ⟨rfl, (Below.refl _ _).alloc (Nat.le_refl _) _⟩
theorem sign_dbl (w : World) : Calls Tryz.prog 119 #[fmt] w fun e w' => e = .returned (.int .u64 9223372036854775808) ∧ Below w.heap.size w w' := by
  go_enter Tryz.func119, Tryz.ntmps119
  go_wp2_with fail
  go_ret
  exact ⟨rfl, (Below.refl _ _).alloc (Nat.le_refl _) _⟩
theorem infinite_dbl (w : World) : Calls Tryz.prog 127 #[fmt] w fun e w' => e = .returned (.int .u64 9218868437227405312) ∧ Below w.heap.size w w' := by
  go_enter Tryz.func127, Tryz.ntmps127
  go_wp2_with fail
  go_ret
  exact ⟨rfl, (Below.refl _ _).alloc (Nat.le_refl _) _⟩

def FmtAt (w : World) (g : Nat) : Prop := g < w.heap.size ∧ w.cell? ⟨g, 0, none⟩ = some (.int .u64 52) ∧ w.cell? ⟨g, 1, none⟩ = some (.int .i64 2047) ∧ w.cell? ⟨g, 2, none⟩ = some (.int .i64 1075)
theorem FmtAt.below {w w' : World} {g : Nat} (h : FmtAt w g) (hb : Below w.heap.size w w') : FmtAt w' g :=
  ⟨Nat.lt_of_lt_of_le h.1 hb.size, (hb.cell (p := ⟨g, 0, none⟩) h.1).trans h.2.1, (hb.cell (p := ⟨g, 1, none⟩) h.1).trans h.2.2.1, (hb.cell (p := ⟨g, 2, none⟩) h.1).trans h.2.2.2⟩
theorem fmt_at (w : World) (T : TypeId) : FmtAt (w.alloc (.cells #[.int .u64 52, .int .i64 2047, .int .i64 1075] T)) w.heap.size := by
  unfold FmtAt
  simp [go_sem]
theorem fmt_below (w : World) (T : TypeId) : Below w.heap.size w (w.alloc (.cells #[.int .u64 52, .int .i64 2047, .int .i64 1075] T)) := (Below.refl _ _).alloc (Nat.le_refl _) _
theorem back_of {w W w' : World} (h : Below w.heap.size w W) (k : Below W.heap.size W w') : Below w.heap.size w w' := h.trans (k.mono h.size)

set_option maxRecDepth 100000 in
set_option maxHeartbeats 1000000 in
theorem none_dbl (w : World) : Calls Tryz.prog 125 #[fmt] w fun e w' => e = .returned (.int .u64 9221120237041090561) ∧ Below w.heap.size w w' := by
  have HF := Lib.hid (fmt_at w 164)
  have HB := Lib.hid (fmt_below w 164)
  go_enter Tryz.func125, Tryz.ntmps125
  go_wp2_with fail
  generalize w.alloc (.cells #[.int .u64 52, .int .i64 2047, .int .i64 1075] 164) = W0 at *
  have hc : Below W0.heap.size W0 W0.drew := (Below.refl _ _).drew
  go_region_held3 (fun w' => w'.cell? ⟨w.heap.size, 0, none⟩ = some (.int .u64 52) ∧ w'.cell? ⟨w.heap.size, 1, none⟩ = some (.int .i64 2047) ∧ w'.cell? ⟨w.heap.size, 2, none⟩ = some (.int .i64 1075))
    (first | exact HF.out.2 | exact (HF.out.below hc).2)
    (first | (go_at_call 127; refine (infinite_dbl _).mono ?_; rintro e w1 ⟨rfl, hb1⟩; replace hc := back_of hc hb1; clear hb1) | (go_at_call 120; refine (hidden_dbl _).mono ?_; rintro e w1 ⟨rfl, hb1⟩; replace hc := back_of hc hb1; clear hb1))
  go_wp2_with fail
  go_ret
  exact ⟨by kernel_rfl, back_of HB.out hc⟩

def nanV (b : Int) : Bool := decide (9218868437227405312 < bits .andNot .u64 b 9223372036854775808)
set_option maxRecDepth 100000 in
set_option maxHeartbeats 1000000 in
theorem nan_dbl (b : Int) (w : World) : Calls Tryz.prog 123 #[.int .u64 b, fmt] w fun e w' => e = .returned (.bool (nanV b)) ∧ Below w.heap.size w w' := by
  have HF := Lib.hid (fmt_at w 164)
  have HB := Lib.hid (fmt_below w 164)
  go_enter Tryz.func123, Tryz.ntmps123
  go_wp2_with fail
  generalize w.alloc (.cells #[.int .u64 52, .int .i64 2047, .int .i64 1075] 164) = W0 at *
  have hc : Below W0.heap.size W0 W0.drew := (Below.refl _ _).drew
  go_region_held3 (fun w' => w'.cell? ⟨w.heap.size, 0, none⟩ = some (.int .u64 52) ∧ w'.cell? ⟨w.heap.size, 1, none⟩ = some (.int .i64 2047) ∧ w'.cell? ⟨w.heap.size, 2, none⟩ = some (.int .i64 1075))
    (first | exact HF.out.2 | exact (HF.out.below hc).2)
    (first | (go_at_call 127; refine (infinite_dbl _).mono ?_; rintro e w1 ⟨rfl, hb1⟩; replace hc := back_of hc hb1; clear hb1) | (go_at_call 119; refine (sign_dbl _).mono ?_; rintro e w1 ⟨rfl, hb1⟩; replace hc := back_of hc hb1; clear hb1))
  go_wp2_with fail
  go_ret
  exact ⟨rfl, back_of HB.out hc⟩

def canonV (b : Int) : Int := if nanV b = true then 9221120237041090561 else b
set_option maxRecDepth 100000 in
set_option maxHeartbeats 1000000 in
theorem canon_dbl (b : Int) (w : World) : Calls Tryz.prog 118 #[.int .u64 b, fmt] w fun e w' => e = .returned (.int .u64 (canonV b)) ∧ Below w.heap.size w w' := by
  have HF := Lib.hid (fmt_at w 164)
  have HB := Lib.hid (fmt_below w 164)
  obtain ⟨q, hq⟩ : ∃ q, nanV b = q := ⟨_, rfl⟩
  have HQ := Lib.hid hq
  have HN := Lib.hid (fun W => nan_dbl b W)
  rw [hq] at HN
  go_enter Tryz.func118, Tryz.ntmps118
  go_wp2_with fail
  generalize w.alloc (.cells #[.int .u64 52, .int .i64 2047, .int .i64 1075] 164) = W0 at *
  obtain ⟨hg, f0, f1, f2⟩ := HF.out
  clear hq
  cases q
  · go_wp2_with fail
    refine (HN.out W0).mono ?_
    rintro e w1 ⟨rfl, hb1⟩
    go_wp2_with fail
    go_ret
    exact ⟨by unfold canonV; rw [HQ.out]; rfl, back_of HB.out hb1⟩
  · go_wp2_with fail
    refine (HN.out W0).mono ?_
    rintro e w1 ⟨rfl, hb1⟩
    obtain ⟨-, k0, k1, k2⟩ := HF.out.below hb1
    go_wp2_with fail
    refine (none_dbl w1).mono ?_
    rintro e w2 ⟨rfl, hb2⟩
    go_wp2_with fail
    go_ret
    exact ⟨by unfold canonV; rw [HQ.out]; rfl, back_of HB.out (back_of hb1 hb2)⟩
end Go.Proofs.YtebacmmfjadalaaGreat
