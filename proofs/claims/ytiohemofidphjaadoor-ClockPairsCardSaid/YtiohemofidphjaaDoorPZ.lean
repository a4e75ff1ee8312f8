/- ClockPairs: for every two clocks and every count the law answers true. Condition: the library's table of trailing zeros lies as its initialiser lays it (tied by the card). -/
import Derived.Test.YtiohemofidphjaaDoorPC
import Derived.Test.YtiohemofidphjaaDoorA6
import Derived.WalkKit
import Derived.ProofKit
import Derived.SizedLaws
import Derived.Lib.SmallJoins
import Derived.Test.YtiohemofidphjaaDoorRows
import Derived.OpenShut
import Derived.Test.YtiohemofidphjaaDoorS2
import Derived.Lib.LaidTab
import Derived.LaidMore
import Derived.Stop.Joined
import Derived.Test.YtiohemofidphjaaDoorTie
import Derived.Test.YtiohemofidphjaaDoorCards
import Derived.SevenTiedAt

namespace Go.Proofs.YtiohemofidphjaaDoor.Bg
open Go Go.RowKit

/-- one clock by another's times; the error's number -/
def thE (o n d p m k : Int) : Int := if Ck.okc o n d && Ck.okc p m k then (if rateOk (n * m).toNat (d * k).toNat then Ck.timeE p m k o else 130) else 130
def thO (o n d p m k : Int) : Int := if thE o n d p m k = 0 then Ck.timeV p m k o else 0
def thN (o n d p m k : Int) : Int := if thE o n d p m k = 0 then rateN (n * m).toNat (d * k).toNat else 0
def thD (o n d p m k : Int) : Int := if thE o n d p m k = 0 then rateD (n * m).toNat (d * k).toNat else 0
theorem th_ok {o n d p m k : Int} (kc : Ck.okc o n d = true) (kd : Ck.okc p m k = true) :
    (if rateOk (n * m).toNat (d * k).toNat then (if Ck.timeE p m k o = 0 then Value.tuple #[clk (Ck.timeV p m k o) (rateN (n * m).toNat (d * k).toNat) (rateD (n * m).toNat (d * k).toNat), .int .i64 0] else .tuple #[clk 0 0 0, .int .i64 (Ck.timeE p m k o)]) else .tuple #[clk 0 0 0, .int .i64 130]) =
    .tuple #[clk (thO o n d p m k) (thN o n d p m k) (thD o n d p m k), .int .i64 (thE o n d p m k)] := by
  have e : thE o n d p m k = if rateOk (n * m).toNat (d * k).toNat then Ck.timeE p m k o else 130 := by simp [thE, kc, kd]
  unfold thO thN thD
  rw [e]
  by_cases c : rateOk (n * m).toNat (d * k).toNat = true
  · rw [if_pos c, if_pos c]
    by_cases z : Ck.timeE p m k o = 0
    · rw [if_pos z, if_pos z, if_pos z, if_pos z, z]
    · rw [if_neg z, if_neg z, if_neg z, if_neg z]
  · rw [if_neg c, if_neg c]
    rfl
theorem th_bad {o n d p m k : Int} (h : (Ck.okc o n d && Ck.okc p m k) = false) : Value.tuple #[clk (thO o n d p m k) (thN o n d p m k) (thD o n d p m k), .int .i64 (thE o n d p m k)] = .tuple #[clk 0 0 0, .int .i64 130] := by
  have e : thE o n d p m k = 130 := by simp [thE, h]
  unfold thO thN thD
  rw [e]
  rfl

set_option maxRecDepth 8000 in
set_option maxHeartbeats 4000000 in
theorem then_any (o n d p m k : Int) (w : World) :
    Calls Tryd.prog 12 #[clk o n d, clk p m k] w fun e w' => e = .returned (.tuple #[clk (thO o n d p m k) (thN o n d p m k) (thD o n d p m k), .int .i64 (thE o n d p m k)]) ∧ Below w.heap.size w w' := by
  have h0 := Below.refl (((w.alloc (.cells #[.int .i64 o, .int .i64 n, .int .i64 d] 24)).alloc (.cells #[.int .i64 p, .int .i64 m, .int .i64 k] 24)).alloc (.cells #[.int .i64 0, .int .i64 0, .int .i64 0] 24)).heap.size (((w.alloc (.cells #[.int .i64 o, .int .i64 n, .int .i64 d] 24)).alloc (.cells #[.int .i64 p, .int .i64 m, .int .i64 k] 24)).alloc (.cells #[.int .i64 0, .int .i64 0, .int .i64 0] 24))
  by_cases kc : Ck.okc o n d = true
  · by_cases kd : Ck.okc p m k = true
    · rw [← th_ok kc kd]
      exact then_core o n d p m k w kc kd _ _ _ rfl rfl rfl _ _ rfl rfl
    · have kd' : Ck.okc p m k = false := by simpa using kd
      rw [th_bad (by simp [kd'])]
      have C1 := Lib.hid kc
      have C2 := Lib.hid kd'
      clear kc kd kd'
      unfold clk
      go_enter Tryd.func12, Tryd.ntmps12
      go_wp2_with fail
      refine (keep_in (check_ok _ _ _ _ C1.out) (by assumption)).mono ?_
      rintro e u1 ⟨rfl, hx1⟩
      obtain ⟨hcell1, hfrz1⟩ := bcell hx1
      go_wp2_with fail
      refine (keep_in (check_bad _ _ _ _ C2.out) (by assumption)).mono ?_
      rintro e u2 ⟨rfl, hxx⟩
      clear hx1 hcell1 hfrz1
      have HF := Lib.hid hxx
      obtain ⟨-, ⟨q4, q5, q6⟩, ⟨q7, q8, q9⟩, q10⟩ := th_cells HF.out
      clear h0
      go_wp2_with fail
      have hst := three_set (.int .i64 0) (.int .i64 0) (.int .i64 0) q4 q5 q6
      exact bodyPost_ret (by simp only [results, Tryd.results12]; simp [go_sem, hst.1, hst.2.1, hst.2.2]; try rfl) rfl ⟨rfl, th_end HF.out _ _ _⟩
  · have kc' : Ck.okc o n d = false := by simpa using kc
    rw [th_bad (by simp [kc'])]
    have C1 := Lib.hid kc'
    clear kc kc'
    unfold clk
    go_enter Tryd.func12, Tryd.ntmps12
    go_wp2_with fail
    refine (keep_in (check_bad _ _ _ _ C1.out) (by assumption)).mono ?_
    rintro e u1 ⟨rfl, hxx⟩
    have HF := Lib.hid hxx
    obtain ⟨-, ⟨q4, q5, q6⟩, ⟨q7, q8, q9⟩, q10⟩ := th_cells HF.out
    clear h0
    go_wp2_with fail
    have hst := three_set (.int .i64 0) (.int .i64 0) (.int .i64 0) q4 q5 q6
    exact bodyPost_ret (by simp only [results, Tryd.results12]; simp [go_sem, hst.1, hst.2.1, hst.2.2]; try rfl) rfl ⟨rfl, th_end HF.out _ _ _⟩

set_option maxRecDepth 8000 in
set_option maxHeartbeats 4000000 in
theorem rthen_any (o n d p m k : Int) (w : World) (hT : Tab w) :
    Calls Tryd.prog 13 #[clk o n d, clk p m k] w fun e w' => e = .returned (.tuple #[clk (thO o n d p m k) (thN o n d p m k) (thD o n d p m k), .int .i64 (thE o n d p m k)]) ∧ Below w.heap.size w w' := by
  have h0 := Below.refl (((w.alloc (.cells #[.int .i64 o, .int .i64 n, .int .i64 d] 24)).alloc (.cells #[.int .i64 p, .int .i64 m, .int .i64 k] 24)).alloc (.cells #[.int .i64 0, .int .i64 0, .int .i64 0] 24)).heap.size (((w.alloc (.cells #[.int .i64 o, .int .i64 n, .int .i64 d] 24)).alloc (.cells #[.int .i64 p, .int .i64 m, .int .i64 k] 24)).alloc (.cells #[.int .i64 0, .int .i64 0, .int .i64 0] 24))
  by_cases kc : Ck.okc o n d = true
  · by_cases kd : Ck.okc p m k = true
    · rw [← th_ok kc kd]
      exact rthen_core o n d p m k w hT kc kd _ _ _ rfl rfl rfl _ _ rfl rfl
    · have kd' : Ck.okc p m k = false := by simpa using kd
      rw [th_bad (by simp [kd'])]
      have C1 := Lib.hid kc
      have C2 := Lib.hid kd'
      clear kc kd kd'
      unfold clk
      go_enter Tryd.func13, Tryd.ntmps13
      go_wp2_with fail
      refine (keep_in (rcheck_ok _ _ _ _ C1.out) (by assumption)).mono ?_
      rintro e u1 ⟨rfl, hx1⟩
      obtain ⟨hcell1, hfrz1⟩ := bcell hx1
      go_wp2_with fail
      refine (keep_in (rcheck_bad _ _ _ _ C2.out) (by assumption)).mono ?_
      rintro e u2 ⟨rfl, hxx⟩
      clear hx1 hcell1 hfrz1
      have HF := Lib.hid hxx
      obtain ⟨-, ⟨q4, q5, q6⟩, ⟨q7, q8, q9⟩, q10⟩ := th_cells HF.out
      clear h0
      go_wp2_with fail
      have hst := three_set (.int .i64 0) (.int .i64 0) (.int .i64 0) q4 q5 q6
      exact bodyPost_ret (by simp only [results, Tryd.results13]; simp [go_sem, hst.1, hst.2.1, hst.2.2]; try rfl) rfl ⟨rfl, th_end HF.out _ _ _⟩
  · have kc' : Ck.okc o n d = false := by simpa using kc
    rw [th_bad (by simp [kc'])]
    have C1 := Lib.hid kc'
    clear kc kc'
    unfold clk
    go_enter Tryd.func13, Tryd.ntmps13
    go_wp2_with fail
    refine (keep_in (rcheck_bad _ _ _ _ C1.out) (by assumption)).mono ?_
    rintro e u1 ⟨rfl, hxx⟩
    have HF := Lib.hid hxx
    obtain ⟨-, ⟨q4, q5, q6⟩, ⟨q7, q8, q9⟩, q10⟩ := th_cells HF.out
    clear h0
    go_wp2_with fail
    have hst := three_set (.int .i64 0) (.int .i64 0) (.int .i64 0) q4 q5 q6
    exact bodyPost_ret (by simp only [results, Tryd.results13]; simp [go_sem, hst.1, hst.2.1, hst.2.2]; try rfl) rfl ⟨rfl, th_end HF.out _ _ _⟩

end Go.Proofs.YtiohemofidphjaaDoor.Bg

namespace Go.Proofs.YtiohemofidphjaaDoor
open Go Go.RowKit Bg

theorem fresh_clk (W : World) (o n d : Int) (T : TypeId) : (W.alloc (.cells #[.int .i64 o, .int .i64 n, .int .i64 d] T)).cell? ⟨W.heap.size, 0, none⟩ = some (.int .i64 o) ∧ (W.alloc (.cells #[.int .i64 o, .int .i64 n, .int .i64 d] T)).cell? ⟨W.heap.size, 1, none⟩ = some (.int .i64 n) ∧ (W.alloc (.cells #[.int .i64 o, .int .i64 n, .int .i64 d] T)).cell? ⟨W.heap.size, 2, none⟩ = some (.int .i64 d) ∧ (W.alloc (.cells #[.int .i64 o, .int .i64 n, .int .i64 d] T)).frozen? ⟨W.heap.size, 0, none⟩ = false ∧ W.heap.size < (W.alloc (.cells #[.int .i64 o, .int .i64 n, .int .i64 d] T)).heap.size := by
  refine ⟨?_, ?_, ?_, ?_, ?_⟩ <;> simp [go_sem]

set_option maxRecDepth 8000 in
set_option maxHeartbeats 4000000 in
theorem pairs_walk (o n d p m k c : Int) (w : World) (hT : Tab w) :
    Calls Tryd.prog 4 #[clk o n d, clk p m k, .int .i64 c] w fun e w' => e = .returned (.bool true) ∧ Below w.heap.size w w' := by
  have H1 := Lib.hid (fun W => drift_any o n d p m k W)
  have H2 := Lib.hid (fun W hW => rdrift_any o n d p m k W hW)
  have H3 := Lib.hid (fun W => apart_any o n d p m k c W)
  have H4 := Lib.hid (fun W => rapart_any o n d p m k c W)
  have H5 := Lib.hid (fun W => then_any o n d p m k W)
  have H6 := Lib.hid (fun W hW => rthen_any o n d p m k W hW)
  obtain ⟨V1, e1⟩ : ∃ x, driV o n d p m k = x := ⟨_, rfl⟩
  obtain ⟨V2, e2⟩ : ∃ x, driE o n d p m k = x := ⟨_, rfl⟩
  obtain ⟨V3, e3⟩ : ∃ x, apV o n d p m k c = x := ⟨_, rfl⟩
  obtain ⟨V4, e4⟩ : ∃ x, apE o n d p m k c = x := ⟨_, rfl⟩
  obtain ⟨T1, f1⟩ : ∃ x, thO o n d p m k = x := ⟨_, rfl⟩
  obtain ⟨T2, f2⟩ : ∃ x, thN o n d p m k = x := ⟨_, rfl⟩
  obtain ⟨T3, f3⟩ : ∃ x, thD o n d p m k = x := ⟨_, rfl⟩
  obtain ⟨T4, f4⟩ : ∃ x, thE o n d p m k = x := ⟨_, rfl⟩
  rw [e1, e2] at H1 H2
  rw [e3, e4] at H3 H4
  rw [f1, f2, f3, f4] at H5 H6
  clear e1 e2 e3 e4 f1 f2 f3 f4
  have HT := Lib.hid hT
  clear hT
  unfold clk at *
  go_enter Tryd.func4, Tryd.ntmps4
  go_wp2_with fail
  have hx0 := Below.refl ((w.alloc (.cells #[.int .i64 o, .int .i64 n, .int .i64 d] 24)).alloc (.cells #[.int .i64 p, .int .i64 m, .int .i64 k] 24)).heap.size ((w.alloc (.cells #[.int .i64 o, .int .i64 n, .int .i64 d] 24)).alloc (.cells #[.int .i64 p, .int .i64 m, .int .i64 k] 24))
  refine (keep_in (H1.out _) hx0).mono ?_
  rintro e u1 ⟨rfl, hx1⟩
  obtain ⟨hcell1, hfrz1⟩ := bcell hx1
  go_wp2_with fail
  refine (keep_in (H2.out _ (HT.out.below (below_a2 hx1))) hx1).mono ?_
  rintro e u2 ⟨rfl, hx2⟩
  obtain ⟨hcell2, hfrz2⟩ := bcell hx2
  go_wp2_with fail
  refine (keep_in (H3.out _) hx2).mono ?_
  rintro e u3 ⟨rfl, hx3⟩
  obtain ⟨hcell3, hfrz3⟩ := bcell hx3
  go_wp2_with fail
  refine (keep_in (H4.out _) hx3).mono ?_
  rintro e u4 ⟨rfl, hx4⟩
  obtain ⟨hcell4, hfrz4⟩ := bcell hx4
  go_wp2_with fail
  refine (keep_in (H5.out _) hx4).mono ?_
  rintro e u5 ⟨rfl, hx5⟩
  obtain ⟨hcell5, hfrz5⟩ := bcell_alloc hx5
  go_wp2_with fail
  refine (H6.out _ (HT.out.below (below_a2 (hx5.alloc hx5.size _)))).mono ?_
  rintro e u6 ⟨rfl, hb6⟩
  have hx6 := hx5.trans (((Below.refl _ _).alloc (Nat.le_refl _) (.cells #[.int .i64 T1, .int .i64 T2, .int .i64 T3] 24)).trans (hb6.mono (by simp)) |>.mono hx5.size)
  obtain ⟨q0, q1, q2, -, q4⟩ := fresh_clk u5 T1 T2 T3 24
  have c0 := (hb6.cell (p := ⟨u5.heap.size, 0, none⟩) (by exact q4)).trans q0
  have c1 := (hb6.cell (p := ⟨u5.heap.size, 1, none⟩) (by exact q4)).trans q1
  have c2 := (hb6.cell (p := ⟨u5.heap.size, 2, none⟩) (by exact q4)).trans q2
  have c3 := Nat.lt_of_lt_of_le q4 hb6.size
  clear hb6 q0 q1 q2 q4 hx1 hx2 hx3 hx4 hcell1 hcell2 hcell3 hcell4 hcell5 hfrz1 hfrz2 hfrz3 hfrz4 hfrz5
  have HX := Lib.hid (below_a2 hx6)
  clear hx6 hx5
  go_wp2_with (go_at_call 7; refine (awake_true _).mono ?_; rintro e u7 ⟨rfl, hb7⟩; have HB7 := Lib.hid hb7; clear hb7)
  go_ret
  exact ⟨by first | rfl | simp, (HX.out.alloc HX.out.size _).trans (HB7.out.mono (by have := HX.out.size; simp; omega))⟩
end Go.Proofs.YtiohemofidphjaaDoor

namespace Go.Proofs.YtiohemofidphjaaDoor.Ck
open Go Go.ChangeShapes Go.WideShapes Go.ChangeAt Go.RowKit
variable {H : Type} {enc : TypeId × Value → H} {P : Program}

theorem trodAll_below (hl : laidOutB P = true) {W W' : World} (hb : Below W.heap.size W W') : ∀ {ts : List TypeId} {vs : List Value} {ds : List (DataW H)} {ps : List MemPlace},
    (∀ t ∈ ts, P.readableRec t = true ∧ t < P.types.size) → (∀ x ∈ ps, x.block < W.heap.size) → DataW.TrodAll enc P W 0 (fun _ => true) true ts vs ds ps →
    DataW.TrodAll enc P W' 0 (fun b => decide (b < W.heap.size)) true ts vs ds ps
  | [], [], [], _, _, _, h => h
  | t :: ts, v :: vs, d :: ds, ps, hr, hlt, ⟨p, q, h1, h2, e⟩ => by
    subst e
    exact ⟨p, q, Below.trod hl (hr t (List.mem_cons_self ..)).1 (hr t (List.mem_cons_self ..)).2 h1 hb (fun x hx => hlt x (List.mem_append_left _ hx)),
      trodAll_below hl hb (fun t ht => hr t (List.mem_cons_of_mem _ ht)) (fun x hx => hlt x (List.mem_append_right _ hx)) h2, rfl⟩

/-- A law's end: it answered true, and below the first new block the world is as it was: so each argument reads as it did. -/
theorem law_post {f : Func} {s : ChangeSpec} {W W' : World} {args : Array Value} {ds : List (DataW H)} {before : List MemPlace} {tb : TypeId} {apart : Bool}
    (hl : laidOutB P = true) (hr : ∀ t ∈ f.params.toList, P.readableRec t = true ∧ t < P.types.size) (hrt : f.resultTypes = #[tb]) (ht : P.underlying tb = some .bool)
    (hs : s.vars = []) (hfn : s.fn H (ds ++ []) = { results := [.lit (.bool true)], args := ds })
    (hW : DataW.Whole enc P f.params.toList s.vars apart W args.toList ds [] before) (hb : Below W.heap.size W W') :
    s.post enc P f apart true false false W args (.bool true) W' := by
  have hW' := hW
  obtain ⟨p, q, hA, hV, rfl, hfz, hnd⟩ := hW
  rw [hs] at hV
  obtain ⟨-, rfl⟩ := trodVars_none hV
  simp only [List.append_nil] at hW'
  have hlt : ∀ x ∈ p, x.block < W.heap.size := fun x hx => hW'.lt x hx
  refine ⟨ds, [], p, [], p, [], hW', ?_, ?_, ?_, ?_, fun h => by cases h⟩
  · rw [hfn, hrt]
    exact trodAll_mk1 (shut_bool ht true)
  · rw [hfn]
    exact trodAll_below hl hb hr hlt hA
  · rw [hfn, hs]
    rfl
  · exact hb.frame _
end Go.Proofs.YtiohemofidphjaaDoor.Ck

namespace Go.Proofs.YtiohemofidphjaaDoor
open Go.ChangeShapes Go.WideShapes Go.ChangeAt Go.RowKit Go.Joins

theorem own : ownKnob Tryd.prog.godebug = none := by kernel_rfl
theorem cells_clock : Tryd.prog.cellsOf 24 = 3 := by kernel_rfl
theorem laid : laidOutB Tryd.prog = true := by kernel_rfl
def readableAll (P : Program) (ts : List TypeId) : Bool := ts.all fun t => P.readableRec t && decide (t < P.types.size)
theorem readable_of {P : Program} {ts : List TypeId} (h : readableAll P ts = true) : ∀ t ∈ ts, P.readableRec t = true ∧ t < P.types.size := by
  simpa [readableAll] using h

section
variable {H : Type} {enc : TypeId × Value → H}
set_option maxRecDepth 100000 in
theorem open_clock {W : World} {r : Reach} {b0 base : Nat} {sp : Nat → Bool} {held : Bool} {v : Value} {d : DataW H} {p : List MemPlace}
    (hv : Value.okWide Tryd.prog W r b0 24 v) (h : DataW.Trod enc Tryd.prog W base sp held 24 v d p) :
    ∃ o n k : Int, v = .agg #[.int .i64 o, .int .i64 n, .int .i64 k] ∧ (Lit.int .i64 o).wf = true ∧ (Lit.int .i64 n).wf = true ∧ (Lit.int .i64 k).wf = true := by
  obtain ⟨c0, c1, c2, y0, y1, y2, m, rfl, -, -, h0, h1, h2⟩ := open_agg3 Tryd.underlying24 (by kernel_rfl) cells_clock hv h
  obtain ⟨o, e0, -, w0⟩ := DataW.trod_int Tryd.underlying2 h0
  obtain ⟨n, e1, -, w1⟩ := DataW.trod_int Tryd.underlying2 h1
  obtain ⟨k, e2, -, w2⟩ := DataW.trod_int Tryd.underlying2 h2
  simp at e0 e1 e2
  subst e0 e1 e2
  exact ⟨o, n, k, rfl, w0, w1, w2⟩
end
end Go.Proofs.YtiohemofidphjaaDoor

namespace Go.Proofs.YtiohemofidphjaaDoor
open Go Go.RowKit Bg

def laidD : List (String × DataW Unit) := [("math/bits.deBruijn32tab", Rows.laid_math_bits_deBruijn32tab)]
theorem gTab : Tryd.prog.globalNamed "math/bits.deBruijn32tab" = some 2 := by kernel_rfl
theorem tTab : (Tryd.prog.globals[2]?).map (·.type) = some 114 := by kernel_rfl
theorem tab_data : (Rows.laid_math_bits_deBruijn32tab : DataW Unit) = Lib.tabData .u8 (Lib.deBruijn32tab.map fun n : Nat => (n : Int)) := rfl
theorem tab_cell {w : World} {a : Addr} {v : Value} (h : w.cell? a = some v) : a.block < w.heap.size := by
  rcases Nat.lt_or_ge a.block w.heap.size with h' | h'
  · exact h'
  · rw [World.cell?, Array.getElem?_eq_none h'] at h
    simp at h
theorem tab_of_laid {W : World} (h : laidMetH Tryd.prog laidD W) : Tab W := by
  rw [MakeChecks.laidMetH_plain _ _ _ (by kernel_rfl)] at h
  unfold laidD at h
  rw [tab_data] at h
  have ht := Lib.tabIs_of_head gTab tTab Tryd.underlying114 Tryd.underlying5 (by kernel_rfl) (by kernel_rfl) h
  have hc : ∀ j, j < 32 → W.cell? ⟨2, j, none⟩ = some (.int .u8 (Lib.deBruijn32tab.getD j 0 : Nat)) := fun j hj => by
    rw [ht.cell gTab j (by simpa [Lib.deBruijn32tab] using hj)]
    have hl : j < Lib.deBruijn32tab.length := by simpa [Lib.deBruijn32tab] using hj
    rw [List.getD_eq_getElem?_getD, List.getD_eq_getElem?_getD, List.getElem?_map, List.getElem?_eq_getElem hl]
    rfl
  exact ⟨tab_cell (hc 0 (by omega)), hc⟩
theorem door_met (os : Os) (args : Array Value) : laidMetH Tryd.prog laidD ((World.doorLaid Tryd.prog 14 os).forCall (fun _ _ => 0) ⟨#[], args, []⟩).memory :=
  laidMetH_of_parts3 (fuel := 8) (laidMet_of_run' 8 (by kernel_rfl) (by kernel_rfl)) (by kernel_rfl) (by kernel_rfl)
end Go.Proofs.YtiohemofidphjaaDoor

namespace Go.Proofs.YtiohemofidphjaaDoor
open Go Go.ChangeShapes Go.WideShapes Go.ChangeAt Go.RowKit Bg

set_option linter.unusedVariables false
set_option maxRecDepth 100000 in
theorem pairs_lifted (os : Os) (started : os.Started) (H : Type) (enc : TypeId × Value → H) :
    ReturnsInHanded {} Tryd.checked os 4 .any (fun w args => (Rows.clockPairsSpec.pre enc Tryd.prog Tryd.f4 [] false w args ∧ laidMetH Tryd.prog laidD w) ∧ sizedMet enc Tryd.prog Tryd.f4 (OpenSpec.ofChange Rows.clockPairsSpec) false w args)
      (Rows.clockPairsSpec.post enc Tryd.prog Tryd.f4 false true false false) := by
  refine returnsInHanded_of_change_and (C := Tryd.checked) (X := fun w _ => laidMetH Tryd.prog laidD w) (fun _ _ _ hh h => h.of_heap hh) own started (by kernel_rfl) Tryd.func4
    (ChangeSpec.witness_shaped (enc := enc) (C := Tryd.checked) (os := os) (X := fun w _ => laidMetH Tryd.prog laidD w) false (World.doorLaid Tryd.prog 14 os) #[.agg #[.int .i64 0, .int .i64 0, .int .i64 0], .agg #[.int .i64 0, .int .i64 0, .int .i64 0], .int .i64 0] 8 rfl (World.shaped_of_RefB (by kernel_rfl) (by kernel_rfl)) (by kernel_rfl) (by kernel_rfl) (by kernel_rfl) (door_met os _)) ?_
  intro W base args ds gs before hval0 hW _ hsz0 hL _
  have hval : ∀ (j : Nat) t v, Tryd.f4.params[j]? = some t → args[j]? = some v → Value.okWide Tryd.prog W .any base t v := hval0
  have hW' := hW
  obtain ⟨p, q, hA0, hV, rfl, hfz, hnd⟩ := hW
  have hA : DataW.TrodAll enc Tryd.prog W 0 (fun _ => true) true Tryd.f4.params.toList args.toList ds p := hA0
  rw [Tryd.params4] at hA hval hsz0
  obtain ⟨v0, v1, v2, d0, d1, d2, p0, p1, p2, rfl, rfl, rfl, h0, h1, h2⟩ := trodAll_three hA
  obtain ⟨rfl, rfl⟩ := trodVars_none hV
  obtain ⟨o0, n0, k0, rfl, -, -, -⟩ := open_clock (hval 0 24 v0 rfl rfl) h0
  obtain ⟨o1, n1, k1, rfl, -, -, -⟩ := open_clock (hval 1 24 v1 rfl rfl) h1
  obtain ⟨x2, rfl, rfl, rfl, wx2⟩ := open_int Tryd.underlying2 (hval 2 2 v2 rfl rfl) h2
  refine (pairs_walk o0 n0 k0 o1 n1 k1 x2 W (tab_of_laid hL)).mono fun e W' ⟨he, hb⟩ => ⟨_, he, ?_⟩
  exact Ck.law_post laid (readable_of (by kernel_rfl)) rfl Tryd.underlying4 rfl rfl hW' hb

theorem pairs_row_holds : Rows.ClockPairsSaid :=
  OpenClaim.holds_of_wide 4 Tryd.f4 rfl rfl rfl rfl rfl rfl rfl ⟨rfl, rfl, rfl, rfl, rfl⟩ rfl rfl rfl rfl rfl (by kernel_rfl) Tryd.func4 (by kernel_rfl)
    (of_decide_eq_true (by kernel_rfl)) (by unfold Func.isWrapper; first | (rw [if_pos (by decide +kernel)]; kernel_rfl) | (rw [if_neg (by decide +kernel)]; exact ⟨rfl, rfl⟩))
    (fun os started H enc _ => pairs_lifted os started H enc)

theorem pairs_holds : Rows.ClockPairsCardSaid :=
  Claim7.holds_tied_plain_at .later [] [.data] true (true, "94dd1c4d23c2355c678706adb217ccb133b6c32d99f4561745379aab0cf2949f") false
    pairs_row_holds (fun _ h => by cases h) (by kernel_rfl) (fun _ h => by cases h) clockPairs_row_tie rfl ⟨rfl, rfl⟩ (by kernel_rfl) rfl
    (fun f fn hf hfn => by
      obtain rfl : f = 4 := Option.some.inj ((show Tryd.prog.funcNamed "binnacle/binnaclelaw13.ClockPairs" = some 4 by kernel_rfl).symm.trans hf) |>.symm
      obtain rfl : fn = Tryd.f4 := (Option.some.inj (Tryd.func4.symm.trans hfn)).symm
      exact ⟨by kernel_rfl, fun j t ht => by
        rw [Tryd.params4] at ht
        have hm : t ∈ [24, 24, 2] := by simpa using Array.mem_of_getElem? ht
        have hall : ([24, 24, 2].all fun u => !Tryd.prog.wantsStandIn u) = true := by kernel_rfl
        exact (show Tryd.prog.wantsStandIn t = false by simpa using List.all_eq_true.1 hall t hm)⟩)
    (by kernel_rfl)
#print axioms pairs_holds
end Go.Proofs.YtiohemofidphjaaDoor
