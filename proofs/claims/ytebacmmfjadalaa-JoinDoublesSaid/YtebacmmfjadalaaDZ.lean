/- The tail of the claim: G4 G5 G6 G7 O2 T3 T4 T6 T7 T8 T9 DblF in one. -/
import Derived.Test.YtebacmmfjadalaaGA
import Derived.Test.YtebacmmfjadalaaLZ
import Derived.Test.YtebacmmfjadalaaJ22

namespace Go.Proofs.Ytebacmmfjadalaa
open Go Go.RowKit

theorem flush_none (x B : Nat) (j : Jn) (sns : List Sn) (xs : List El) (w0 w : World) (hi : Inv w0 w x B j sns xs) (hs : j.some = false) :
    Calls Try.prog 18 #[.pointer (some ⟨x, 0, none⟩)] w fun e w' => e = .returned (.slice none 0 0) ∧ Below w.heap.size w w' := by
  obtain ⟨g0, g1, g2, g3, g4, g5, ⟨g6, g7, g8, g9, g10⟩, g11⟩ := hi.jn
  rw [hs] at g3
  clear hi
  go_enter Try.func18, Try.ntmps18
  go_wp2_with fail
  refine (ready_any x true w g11).mono ?_
  rintro e w1 ⟨rfl, rfl⟩
  go_wp2_with fail
  go_ret
  exact ⟨rfl, Below.refl _ _⟩

/-- all that waits was told -/
structure Flsh (w w' : World) (x B : Nat) (j : Jn) (sns : List Sn) (xs : List El) (ov v' : Value) : Prop where
  out : Row w.heap.size w' ov (dueL cmpK (xs.length + 1) xs (j.top + 1) []).1
  inv : Inv w w' x B { j with hor := j.top + 1, wait := v', cs := j.cs + (dueL cmpK (xs.length + 1) xs (j.top + 1) []).1.length } sns (dueL cmpK (xs.length + 1) xs (j.top + 1) []).2
  vi : VI w' B v' ((dueL cmpK (xs.length + 1) xs (j.top + 1) []).1 ++ (dueL cmpK (xs.length + 1) xs (j.top + 1) []).2)
  ft : Ft w w' (fun k => k = x ∨ j.wait.ownBlock = some k)
  apart : ∀ g, ov.ownBlock = some g → v'.ownBlock ≠ some g
  own : v'.ownBlock = j.wait.ownBlock
theorem Inv.cnt5 {w W : World} {x B : Nat} {j : Jn} {sns : List Sn} {xs : List El} (h : Inv w W x B j sns xs) (m : Int) : Inv w (W.setCell ⟨x, 5, none⟩ (.int .i64 m)) x B { j with hor := m } sns xs := by
  obtain ⟨g0, g1, g2, g3, g4, g5, ⟨g6, g7, g8, g9, g10⟩, g11⟩ := h.jn
  exact h.cnt ⟨(set_ne (by omega)).trans g0, (set_ne (by omega)).trans g1, (set_ne (by omega)).trans g2, (set_ne (by omega)).trans g3, (set_ne (by omega)).trans g4, set_self g5, ⟨(set_ne (by omega)).trans g6, (set_ne (by omega)).trans g7, (set_ne (by omega)).trans g8, (set_ne (by omega)).trans g9, (set_ne (by omega)).trans g10⟩, (set_ne (by omega)).trans g11⟩ rfl rfl
/-- the row's block is apart from the sensors' -/
theorem Inv.due' {w W W' : World} {x B : Nat} {j : Jn} {sns : List Sn} {xs ys : List El} {v : Value} {m : Int} (h : Inv w W x B j sns xs) (hsb : ∀ g, j.sen.ownBlock = some g → x < g ∧ g < B) (hC : Ch W W' j.wait.ownBlock (fun a => a = ⟨x, 2, none⟩ ∨ a = ⟨x, 10, none⟩)) (hr : Row B W' v ys)
    (hc : W'.cell? ⟨x, 2, none⟩ = some v) (hm : W'.cell? ⟨x, 10, none⟩ = some (.int .i64 m)) : Inv w W' x B { j with wait := v, cs := m } sns ys := by
  have hxB := h.xB
  have hbig := h.big
  have hown : ∀ k, k < B → some k ≠ j.wait.ownBlock := fun k hk e => h.row.own hk e.symm
  have e : ∀ i, i ≠ 2 → i ≠ 10 → W'.cell? ⟨x, i, none⟩ = W.cell? ⟨x, i, none⟩ := fun i h1 h2 => hC.cell ⟨x, i, none⟩ (by show x < _; omega) (hown x hxB) (by rintro (q | q) <;> injection q with _ q _ <;> omega)
  obtain ⟨g0, g1, g2, g3, g4, g5, ⟨g6, g7, g8, g9, g10⟩, g11⟩ := h.jn
  refine ⟨⟨(e 0 (by omega) (by omega)).trans g0, (e 1 (by omega) (by omega)).trans g1, hc, (e 3 (by omega) (by omega)).trans g3, (e 4 (by omega) (by omega)).trans g4, (e 5 (by omega) (by omega)).trans g5, ⟨(e 6 (by omega) (by omega)).trans g6, (e 7 (by omega) (by omega)).trans g7, (e 8 (by omega) (by omega)).trans g8, (e 9 (by omega) (by omega)).trans g9, hm⟩, (e 11 (by omega) (by omega)).trans g11⟩,
    h.sn.heap (fun k h1 h2 h3 => ?_), hr, fun i => (hC.frozen ⟨x, i, none⟩ (by show x < _; omega) (hown x hxB)).trans (h.fz i), Nat.le_trans hbig hC.size, hxB, ?_⟩
  · obtain ⟨q1, q2⟩ := hsb k h2
    exact hC.block k h3 (hown k q2) (fun i hi => by rcases hi with hi | hi <;> injection hi with hi _ _ <;> omega)
  · exact ⟨hC.os.trans h.bel.os, hC.tape.trans h.bel.tape, hC.output.trans h.bel.output, Nat.le_trans h.bel.size hC.size, fun k hk => (hC.block k (by omega) (hown k (by omega)) (fun i hi => by rcases hi with hi | hi <;> injection hi with hi _ _ <;> omega)).trans (h.bel.block k hk)⟩

set_option maxRecDepth 8000 in
set_option maxHeartbeats 4000000 in
theorem flush_some (x B : Nat) (j : Jn) (sns : List Sn) (xs : List El) (w0 w : World) (hi : Inv w0 w x B j sns xs) (hvi : VI w B j.wait xs) (hsb : ∀ g, j.sen.ownBlock = some g → x < g ∧ g < B) (hs : j.some = true) (hm : xs.length ≤ 1099511627776) (k0 : 0 ≤ j.cs) (k1 : j.cs ≤ 4611686018427387904) (b3 : -2251799813685248 ≤ j.top) (b4 : j.top ≤ 2251799813685248) :
    Calls Try.prog 18 #[.pointer (some ⟨x, 0, none⟩)] w fun e w' => ∃ ov v', e = .returned ov ∧ Hid (Flsh w w' x B j sns xs ov v') := by
  have hxB := hi.xB
  have HI := Lib.hid hi.rebase
  have HV := Lib.hid hvi
  have HSB := Lib.hid hsb
  obtain ⟨S, win, V, sm, top, hor, ct, cd, co, cl, cs⟩ := j
  obtain ⟨g0, g1, g2, g3, g4, g5, ⟨g6, g7, g8, g9, g10⟩, g11⟩ := hi.jn
  simp only at g0 g1 g2 g3 g4 g5 g6 g7 g8 g9 g10 g11 hs k0 k1 b3 b4
  subst hs
  have gf := hi.fz 5
  have HI1 := Lib.hid (HI.out.cnt5 (top + 1))
  have HF1 := Lib.hid ((Ft.of_below (Below.refl w.heap.size w) (fun k => k = x ∨ V.ownBlock = some k)).set (p := ⟨x, 5, none⟩) (.inl rfl) (.int .i64 (top + 1)))
  clear hi hvi hsb
  go_enter Try.func18, Try.ntmps18
  go_wp2_with fail
  refine (ready_any x true w g11).mono ?_
  rintro e w1 ⟨rfl, rfl⟩
  go_wp2_with fail
  generalize hw1 : w.setCell ⟨x, 5, none⟩ (.int .i64 (top + 1)) = w1 at *
  have HV1 := Lib.hid (HV.out.ft HF1.out (fun k hk => hk.imp (fun e => by rw [e]; exact hxB) id))
  have HDU := Lib.hid (fun W (hI : Inv w W x B ⟨S, win, V, true, top, top + 1, ct, cd, co, cl, cs⟩ sns xs) hC =>
    due_walk cmpK B x V xs (top + 1) cs W hI.row hI.big hI.xB hI.jn.2.2.1 hI.jn.2.2.2.2.2.2.1.2.2.2.2 hI.fz hm k0 k1 hC)
  have HVD := Lib.hid (HV1.out.ft (w' := w1.drew) (Ft.of_below (Below.refl w1.heap.size w1).drew (fun _ => False)) (fun k hk => hk.elim))
  have hch' := HI1.out.jn.2.2.2.2.2.1
  simp only at hch'
  clear hw1 g0 g1 g2 g3 g4 g5 g6 g7 g8 g9 g10 g11 gf
  go_region_held3 (fun w' => w'.cell? ⟨x, 5, none⟩ = some (.int .i64 (top + 1)))
    (first | exact hch' | exact hk10)
    (first | (go_at_call 43; refine (HDU.out _ (HI1.out.below (Below.refl w1.heap.size w1).drew) (HVD.out.cmp hxB)).mono ?_; rintro e w10 ⟨ov, v10, rfl, ho, hr10, hc10, hv10, hs10, hch10⟩; have hI10 := (HI1.out.below (Below.refl w1.heap.size w1).drew).due' HSB.out hch10 hr10 hc10 hs10; have hk10 : w10.cell? ⟨x, 5, none⟩ = some (.int .i64 (top + 1)) := (hI10.jn.2.2.2.2.2.1)))
  have hft10 : Ft w1.drew w10 (fun k => k = x ∨ V.ownBlock = some k) := Ft.of_ch hch10 (by rintro a (rfl | rfl) <;> rfl)
  have HFIN := Lib.hid (And.intro (And.intro ho hI10) (And.intro hv10 hft10))
  obtain ⟨oA, oc, rfl⟩ := ho.slice
  clear ho hI10 hk10 hr10 hc10 hv10 hs10 hch10 hft10 hch' HDU
  go_wp2_with fail
  go_ret
  obtain ⟨⟨f1, f2⟩, f3, f4⟩ := HFIN.out
  refine ⟨_, v10, rfl, Lib.hid ⟨f1.mono HF1.out.size, f2, ?_, HF1.out.drew.then f4 (fun k _ h => h), fun g hg hq => ?_, f3⟩⟩
  · have hv := HVD.out.ft f4 (fun k hk => hk.imp (fun e => by rw [e]; exact hxB) id)
    intro e he
    rcases due_mem _ _ _ _ e he with h | h
    · simp at h
    · obtain ⟨h1, h2, h3, h4⟩ := hv e h
      exact ⟨h1, by rw [f3]; exact h2, h3, h4⟩
  · have h1 := (f1.lt hg).1
    have h2 : w1.heap.size ≤ g := h1
    rw [f3] at hq
    have h3 := (HI1.out.row.lt hq).2
    omega

set_option maxRecDepth 8000 in
theorem waiting_any (x B : Nat) (j : Jn) (sns : List Sn) (xs : List El) (w0 w : World) (hi : Inv w0 w x B j sns xs) (hvi : VI w B j.wait xs) (hm : xs.length ≤ 1099511627776) :
    Calls Try.prog 17 #[.pointer (some ⟨x, 0, none⟩)] w fun e w' => ∃ v' ys, e = .returned v' ∧ Hid (Row w.heap.size w' v' ys ∧ (ys.map El.key).Perm (xs.map El.key) ∧ ys.Pairwise (Le cmpK) ∧ (∀ a ∈ ys, ElOk w' a) ∧ Below w.heap.size w w') := by
  obtain ⟨g0, g1, g2, g3, g4, g5, ⟨g6, g7, g8, g9, g10⟩, g11⟩ := hi.jn
  have HP := Lib.hid (plist_any j.wait xs w hi.row.tl (fun e he => (hvi e he).1) hm)
  obtain ⟨A, c, hA⟩ := hi.row.slice
  rw [hA] at g2 HP
  clear hi hvi
  go_enter Try.func17, Try.ntmps17
  go_wp2_with fail
  refine (ready_any x true w g11).mono ?_
  rintro e w1 ⟨rfl, rfl⟩
  go_wp2_with fail
  refine HP.out.mono ?_
  rintro e w2 ⟨v', ys, rfl, h1, h2, h3, h4, h5⟩
  have HY := Lib.hid (And.intro h1 (And.intro h2 (And.intro h3 (And.intro (fun a ha => (h4 a ha).1) h5))))
  obtain ⟨yA, yc, rfl⟩ := h1.slice
  clear h1 h2 h3 h4 h5
  go_wp2_with fail
  go_ret
  exact ⟨_, ys, rfl, HY⟩

set_option maxRecDepth 8000 in
theorem counts_any (x : Nat) (j : Jn) (w : World) (hj : JnAt w x j) (hx : x < w.heap.size) :
    Calls Try.prog 19 #[.pointer (some ⟨x, 0, none⟩)] w fun e w' => e = .returned (.agg #[.int .i64 j.ct, .int .i64 j.cd, .int .i64 j.co, .int .i64 j.cl, .int .i64 j.cs]) ∧ Below w.heap.size w w' := by
  have HB := Lib.hid ((Below.refl w.heap.size w).alloc (Nat.le_refl _) (.cells #[.int .i64 0, .int .i64 0, .int .i64 0, .int .i64 0, .int .i64 0] 51))
  have hj1 := hj.same (w' := w.alloc (.cells #[.int .i64 0, .int .i64 0, .int .i64 0, .int .i64 0, .int .i64 0] 51)) (fun i => HB.out.cell (p := ⟨x, i, none⟩) hx)
  obtain ⟨g0, g1, g2, g3, g4, g5, ⟨g6, g7, g8, g9, g10⟩, g11⟩ := hj1
  have hne : ¬ w.heap.size = x := by omega
  have hne' : ¬ x = w.heap.size := by omega
  clear hj
  go_enter Try.func19, Try.ntmps19
  go_wp2_with fail
  refine (ready_any x true _ g11).mono ?_
  rintro e w1 ⟨rfl, rfl⟩
  go_wp2_with fail
  exact bodyPost_ret (by simp only [results, Try.results19]; simp [go_sem]; try rfl) rfl ⟨rfl, (Below.refl _ _).alloc (Nat.le_refl _) _⟩
end Go.Proofs.Ytebacmmfjadalaa

namespace Go.Proofs.Ytebacmmfjadalaa
open Go Go.RowKit

/-- clocks lie behind a slice -/
def ClAt (w : World) (v : Value) (cs : List (Int × Int × Int)) : Prop := ∃ A c, v = .slice A cs.length c ∧ (cs = [] ∨ ∃ b off, A = some ⟨b, off, none⟩ ∧ b < w.heap.size ∧ ∀ i, i < cs.length → w.cell? ⟨b, off + i * 3, none⟩ = some (.int .i64 (cs.getD i (0, 0, 0)).1) ∧ w.cell? ⟨b, off + i * 3 + 1, none⟩ = some (.int .i64 (cs.getD i (0, 0, 0)).2.1) ∧ w.cell? ⟨b, off + i * 3 + 2, none⟩ = some (.int .i64 (cs.getD i (0, 0, 0)).2.2))
def ClRow (w : World) (A : Option Addr) (cs : List (Int × Int × Int)) : Prop := cs = [] ∨ ∃ b off, A = some ⟨b, off, none⟩ ∧ b < w.heap.size ∧ ∀ i, i < cs.length → w.cell? ⟨b, off + i * 3, none⟩ = some (.int .i64 (cs.getD i (0, 0, 0)).1) ∧ w.cell? ⟨b, off + i * 3 + 1, none⟩ = some (.int .i64 (cs.getD i (0, 0, 0)).2.1) ∧ w.cell? ⟨b, off + i * 3 + 2, none⟩ = some (.int .i64 (cs.getD i (0, 0, 0)).2.2)
theorem ClRow.at {w : World} {A : Option Addr} {cs : List (Int × Int × Int)} (h : ClRow w A cs) (i : Nat) (hi : i < cs.length) : ∃ b off, A = some ⟨b, off, none⟩ ∧ b < w.heap.size ∧ w.cell? ⟨b, off + i * 3, none⟩ = some (.int .i64 (cs.getD i (0, 0, 0)).1) ∧ w.cell? ⟨b, off + i * 3 + 1, none⟩ = some (.int .i64 (cs.getD i (0, 0, 0)).2.1) ∧ w.cell? ⟨b, off + i * 3 + 2, none⟩ = some (.int .i64 (cs.getD i (0, 0, 0)).2.2) := by
  rcases h with h | ⟨b, off, h1, h2, h3⟩
  · subst h; simp at hi
  · exact ⟨b, off, h1, h2, h3 i hi⟩
def okC (c : Int × Int × Int) : Bool := Ck.okc c.1 c.2.1 c.2.2
/-- the error of a new joiner -/
def newE (cs : List (Int × Int × Int)) (win : Int) : Int := if 64 < cs.length ∨ win < 0 ∨ 1125899906842624 < win then 1 else if cs.all okC = true then 0 else 130
def NewP (w : World) (cs : List (Int × Int × Int)) (win : Int) (e : Ending) (w' : World) : Prop :=
  (newE cs win = 0 ∧ e = .returned (.tuple #[.pointer (some ⟨w.heap.size, 0, none⟩), .int .i64 0]) ∧ ∃ sv, SRow (w.heap.size + 1) w' sv (cs.map sn0) ∧ JnAt w' w.heap.size ⟨sv, win, .slice none 0 0, false, 0, 0, 0, 0, 0, 0, 0⟩ ∧ (∀ i, w'.frozen? ⟨w.heap.size, i, none⟩ = false) ∧ w.heap.size < w'.heap.size ∧ Below w.heap.size w w') ∨
  (newE cs win ≠ 0 ∧ e = .returned (.tuple #[.pointer none, .int .i64 (newE cs win)]) ∧ Below w.heap.size w w')
theorem ok_take {cs : List (Int × Int × Int)} {k : Nat} {co cn cd : Int} (h : (cs.take k).all okC = true) (hk : k < cs.length) (h1 : (cs.getD k (0, 0, 0)).1 = co) (h2 : (cs.getD k (0, 0, 0)).2.1 = cn) (h3 : (cs.getD k (0, 0, 0)).2.2 = cd) (ho : Ck.okc co cn cd = true) : (cs.take (k + 1)).all okC = true := by
  rw [List.take_add_one, List.getElem?_eq_getElem hk, List.all_append, h]
  rw [List.getD_eq_getElem?_getD, List.getElem?_eq_getElem hk] at h1 h2 h3
  simp only [Option.getD_some] at h1 h2 h3
  simp [okC, h1, h2, h3, ho]

set_option maxRecDepth 8000 in
set_option maxHeartbeats 4000000 in
theorem new_long (A : Option Addr) (cc n : Nat) (cs : List (Int × Int × Int)) (win : Int) (w : World) (hn : cs.length = n) (hl : 64 < n ∨ win < 0 ∨ 1125899906842624 < win) :
    Calls Try.prog 14 #[.slice A n cc, .int .i64 win] w (NewP w cs win) := by
  have hE : newE cs win = 1 := by unfold newE; rw [if_pos (by rw [hn]; exact hl)]
  have hP : NewP w cs win (.returned (.tuple #[.pointer none, .int .i64 1])) w := .inr ⟨by rw [hE]; decide, by rw [hE], Below.refl _ _⟩
  have HP := Lib.hid hP
  clear hP hE hn
  by_cases c1 : 64 < n
  · have c1' : (64 : Int) < (n : Int) := by omega
    go_enter Try.func14, Try.ntmps14
    go_wp2_with fail
    go_ret2
    exact HP.out
  · have c1' : ¬ (64 : Int) < (n : Int) := by omega
    by_cases c2 : win < 0
    · go_enter Try.func14, Try.ntmps14
      go_wp2_with fail
      go_ret2
      exact HP.out
    · have c3 : 1125899906842624 < win := by omega
      go_enter Try.func14, Try.ntmps14
      go_wp2_with fail
      go_ret2
      exact HP.out

set_option maxRecDepth 8000 in
set_option maxHeartbeats 8000000 in
theorem new_gen (A : Option Addr) (cc n : Nat) (cs : List (Int × Int × Int)) (win : Int) (w : World) (hn : cs.length = n) (hc : ClRow w A cs) (hn2 : n ≤ 64) (w0 : 0 ≤ win) (w1 : win ≤ 1125899906842624) :
    Calls Try.prog 14 #[.slice A n cc, .int .i64 win] w (NewP w cs win) := by
  have HCL := Lib.hid hc
  have HN := Lib.hid hn
  clear hc hn
  go_enter Try.func14, Try.ntmps14
  go_wp2_with fail
  have H0 := Lib.hid (show SRow (w.heap.size + 1) (w.alloc (.cells #[.slice none 0 0, .int .i64 win, .slice none 0 0, .bool false, .int .i64 0, .int .i64 0, .int .i64 0, .int .i64 0, .int .i64 0, .int .i64 0, .int .i64 0, .bool true] 60)) (.slice none 0 0) (([] : List (Int × Int × Int)).map sn0) ∧ (w.alloc (.cells #[.slice none 0 0, .int .i64 win, .slice none 0 0, .bool false, .int .i64 0, .int .i64 0, .int .i64 0, .int .i64 0, .int .i64 0, .int .i64 0, .int .i64 0, .bool true] 60)).cell? ⟨w.heap.size, 0, none⟩ = some (.slice none 0 0) ∧ Fr (w.alloc (.cells #[.slice none 0 0, .int .i64 win, .slice none 0 0, .bool false, .int .i64 0, .int .i64 0, .int .i64 0, .int .i64 0, .int .i64 0, .int .i64 0, .int .i64 0, .bool true] 60)) (w.alloc (.cells #[.slice none 0 0, .int .i64 win, .slice none 0 0, .bool false, .int .i64 0, .int .i64 0, .int .i64 0, .int .i64 0, .int .i64 0, .int .i64 0, .int .i64 0, .bool true] 60)) none ⟨w.heap.size, 0, none⟩ from ⟨World.ownsRow_nil _ _ _ _, by simp [go_sem], Fr.refl _ _ _⟩)
  have HJ0 := Lib.hid (show JnAt (w.alloc (.cells #[.slice none 0 0, .int .i64 win, .slice none 0 0, .bool false, .int .i64 0, .int .i64 0, .int .i64 0, .int .i64 0, .int .i64 0, .int .i64 0, .int .i64 0, .bool true] 60)) w.heap.size ⟨.slice none 0 0, win, .slice none 0 0, false, 0, 0, 0, 0, 0, 0, 0⟩ ∧ (∀ i, (w.alloc (.cells #[.slice none 0 0, .int .i64 win, .slice none 0 0, .bool false, .int .i64 0, .int .i64 0, .int .i64 0, .int .i64 0, .int .i64 0, .int .i64 0, .int .i64 0, .bool true] 60)).frozen? ⟨w.heap.size, i, none⟩ = false) ∧ Below w.heap.size w (w.alloc (.cells #[.slice none 0 0, .int .i64 win, .slice none 0 0, .bool false, .int .i64 0, .int .i64 0, .int .i64 0, .int .i64 0, .int .i64 0, .int .i64 0, .int .i64 0, .bool true] 60)) ∧ (w.alloc (.cells #[.slice none 0 0, .int .i64 win, .slice none 0 0, .bool false, .int .i64 0, .int .i64 0, .int .i64 0, .int .i64 0, .int .i64 0, .int .i64 0, .int .i64 0, .bool true] 60)).heap.size = w.heap.size + 1 from ⟨by unfold JnAt; simp [go_sem], fun i => by simp [go_sem], (Below.refl _ _).alloc (Nat.le_refl _) _, by simp⟩)
  generalize (w.alloc (.cells #[.slice none 0 0, .int .i64 win, .slice none 0 0, .bool false, .int .i64 0, .int .i64 0, .int .i64 0, .int .i64 0, .int .i64 0, .int .i64 0, .int .i64 0, .bool true] 60)) = W0 at *
  go_loopw [26] (fun iv wr => ∃ (k : Nat) (sv : Value), k ≤ n ∧ iv = .int .i64 (k : Int) ∧ Hid ((cs.take k).all okC = true ∧ SRow (w.heap.size + 1) wr sv ((cs.take k).map sn0) ∧ wr.cell? ⟨w.heap.size, 0, none⟩ = some sv ∧ Fr W0 wr none ⟨w.heap.size, 0, none⟩)) (fun iv _ => n - (intOf iv).toNat)
  case atStart => exact ⟨0, .slice none 0 0, by omega, rfl, Lib.hid ⟨rfl, H0.out⟩⟩
  case round =>
    obtain ⟨k, sv, hk, rfl, hh⟩ := hrel
    by_cases hlt : k < n
    · obtain ⟨cb, coff, rfl, hcb, hrow0⟩ := HCL.out.at k (by have := HN.out; omega)
      obtain ⟨co, hco⟩ : ∃ y, (cs.getD k (0, 0, 0)).1 = y := ⟨_, rfl⟩
      obtain ⟨cn, hcn⟩ : ∃ y, (cs.getD k (0, 0, 0)).2.1 = y := ⟨_, rfl⟩
      obtain ⟨cd, hcd⟩ : ∃ y, (cs.getD k (0, 0, 0)).2.2 = y := ⟨_, rfl⟩
      have hrow := hrow0
      clear hrow0
      rw [hco, hcn, hcd] at hrow
      have hrd : ∀ i, wr.cell? ⟨cb, i, none⟩ = w.cell? ⟨cb, i, none⟩ := fun i =>
        (World.cell?_of_block (hh.out.2.2.2.block cb (by rw [HJ0.out.2.2.2]; omega) (by show cb ≠ w.heap.size; omega) (by simp))).trans (HJ0.out.2.2.1.cell (p := ⟨cb, i, none⟩) hcb)
      have r0 := (hrd _).trans hrow.1
      have r1 := (hrd _).trans hrow.2.1
      have r2 := (hrd _).trans hrow.2.2
      have HX := Lib.hid (And.intro hco (And.intro hcn hcd))
      have hki : (k : Int) < (n : Int) := by omega
      clear hrow hrd hco hcn hcd
      obtain ⟨A, c, rfl⟩ := hh.out.2.1.slice
      have hwr : w.heap.size + 1 ≤ wr.heap.size := by have := hh.out.2.2.2.size; rw [HJ0.out.2.2.2] at this; exact this
      have hlen : ((cs.take k).map sn0).length = k := by rw [List.length_map, List.length_take, Nat.min_eq_left (by have := HN.out; omega)]
      have hhc := hh.out.2.2.1
      rw [hlen] at hhc hh
      go_wp2_with fail
      have HCK := Lib.hid (fun W => check_any co cn cd W)
      unfold clk at HCK
      by_cases hkf : Ck.okc co cn cd = false
      · have hk0 : ¬ Ck.okc co cn cd = true := by rw [hkf]; simp
        rw [if_neg hk0] at HCK
        clear hkf
        refine (HCK.out _).mono ?_
        rintro e1 w2 ⟨rfl, hb2⟩
        have HBD := Lib.hid (show Below w.heap.size w w2 from (HJ0.out.2.2.1.trans ⟨hh.out.2.2.2.os, hh.out.2.2.2.tape, hh.out.2.2.2.output, hh.out.2.2.2.size, fun q hq => hh.out.2.2.2.block q (by rw [HJ0.out.2.2.2]; omega) (by show q ≠ w.heap.size; omega) (by simp)⟩).trans ((((Below.refl wr.heap.size wr).alloc (Nat.le_refl _) _).trans (hb2.mono (by simp))).mono (by omega)))
        clear hb2
        go_wp2_with fail
        go_ret2
        refine .inr ⟨?_, ?_, HBD.out⟩
        · unfold newE
          rw [if_neg (by have := HN.out; omega), if_neg]
          · omega
          · intro hall
            have := List.all_eq_true.1 hall (cs.getD k (0, 0, 0)) (by rw [List.getD_eq_getElem?_getD, List.getElem?_eq_getElem (by have := HN.out; omega)]; exact List.getElem_mem _)
            unfold okC at this
            rw [HX.out.1, HX.out.2.1, HX.out.2.2] at this
            exact hk0 this
        · unfold newE
          rw [if_neg (by have := HN.out; omega), if_neg]
          · rfl
          · intro hall
            have := List.all_eq_true.1 hall (cs.getD k (0, 0, 0)) (by rw [List.getD_eq_getElem?_getD, List.getElem?_eq_getElem (by have := HN.out; omega)]; exact List.getElem_mem _)
            unfold okC at this
            rw [HX.out.1, HX.out.2.1, HX.out.2.2] at this
            exact hk0 this
      have hk0 : Ck.okc co cn cd = true := by simpa using hkf
      rw [if_pos hk0] at HCK
      clear hkf
      have HK0 := Lib.hid hk0
      clear hk0
      refine (HCK.out _).mono ?_
      rintro e1 w2 ⟨rfl, hb2⟩
      obtain ⟨hcell, hfrz⟩ := bcell hb2
      have hbb : Below wr.heap.size wr w2 := ((Below.refl wr.heap.size wr).alloc (Nat.le_refl _) _).trans (hb2.mono (by simp))
      have hx0 := (hbb.cell (p := ⟨w.heap.size, 0, none⟩) (by show w.heap.size < _; omega)).trans hhc
      have hf0 := (hbb.frozen (p := ⟨w.heap.size, 0, none⟩) (by show w.heap.size < _; omega)).trans ((hh.out.2.2.2.frozen ⟨w.heap.size, 0, none⟩ rfl).trans (HJ0.out.2.1 0))
      have q0 : w2.cell? ⟨wr.heap.size, 0, none⟩ = some (.int .i64 co) := (hcell _ _ (by simp)).trans (by simp [go_sem])
      have q1 : w2.cell? ⟨wr.heap.size, 1, none⟩ = some (.int .i64 cn) := (hcell _ _ (by simp)).trans (by simp [go_sem])
      have q2 : w2.cell? ⟨wr.heap.size, 2, none⟩ = some (.int .i64 cd) := (hcell _ _ (by simp)).trans (by simp [go_sem])
      have HBB := Lib.hid hbb
      have HBX := Lib.hid (((Below.refl w2.heap.size w2).alloc (Nat.le_refl _) (.cells #[.int .i64 co, .int .i64 cn, .int .i64 cd, .int .i64 0, .bool false, .int .u32 0, .int .u64 0] 83)).drew)
      have HSR := Lib.hid ((hh.out.2.1.below hbb).below HBX.out)
      have hx2 : w.heap.size < w2.heap.size := Nat.lt_of_lt_of_le (by omega : w.heap.size < wr.heap.size) hbb.size
      clear hcell hfrz hbb hb2 hhc r0 r1 r2
      go_wp2_with fail
      have hxo : (Value.slice A k c).ownBlock ≠ some w.heap.size := HSR.out.own (by omega)
      have hl1 : ((cs.take k).map sn0 ++ [(⟨co, cn, cd, 0, false, 0, 0⟩ : Sn)]).length = k + 1 := by rw [List.length_append, hlen]; rfl
      go_region_law ((refine step_append_sn rfl (.tmp 39) (.tmp 42) 57 rfl Try.underlying57 (.slice A k c) ((cs.take k).map sn0) ⟨co, cn, cd, 0, false, 0, 0⟩ (by simp [Act.eval]) HSR.out (Nat.le_trans (by omega : w.heap.size + 1 ≤ w2.heap.size) HBX.out.size) (by omega) ⟨w2.heap.size, 0, none⟩ 1 (by simp [Act.eval]) (sn_new w2 _ _ _ _ _ _ _ _) ?_); intro v' w3 hr1 hg1 ha1; obtain ⟨A1, c1, hv1⟩ := hr1.slice; rw [hl1] at hv1; subst hv1; have y1 := (grownO_cell hg1 (p := ⟨w.heap.size, 0, none⟩) (Nat.lt_of_lt_of_le hx2 HBX.out.size) hxo).trans ((HBX.out.cell (p := ⟨w.heap.size, 0, none⟩) (by exact hx2)).trans hx0); have y2 := (grownO_frozen hg1 (p := ⟨w.heap.size, 0, none⟩) (Nat.lt_of_lt_of_le hx2 HBX.out.size) hxo).trans ((HBX.out.frozen (p := ⟨w.heap.size, 0, none⟩) (by exact hx2)).trans hf0); have HR1 := Lib.hid hr1; have HG1 := Lib.hid hg1; clear hr1 hg1 ha1)
      all_goals go_wp2_with fail
      all_goals go_roundw
      all_goals first
        | (refine ⟨k + 1, .slice A1 (k + 1) c1, by omega, by go_num, Lib.hid ⟨?_, ?_, by simp [go_sem, y1], ?_⟩⟩
           · exact ok_take hh.out.1 (by have := HN.out; omega) HX.out.1 HX.out.2.1 HX.out.2.2 HK0.out
           · rw [show (cs.take (k + 1)).map sn0 = (cs.take k).map sn0 ++ [(⟨co, cn, cd, 0, false, 0, 0⟩ : Sn)] from take_sn (by have := HN.out; omega) HX.out.1 HX.out.2.1 HX.out.2.2]
             exact HR1.out.set (by show w.heap.size < _; omega) _
           · exact ((((hh.out.2.2.2.trans (Fr.of_below HBB.out _ (by show w.heap.size < _; omega))).trans (Fr.of_below HBX.out _ (by exact hx2))).grownN HG1.out (fun g' e => Nat.not_lt.1 (fun hl => HSR.out.own (by rw [HJ0.out.2.2.2] at hl; exact hl) e)) (by rw [HJ0.out.2.2.2]; show w.heap.size < _; omega)).set _))
        | (simp [intOf]; omega)
    · have hkn : k = n := by omega
      subst hkn
      have HFIN := Lib.hid (new_fin hh.out.2.1 hh.out.2.2.1 hh.out.2.2.2 HJ0.out.1 HJ0.out.2.1 HJ0.out.2.2.1 HJ0.out.2.2.2 HN.out)
      go_wp2_with fail
      go_ret2
      refine .inl ⟨?_, rfl, sv, HFIN.out⟩
      unfold newE
      have hall := hh.out.1
      rw [List.take_of_length_le (by have := HN.out; omega)] at hall
      rw [if_neg (by have := HN.out; omega), if_pos hall]
end Go.Proofs.Ytebacmmfjadalaa

namespace Go.Proofs.Ytebacmmfjadalaa
open Go Go.RowKit Go.WideShapes

theorem run_append_els (B D : Nat) (t : TypeId) (ht : Try.prog.underlying t = some (.slice 32)) (w : World) (v u : Value) (xs ys : List El) (hr : Row B w v xs) (hB : B ≤ w.heap.size) (hu : Row D w u ys) (hlen : xs.length + ys.length ≤ 1099511627776) (ty : TypeId) :
    ∃ v' w', (Builtin.append_ #[t, t] ty #[v, u]).run Try.prog w = .ok v' w' ∧ Row B w' v' (xs ++ ys) ∧ w.grownBy w' v.ownBlock ∧ (v'.ownBlock = v.ownBlock ∨ v'.ownBlock = some w.heap.size) := by
  obtain ⟨i0, hi0, hz0, hz1, hz2⟩ := info_parts infoT
  rcases hu.2 with ⟨hn, h0⟩ | ⟨g, cap, cur, hv, h1, h2, -⟩
  · have hy : ys = [] := by
      cases ys with
      | nil => rfl
      | cons a l => simp at h0
    subst hy hn
    rw [List.append_nil]
    refine ⟨v, w, ?_, hr, ⟨rfl, rfl, rfl, Nat.le_refl _, fun _ _ _ => rfl⟩, .inl rfl⟩
    rcases hr.2 with ⟨h3, h4⟩ | ⟨g', cap', cur', h3, h4, h5, h6⟩
    · rw [h3]
      simp [Builtin.append_, run_underlying ht, sizeOf, typeInfo, hi0, Builtin.lenOf, Builtin.firstCells]
    · rw [h3]
      simp [Builtin.append_, run_underlying ht, sizeOf, typeInfo, hi0, Builtin.lenOf, Builtin.firstCells, h6.1, storeCells]
  · subst hv
    obtain ⟨v', w', hrun, hown, hg, -, hat⟩ := run_append_own_at (P := Try.prog) w B t ty 32 i0 _ 5 48 ht hi0 hz0 hz1 hz2 rfl (by omega) v xs.length (flat xs) hr
      ⟨g, 0, none⟩ ys.length cap (flat ys) (flat_len _) (fun j q hq => by
        have hj : j < ys.length * 5 := by
          have := (List.getElem?_eq_some_iff.1 hq).1
          rwa [flat_len] at this
        rw [add_plain, Nat.zero_add]
        exact (World.ownsRow.cellAt hu j (by omega)).trans hq) (flat_one _) (by simp only [maxLen]; omega) (by omega) hB
    refine ⟨v', w', hrun, ?_, hg, hat⟩
    unfold Row
    rw [List.length_append, flat_app]
    exact hown
section
variable (w : World)
theorem wp_append_els {o : Oper} {a : Act} {K : Act → World → Prop} {Q : Exit → Act → World → Prop} (s x : Operand) (t : TypeId) (B D : Nat)
    (ho : o.op = .call { callee := .builtin .append, args := #[s, x], argTypes := #[t, t] }) (ht : Try.prog.underlying t = some (.slice 32)) (v u : Value) (xs ys : List El) (hs : a.eval s = v) (hx : a.eval x = u) (hr : Row B w v xs) (hB : B ≤ w.heap.size) (hu : Row D w u ys) (hlen : xs.length + ys.length ≤ 1099511627776)
    (h : ∀ v' w', Row B w' v' (xs ++ ys) → w.grownBy w' v.ownBlock → (v'.ownBlock = v.ownBlock ∨ v'.ownBlock = some w.heap.size) → K (a.put o.dst v') w') : o.wp Try.prog a w K Q := by
  obtain ⟨v', w', hrun, h2, h3, h4⟩ := run_append_els B D t ht w v u xs ys hr hB hu hlen o.type
  unfold Oper.wp execOp
  simp only [ho, resolve, invoke, builtin, Sem.run_bind, Sem.run_pure, Result.andThen_ok, List.map_toArray, List.map_cons, List.map_nil, hs, hx, hrun]
  exact h v' w' h2 h3 h4
theorem wpList_append_els {ops : Array Oper} {rest : List Oper} {o : Oper} {a : Act} {Q : Exit → Act → World → Prop} (hgd : o.guard = none) (s x : Operand) (t : TypeId) (B D : Nat)
    (ho : o.op = .call { callee := .builtin .append, args := #[s, x], argTypes := #[t, t] }) (ht : Try.prog.underlying t = some (.slice 32)) (v u : Value) (xs ys : List El) (hs : a.eval s = v) (hx : a.eval x = u) (hr : Row B w v xs) (hB : B ≤ w.heap.size) (hu : Row D w u ys) (hlen : xs.length + ys.length ≤ 1099511627776)
    (h : ∀ v' w', Row B w' v' (xs ++ ys) → w.grownBy w' v.ownBlock → (v'.ownBlock = v.ownBlock ∨ v'.ownBlock = some w.heap.size) → wpList Try.prog ops Q rest (a.put o.dst v') w') : wpList Try.prog ops Q (o :: rest) a w :=
  wpList_plain hgd fun _ hK => wp_append_els w s x t B D ho ht v u xs ys hs hx hr hB hu hlen fun v' w' h2 h3 h4 => hK _ _ (h v' w' h2 h3 h4)
end

theorem infoC : (Try.prog.info? 66).map (fun i => (i.zero, i.size, i.bytes)) = some (some (.agg #[.int .i64 0, .int .i64 0, .int .i64 0]), 3, 24) := by kernel_rfl
def flat3 : List (Int × Int × Int) → List Value
  | [] => []
  | c :: l => .int .i64 c.1 :: .int .i64 c.2.1 :: .int .i64 c.2.2 :: flat3 l
theorem flat3_len : ∀ cs : List (Int × Int × Int), (flat3 cs).length = cs.length * 3
  | [] => rfl
  | c :: l => by simp [flat3, flat3_len l]; omega
theorem flat3_get : ∀ (cs : List (Int × Int × Int)) (i : Nat), i < cs.length → (flat3 cs)[i * 3]? = some (.int .i64 (cs.getD i (0, 0, 0)).1) ∧ (flat3 cs)[i * 3 + 1]? = some (.int .i64 (cs.getD i (0, 0, 0)).2.1) ∧ (flat3 cs)[i * 3 + 2]? = some (.int .i64 (cs.getD i (0, 0, 0)).2.2)
  | [], _, h => by simp at h
  | c :: l, 0, _ => by simp [flat3]
  | c :: l, i + 1, h => by
    have := flat3_get l i (by simpa using h)
    rw [show (i + 1) * 3 = i * 3 + 1 + 1 + 1 by omega, show i * 3 + 1 + 1 + 1 + 1 = (i * 3 + 1) + 1 + 1 + 1 by omega, show i * 3 + 1 + 1 + 1 + 2 = (i * 3 + 2) + 1 + 1 + 1 by omega]
    simpa [flat3] using this
theorem flat3_one : ∀ cs : List (Int × Int × Int), ∀ u ∈ flat3 cs, u.oneCell' = true
  | [], u, h => by simp [flat3] at h
  | c :: l, u, h => by
    simp only [flat3, List.mem_cons] at h
    rcases h with rfl | rfl | rfl | h
    · rfl
    · rfl
    · rfl
    · exact flat3_one l u h
/-- clocks appended to the nil slice: clocks in new memory -/
theorem run_append_clocks (w : World) (A : Option Addr) (n c : Nat) (cs : List (Int × Int × Int)) (hn : cs.length = n) (h : ClRow w A cs) (hA : n = 0 ∨ A ≠ none) (hl : n * 24 ≤ 140737488355328) (ty : TypeId) :
    ∃ A' c' w', (Builtin.append_ #[36, 36] ty #[.slice none 0 0, .slice A n c]).run Try.prog w = .ok (.slice A' n c') w' ∧ ClRow w' A' cs ∧ Below w.heap.size w w' := by
  obtain ⟨i0, hi0, hz0, hz1, hz2⟩ := info_parts infoC
  rcases Nat.eq_zero_or_pos n with h0 | h0
  · subst h0
    have hcs : cs = [] := List.length_eq_zero_iff.1 hn
    cases A with
    | none =>
      refine ⟨none, 0, w, ?_, .inl hcs, Below.refl _ _⟩
      simp [Builtin.append_, run_underlying Try.underlying36, sizeOf, typeInfo, hi0, Builtin.lenOf, Builtin.firstCells]
    | some ad =>
      obtain ⟨v', w', hrun, hown, hg, -, -⟩ := run_append_own_at (P := Try.prog) w w.heap.size 36 ty 66 i0 _ 3 24 Try.underlying36 hi0 hz0 hz1 hz2 rfl (by omega) (.slice none 0 0) 0 [] (World.ownsRow_nil _ _ _ _)
        ad 0 c [] rfl (fun j u hu => by simp at hu) (fun u hu => by simp at hu) (by simp only [maxLen]; omega) (by omega) (Nat.le_refl _)
      rcases hown.2 with ⟨h1, -⟩ | ⟨g, cap, cur, h1, -⟩
      · exact ⟨none, 0, w', by rw [hrun, h1], .inl hcs, (Below.refl _ _).grown hg (Nat.le_refl _) (by simp [Value.ownBlock])⟩
      · exact ⟨_, _, w', by rw [hrun, h1], .inl hcs, (Below.refl _ _).grown hg (Nat.le_refl _) (by simp [Value.ownBlock])⟩
  · have hne : cs ≠ [] := by intro e; rw [e] at hn; simp at hn; omega
    rcases h with h | ⟨b, off, rfl, hb, hcell⟩
    · exact absurd h hne
    obtain ⟨v', w', hrun, hown, hg, -, -⟩ := run_append_own_at (P := Try.prog) w w.heap.size 36 ty 66 i0 _ 3 24 Try.underlying36 hi0 hz0 hz1 hz2 rfl (by omega) (.slice none 0 0) 0 [] (World.ownsRow_nil _ _ _ _)
      ⟨b, off, none⟩ n c (flat3 cs) (by rw [flat3_len, hn]) (fun j u hu => by
        have hj : j < cs.length * 3 := by
          have := (List.getElem?_eq_some_iff.1 hu).1
          rwa [flat3_len] at this
        have hq := flat3_get cs (j / 3) (by omega)
        have hcq := hcell (j / 3) (by omega)
        rw [add_plain]
        rcases (show j = j / 3 * 3 ∨ j = j / 3 * 3 + 1 ∨ j = j / 3 * 3 + 2 by omega) with hjj | hjj | hjj
        · rw [hjj] at hu ⊢
          rw [hq.1] at hu
          rw [← hu]
          exact hcq.1
        · rw [hjj] at hu ⊢
          rw [hq.2.1] at hu
          rw [← hu]
          exact hcq.2.1
        · rw [hjj] at hu ⊢
          rw [hq.2.2] at hu
          rw [← hu]
          exact hcq.2.2) (flat3_one cs) (by simp only [maxLen]; omega) (by omega) (Nat.le_refl _)
    rw [Nat.zero_add, List.nil_append] at hown
    rcases hown.2 with ⟨h1, h2⟩ | ⟨g, cap, cur, h1, h2, h3, -⟩
    · omega
    · refine ⟨_, _, w', by rw [hrun, h1], .inr ⟨g, 0, rfl, (Array.getElem?_eq_some_iff.1 h3).1, fun i hi => ?_⟩, (Below.refl _ _).grown hg (Nat.le_refl _) (by simp [Value.ownBlock])⟩
      have hq := flat3_get cs i hi
      rw [h1] at hown
      have hc := fun j u (hu : (flat3 cs)[j]? = some u) => (World.ownsRow.cellAt hown j (by
        have := (List.getElem?_eq_some_iff.1 hu).1
        rw [flat3_len] at this
        omega)).trans hu
      rw [Nat.zero_add]
      exact ⟨hc _ _ hq.1, hc _ _ hq.2.1, hc _ _ hq.2.2⟩
section
variable (w : World)
theorem wp_append_clocks {o : Oper} {a : Act} {K : Act → World → Prop} {Q : Exit → Act → World → Prop} (s x : Operand)
    (ho : o.op = .call { callee := .builtin .append, args := #[s, x], argTypes := #[36, 36] }) (A : Option Addr) (n c : Nat) (cs : List (Int × Int × Int)) (hs : a.eval s = .slice none 0 0) (hx : a.eval x = .slice A n c) (hn : cs.length = n) (hm : ClRow w A cs) (hA : n = 0 ∨ A ≠ none) (hl : n * 24 ≤ 140737488355328)
    (h : ∀ A' c' w', ClRow w' A' cs → Below w.heap.size w w' → K (a.put o.dst (.slice A' n c')) w') : o.wp Try.prog a w K Q := by
  obtain ⟨A', c', w', hrun, h2, h3⟩ := run_append_clocks w A n c cs hn hm hA hl o.type
  unfold Oper.wp execOp
  simp only [ho, resolve, invoke, builtin, Sem.run_bind, Sem.run_pure, Result.andThen_ok, List.map_toArray, List.map_cons, List.map_nil, hs, hx, hrun]
  exact h A' c' w' h2 h3
theorem wpList_append_clocks {ops : Array Oper} {rest : List Oper} {o : Oper} {a : Act} {Q : Exit → Act → World → Prop} (hgd : o.guard = none) (s x : Operand)
    (ho : o.op = .call { callee := .builtin .append, args := #[s, x], argTypes := #[36, 36] }) (A : Option Addr) (n c : Nat) (cs : List (Int × Int × Int)) (hs : a.eval s = .slice none 0 0) (hx : a.eval x = .slice A n c) (hn : cs.length = n) (hm : ClRow w A cs) (hA : n = 0 ∨ A ≠ none) (hl : n * 24 ≤ 140737488355328)
    (h : ∀ A' c' w', ClRow w' A' cs → Below w.heap.size w w' → wpList Try.prog ops Q rest (a.put o.dst (.slice A' n c')) w') : wpList Try.prog ops Q (o :: rest) a w :=
  wpList_plain hgd fun _ hK => wp_append_clocks w s x ho A n c cs hs hx hn hm hA hl fun A' c' w' h2 h3 => hK _ _ (h A' c' w' h2 h3)
end
end Go.Proofs.Ytebacmmfjadalaa

namespace Go.Proofs.Ytebacmmfjadalaa
open Go Go.RowKit

/-- the error of a push -/
def pushE (sns : List Sn) (se st : Int) (n : Nat) (bs : List Nat) : Int :=
  if chkE se n bs ≠ 0 then chkE se n bs else match sns[se.toNat]? with
  | none => 230
  | some s => if Ck.unwE s.last st ≠ 0 then Ck.unwE s.last st else Ck.timeE s.o s.n s.d (Ck.unwV s.last st)
/-- whether a number is known -/
def known (s : Sn) (q : Int) : Bool := below' s q && decide ((s.most - q).toNat < 64) && bitAt s (s.most - q).toNat
def tooOld (s : Sn) (q : Int) : Bool := below' s q && decide (64 ≤ (s.most - q).toNat)
/-- what becomes of a reading -/
def pushK (j : Jn) (s : Sn) (sq t : Int) : Int := if known s sq = true then 2 else if tooOld s sq = true then 3 else if (j.some && decide (t < j.hor)) = true then 4 else 1
/-- a joiner whose reading is only counted -/
def cntJ (j : Jn) (k : Int) : Jn := if k = 2 then { j with cd := j.cd + 1 } else if k = 3 then { j with co := j.co + 1 } else { j with cl := j.cl + 1 }
structure PushIn (w : World) (x B : Nat) (j : Jn) (sns : List Sn) (xs : List El) : Prop where
  inv : Inv w w x B j sns xs
  vi : VI w B j.wait xs
  own : ∀ g, j.sen.ownBlock = some g → x < g ∧ g < B
  ok : ∀ s ∈ sns, SnOk s
  num : JNum j
  c1 : j.ct ≤ 4611686018427387904
  k1 : j.cs ≤ 4611686018427387904
  d1 : j.cd ≤ 4611686018427387904
  o1 : j.co ≤ 4611686018427387904
  l1 : j.cl ≤ 4611686018427387904
  few : xs.length < 4096
inductive PushP (w : World) (x B : Nat) (j : Jn) (sns : List Sn) (xs : List El) (se sq st : Int) (n : Nat) (bs : List Nat) (e : Ending) (w' : World) : Prop where
  | bad (h : pushE sns se st n bs ≠ 0) (he : e = .returned (.tuple #[.int .i64 0, .slice none 0 0, .int .i64 (pushE sns se st n bs)])) (hb : Below w.heap.size w w')
  | cnt (s : Sn) (hs : sns[se.toNat]? = some s) (h : pushE sns se st n bs = 0) (hk : pushK j s sq (Ck.timeV s.o s.n s.d (Ck.unwV s.last st)) ≠ 1) (he : e = .returned (.tuple #[.int .i64 (pushK j s sq (Ck.timeV s.o s.n s.d (Ck.unwV s.last st))), .slice none 0 0, .int .i64 0]))
      (hi : Inv w w' x B (cntJ j (pushK j s sq (Ck.timeV s.o s.n s.d (Ck.unwV s.last st)))) sns xs) (hf : Ft w w' (fun k => k = x))
  | took (s : Sn) (ov v' : Value) (e0 : El) (sb dn : Nat) (hs : sns[se.toNat]? = some s) (hse : 0 ≤ se) (h : pushE sns se st n bs = 0) (hk : pushK j s sq (Ck.timeV s.o s.n s.d (Ck.unwV s.last st)) = 1) (he : e = .returned (.tuple #[.int .i64 1, ov, .int .i64 0]))
      (hsb : j.sen.ownBlock = some sb) (hkey : e0.key = Ck.timeV s.o s.n s.d (Ck.unwV s.last st) :: se :: sq :: st :: (n : Int) :: bs.map keyN) (hdn : (s.most - sq) % 4294967296 = (dn : Int)) (hno : below' s sq = false ∨ (dn < 64 ∧ s.most - sq = (dn : Int) ∧ bitAt s dn = false))
      (hl : j.some = false ∨ j.hor ≤ Ck.timeV s.o s.n s.d (Ck.unwV s.last st))
      (ht : Took w w' x B sb se.toNat j sns xs s sq (Ck.unwV s.last st) (Ck.timeV s.o s.n s.d (Ck.unwV s.last st)) e0 ov v')

theorem chkE_zero {se : Int} {n : Nat} {bs : List Nat} (h : chkE se n bs = 0) : 0 ≤ se ∧ se < 64 ∧ n ≤ 6 := by
  unfold chkE at h
  split at h
  · omega
  · omega
theorem unwE_two (a b : Int) : Ck.unwE a b = 0 ∨ Ck.unwE a b = 1 := by unfold Ck.unwE; split <;> simp

theorem push_all (x B : Nat) (j : Jn) (sns : List Sn) (xs : List El) (se sq st : Int) (A : Option Addr) (n c : Nat) (bs : List Nat) (w : World) (hp : PushIn w x B j sns xs) (hfl : FlAt w A n bs) (hl : n * 8 ≤ 140737488355328) (hlt64 : Lt64 bs)
    (hfar : ∀ b f, A = some ⟨b, f, none⟩ → b ≠ x ∧ j.sen.ownBlock ≠ some b ∧ j.wait.ownBlock ≠ some b) (st0 : 0 ≤ st) (st1 : st ≤ 4294967295) (q0 : 0 ≤ sq) (q1 : sq ≤ 4294967295) :
    Calls Try.prog 15 #[.pointer (some ⟨x, 0, none⟩), .agg #[.int .i64 se, .int .u32 sq, .int .u32 st, .slice A n c]] w (PushP w x B j sns xs se sq st n bs) := by
  by_cases hq : chkE se n bs = 0
  · obtain ⟨se0, se1, -⟩ := chkE_zero hq
    obtain ⟨sn, rfl⟩ := Int.eq_ofNat_of_zero_le se0
    cases hs : sns[sn]? with
    | none =>
      have hE : pushE sns (sn : Int) st n bs = 230 := by
        unfold pushE
        rw [if_neg (by rw [hq]; simp), Int.toNat_natCast, hs]
      have hlen : (sns.length : Int) ≤ (sn : Int) := by
        have := List.getElem?_eq_none_iff.1 hs
        omega
      refine (push_nosensor x B j sns xs sn sq st A n c bs w w hp.inv hfl hl hq hlen).mono ?_
      rintro e w' ⟨rfl, hb⟩
      exact .bad (by rw [hE]; decide) (by rw [hE]) hb
    | some s =>
      have hok := hp.ok s (List.mem_of_getElem? hs)
      rcases unwE_two s.last st with hu | hu
      · by_cases ht : Ck.timeE s.o s.n s.d (Ck.unwV s.last st) = 0
        · have hE : pushE sns (sn : Int) st n bs = 0 := by
            unfold pushE
            rw [if_neg (by rw [hq]; simp), Int.toNat_natCast, hs]
            simp only
            rw [if_neg (by rw [hu]; simp)]
            exact ht
          have hsb : ∀ g, j.sen.ownBlock = some g → g < B := fun g hg => (hp.own g hg).2
          by_cases hbe : below' s sq = true
          · have hbe' := hbe
            unfold below' at hbe'
            simp only [Bool.and_eq_true, decide_eq_true_eq] at hbe'
            obtain ⟨dn, hdn⟩ := Int.eq_ofNat_of_zero_le (show 0 ≤ s.most - sq by omega)
            have htn : (s.most - sq).toNat = dn := by omega
            by_cases h64 : dn < 64
            · cases hbit : bitAt s dn with
              | true =>
                have hK : ∀ t, pushK j s sq t = 2 := fun t => by
                  unfold pushK known
                  rw [htn, hbe, hbit, decide_eq_true h64]
                  rfl
                refine (push_dup x B j sns xs sn sq st A n c bs w w hp.inv hfl hl hq s hs st0 st1 hsb _ _ rfl hu rfl ht q0 q1 hok.m0 hok.m1 hbe dn hdn h64 hbit hp.num.d0 hp.d1).mono ?_
                rintro e w' ⟨rfl, hi, hf⟩
                exact .cnt s (by rw [Int.toNat_natCast]; exact hs) hE (by rw [hK]; decide) (by rw [hK]) (by rw [hK]; exact hi) hf
              | false =>
                by_cases hla : (j.some && decide (Ck.timeV s.o s.n s.d (Ck.unwV s.last st) < j.hor)) = true
                · have hK : pushK j s sq (Ck.timeV s.o s.n s.d (Ck.unwV s.last st)) = 4 := by
                    unfold pushK known tooOld
                    rw [htn, hbe, hbit, decide_eq_true h64, decide_eq_false (show ¬ 64 ≤ dn by omega), hla]
                    rfl
                  simp only [Bool.and_eq_true, decide_eq_true_eq] at hla
                  refine (push_late2 x B j sns xs sn sq st A n c bs w w hp.inv hfl hl hq s hs st0 st1 hsb _ _ rfl hu rfl ht q0 q1 hok.m0 hok.m1 hbe dn hdn h64 hbit hla.1 hla.2 hp.num.l0 hp.l1).mono ?_
                  rintro e w' ⟨rfl, hi, hf⟩
                  exact .cnt s (by rw [Int.toNat_natCast]; exact hs) hE (by rw [hK]; decide) (by rw [hK]) (by rw [hK]; exact hi) hf
                · have hK : pushK j s sq (Ck.timeV s.o s.n s.d (Ck.unwV s.last st)) = 1 := by
                    unfold pushK known tooOld
                    rw [htn, hbe, hbit, decide_eq_true h64, decide_eq_false (show ¬ 64 ≤ dn by omega), if_neg (by simp), if_neg (by simp), if_neg hla]
                  have hlate : j.some = false ∨ j.hor ≤ Ck.timeV s.o s.n s.d (Ck.unwV s.last st) := by
                    cases hsm : j.some with
                    | false => exact .inl rfl
                    | true => rw [hsm] at hla; simp at hla; exact .inr hla
                  have hmod : (s.most - sq) % 4294967296 = (dn : Int) := by have := hok.m1; omega
                  refine (push_take x B j sns xs sn sq st A n c bs w w hp.inv hfl hl hlt64 hfar hp.vi hq s hs st0 st1 hsb _ _ rfl hu rfl ht q0 q1 hok.m0 hok.m1 dn hmod (.inr ⟨h64, hdn, hbit⟩) hlate _ rfl hp.few hp.num.c0 hp.c1 hp.num.k0 hp.k1 (by have := hp.num.t0; omega) (by have := hp.num.t1; omega) hp.num.w0 (by have := hp.num.w1; omega)).mono ?_
                  rintro e w' ⟨ov, v', e0, sb, rfl, hh⟩
                  exact .took s ov v' e0 sb dn (by rw [Int.toNat_natCast]; exact hs) (by omega) hE hK rfl hh.out.1 hh.out.2.1 hmod (.inr ⟨h64, hdn, hbit⟩) hlate (by rw [Int.toNat_natCast]; exact hh.out.2.2)
            · have hK : ∀ t, pushK j s sq t = 3 := fun t => by
                unfold pushK known tooOld
                rw [htn, hbe, decide_eq_false h64, decide_eq_true (show 64 ≤ dn by omega)]
                rfl
              refine (push_old x B j sns xs sn sq st A n c bs w w hp.inv hfl hl hq s hs st0 st1 hsb _ _ rfl hu rfl ht q0 q1 hok.m0 hok.m1 hbe dn hdn (by omega) hp.num.o0 hp.o1).mono ?_
              rintro e w' ⟨rfl, hi, hf⟩
              exact .cnt s (by rw [Int.toNat_natCast]; exact hs) hE (by rw [hK]; decide) (by rw [hK]) (by rw [hK]; exact hi) hf
          · have hbf : below' s sq = false := by simpa using hbe
            by_cases hla : (j.some && decide (Ck.timeV s.o s.n s.d (Ck.unwV s.last st) < j.hor)) = true
            · have hK : pushK j s sq (Ck.timeV s.o s.n s.d (Ck.unwV s.last st)) = 4 := by
                unfold pushK known tooOld
                rw [hbf, hla]
                rfl
              simp only [Bool.and_eq_true, decide_eq_true_eq] at hla
              refine (push_late1 x B j sns xs sn sq st A n c bs w w hp.inv hfl hl hq s hs st0 st1 hsb _ _ rfl hu rfl ht hok.m0 hok.m1 hbf hla.1 hla.2 hp.num.l0 hp.l1).mono ?_
              rintro e w' ⟨rfl, hi, hf⟩
              exact .cnt s (by rw [Int.toNat_natCast]; exact hs) hE (by rw [hK]; decide) (by rw [hK]) (by rw [hK]; exact hi) hf
            · have hK : pushK j s sq (Ck.timeV s.o s.n s.d (Ck.unwV s.last st)) = 1 := by
                unfold pushK known tooOld
                rw [hbf, if_neg (by simp), if_neg (by simp), if_neg hla]
              have hlate : j.some = false ∨ j.hor ≤ Ck.timeV s.o s.n s.d (Ck.unwV s.last st) := by
                cases hsm : j.some with
                | false => exact .inl rfl
                | true => rw [hsm] at hla; simp at hla; exact .inr hla
              obtain ⟨dn, hmod⟩ := Int.eq_ofNat_of_zero_le (show 0 ≤ (s.most - sq) % 4294967296 by omega)
              refine (push_take x B j sns xs sn sq st A n c bs w w hp.inv hfl hl hlt64 hfar hp.vi hq s hs st0 st1 hsb _ _ rfl hu rfl ht q0 q1 hok.m0 hok.m1 dn hmod (.inl hbf) hlate _ rfl hp.few hp.num.c0 hp.c1 hp.num.k0 hp.k1 (by have := hp.num.t0; omega) (by have := hp.num.t1; omega) hp.num.w0 (by have := hp.num.w1; omega)).mono ?_
              rintro e w' ⟨ov, v', e0, sb, rfl, hh⟩
              exact .took s ov v' e0 sb dn (by rw [Int.toNat_natCast]; exact hs) (by omega) hE hK rfl hh.out.1 hh.out.2.1 hmod (.inl hbf) hlate (by rw [Int.toNat_natCast]; exact hh.out.2.2)
        · have hE : pushE sns (sn : Int) st n bs = Ck.timeE s.o s.n s.d (Ck.unwV s.last st) := by
            unfold pushE
            rw [if_neg (by rw [hq]; simp), Int.toNat_natCast, hs]
            simp only
            rw [if_neg (by rw [hu]; simp)]
          refine (push_tim x B j sns xs sn sq st A n c bs w w hp.inv hfl hl hq s hs st0 st1 _ rfl hu ht).mono ?_
          rintro e w' ⟨rfl, hb⟩
          exact .bad (by rw [hE]; exact ht) (by rw [hE]) hb
      · have hE : pushE sns (sn : Int) st n bs = 1 := by
          unfold pushE
          rw [if_neg (by rw [hq]; simp), Int.toNat_natCast, hs]
          simp only
          rw [if_pos (by rw [hu]; decide), hu]
        refine (push_unw x B j sns xs sn sq st A n c bs w w hp.inv hfl hl hq s hs st0 st1 hu).mono ?_
        rintro e w' ⟨rfl, hb⟩
        exact .bad (by rw [hE]; decide) (by rw [hE]) hb
  · have hE : pushE sns se st n bs = chkE se n bs := by unfold pushE; rw [if_pos hq]
    refine (push_bad x B j sns xs se sq st A n c bs w w hp.inv hfl hl hq).mono ?_
    rintro e w' ⟨rfl, hb⟩
    exact .bad (by rw [hE]; exact hq) (by rw [hE]) hb
end Go.Proofs.Ytebacmmfjadalaa

namespace Go.Proofs.Ytebacmmfjadalaa
open Go Go.RowKit Go.ChangeShapes Go.WideShapes Go.Deep

theorem bytesC : Try.prog.bytesOf 66 = 24 := by kernel_rfl
section
variable {H : Type} {enc : TypeId × Value → H}
set_option maxRecDepth 100000 in
/-- a list of clocks -/
theorem open_clocks {W : World} {r : Reach} {b0 : Nat} {v : Value} {d : DataW H} {p : List MemPlace} (hsz : ∀ m ∈ d.weights Try.prog 36, m ≤ reachBytes)
    (hv : Value.okWide Try.prog W r b0 36 v) (h : DataW.Trod enc Try.prog W 0 (fun _ => true) true 36 v d p) :
    ∃ (A : Option Addr) (c : Nat) (cs : List (Int × Int × Int)), v = .slice A cs.length c ∧ ClRow W A cs ∧ (cs.length = 0 ∨ A ≠ none) ∧ cs.length * 24 ≤ 140737488355328 := by
  obtain ⟨a0, len, cap, rfl⟩ := okWide_slice Try.underlying36 hv
  obtain ⟨fuel, hf⟩ := h
  rcases open_slice Try.underlying36 hf with ⟨hcs, hx⟩ | ⟨a, len', cap', m, n, D, Pl, hcs, hb, hl, hm, hmm, hx, hi⟩
  · simp only [Value.cells, List.cons.injEq, Value.slice.injEq, and_true] at hcs
    obtain ⟨rfl, rfl, rfl⟩ := hcs
    exact ⟨none, 0, [], rfl, .inl rfl, .inl rfl, by simp⟩
  · simp only [Value.cells, List.cons.injEq, Value.slice.injEq, and_true] at hcs
    obtain ⟨rfl, rfl, rfl⟩ := hcs
    rw [show Try.prog.cellsOf 66 = 3 by kernel_rfl] at hi
    have hmc : m = cap := by rw [hmm]; simp
    simp only [Prod.mk.injEq] at hx
    have hrow : ∀ i, i < len → ∃ q : Int × Int × Int, W.cell? (a.add (i * 3)) = some (.int .i64 q.1) ∧ W.cell? (a.add (i * 3 + 1)) = some (.int .i64 q.2.1) ∧ W.cell? (a.add (i * 3 + 2)) = some (.int .i64 q.2.2) := by
      intro i hi'
      obtain ⟨cs', hc, ht'⟩ := hi i (by omega)
      obtain ⟨xs, n', hn', hy, hlen, hyl, hfld⟩ := DataW.trod_struct Try.underlying66 ht'
      obtain ⟨_, hcl, hat⟩ := World.cells?_some hc
      match cs', hcl with
      | [c0, c1, c2], _ =>
        have hx3 : xs.length = 3 := hyl
        have g0 := hfld 0 _ rfl
        have g1 := hfld 1 _ rfl
        have g2 := hfld 2 _ rfl
        have a0 := hat 0 (by omega)
        have a1 := hat 1 (by omega)
        have a2 := hat 2 (by omega)
        obtain ⟨x, e0, -, -⟩ := DataW.trod_int Try.underlying2 (show DataW.trod enc Try.prog W 0 (fun _ => true) true _ 2 [c0] = some _ from g0.trans (List.getElem?_eq_getElem (show 0 < xs.length by omega)))
        obtain ⟨y, e1, -, -⟩ := DataW.trod_int Try.underlying2 (show DataW.trod enc Try.prog W 0 (fun _ => true) true _ 2 [c1] = some _ from g1.trans (List.getElem?_eq_getElem (show 1 < xs.length by omega)))
        obtain ⟨z, e2, -, -⟩ := DataW.trod_int Try.underlying2 (show DataW.trod enc Try.prog W 0 (fun _ => true) true _ 2 [c2] = some _ from g2.trans (List.getElem?_eq_getElem (show 2 < xs.length by omega)))
        simp at e0 e1 e2
        subst e0 e1 e2
        refine ⟨(x, y, z), ?_, ?_, ?_⟩
        · have := a0; rw [Go.Deep.add_add] at this; simpa using this
        · have := a1; rw [Go.Deep.add_add] at this; simpa using this
        · have := a2; rw [Go.Deep.add_add] at this; simpa using this
    have hsk : ∀ i, ∃ q : Int × Int × Int, i < len → W.cell? (a.add (i * 3)) = some (.int .i64 q.1) ∧ W.cell? (a.add (i * 3 + 1)) = some (.int .i64 q.2.1) ∧ W.cell? (a.add (i * 3 + 2)) = some (.int .i64 q.2.2) := by
      intro i
      by_cases hi' : i < len
      · obtain ⟨q, hq⟩ := hrow i hi'
        exact ⟨q, fun _ => hq⟩
      · exact ⟨(0, 0, 0), fun h => absurd h hi'⟩
    obtain ⟨f, hf'⟩ := Classical.axiomOfChoice hsk
    have hlf : ((List.range len).map f).length = len := by simp
    have hgf : ∀ j, j < len → ((List.range len).map f).getD j (0, 0, 0) = f j := fun j hj => by simp [List.getD_eq_getElem?_getD, List.getElem?_range hj]
    refine ⟨some a, cap, (List.range len).map f, by rw [hlf], ?_, .inr (by simp), ?_⟩
    · rcases Nat.eq_zero_or_pos len with h0 | h0
      · subst h0; exact .inl rfl
      · right
        obtain ⟨b, off, spot⟩ := a
        have hspot : spot = none := by simpa [Addr.add] using World.cell?_spot (hf' 0 h0).1
        subst hspot
        refine ⟨b, off, rfl, cell_lt (a := ⟨b, off, none⟩) (by have := (hf' 0 h0).1; rw [add_plain] at this; exact this), fun j hj => ?_⟩
        rw [hlf] at hj
        rw [hgf j hj]
        have := hf' j hj
        rw [add_plain, add_plain, add_plain] at this
        exact this
    · rw [hlf]
      have h1 := hsz ((len + (m - len)) * 24) (by
        rw [hx.1]
        simp only [DataW.weights, Try.underlying36, bytesC, List.length_map, List.length_range]
        exact List.mem_cons_self)
      have := reachBytes_lt
      omega

/-- readings of bits behind a slice -/
def In.row4 (e : In) : List Value := [.int .i64 e.se, .int .u32 e.sq, .int .u32 e.st, .slice e.v e.n e.c]
def RdAt (w : World) (A : Option Addr) (xs : List In) : Prop := xs = [] ∨ ∃ b off, A = some ⟨b, off, none⟩ ∧ b < w.heap.size ∧ ∀ i e, xs[i]? = some e → ∀ j, j < 4 → w.cell? ⟨b, off + i * 4 + j, none⟩ = e.row4[j]?
theorem RdAt.below {w w' : World} {A : Option Addr} {xs : List In} (h : RdAt w A xs) (hb : Below w.heap.size w w') : RdAt w' A xs := by
  refine h.imp id ?_
  rintro ⟨b, off, h3, h4, h5⟩
  exact ⟨b, off, h3, Nat.lt_of_lt_of_le h4 hb.size, fun i e he j hj => (hb.cell (p := ⟨b, off + i * 4 + j, none⟩) h4).trans (h5 i e he j hj)⟩
set_option maxRecDepth 100000 in
theorem open_readings {W : World} {r : Reach} {b0 : Nat} {v : Value} {d : DataW H} {p : List MemPlace} (hsz : ∀ m ∈ d.weights Try.prog 37, m ≤ reachBytes)
    (hv : Value.okWide Try.prog W r b0 37 v) (h : DataW.Trod enc Try.prog W 0 (fun _ => true) true 37 v d p) :
    ∃ (A : Option Addr) (c : Nat) (xs : List In), v = .slice A xs.length c ∧ RdAt W A xs ∧ ∀ e ∈ xs, InOk W e := by
  obtain ⟨a0, len, cap, rfl⟩ := okWide_slice Try.underlying37 hv
  obtain ⟨fuel, hf⟩ := h
  rcases open_slice Try.underlying37 hf with ⟨hcs, hx⟩ | ⟨a, len', cap', m, n, D, Pl, hcs, hb, hl, hm, hmm, hx, hi⟩
  · simp only [Value.cells, List.cons.injEq, Value.slice.injEq, and_true] at hcs
    obtain ⟨rfl, rfl, rfl⟩ := hcs
    exact ⟨none, 0, [], rfl, .inl rfl, fun e he => by simp at he⟩
  · simp only [Value.cells, List.cons.injEq, Value.slice.injEq, and_true] at hcs
    obtain ⟨rfl, rfl, rfl⟩ := hcs
    rw [show Try.prog.cellsOf 44 = 4 by kernel_rfl] at hi
    have hmc : m = cap := by rw [hmm]; simp
    simp only [Prod.mk.injEq] at hx
    have hrow : ∀ i, i < len → ∃ e : In, InOk W e ∧ ∀ j, j < 4 → W.cell? (a.add (i * 4 + j)) = e.row4[j]? := by
      intro i hi'
      obtain ⟨cs', hc, ht'⟩ := hi i (by omega)
      have hwt : ∀ k ∈ (D i).weights Try.prog 44, k ≤ reachBytes := by
        intro k hk
        refine hsz k ?_
        rw [hx.1]
        simp only [DataW.weights, Try.underlying37, List.mem_cons, List.mem_append]
        right; left
        exact weights_all (List.mem_map.2 ⟨i, List.mem_range.2 hi', rfl⟩) k hk
      obtain ⟨_, hcl, hat⟩ := World.cells?_some hc
      obtain ⟨se, sq, st, v, k, c, us, r1, r2, r3, r4, r5, r6, -⟩ := open_reading ht' hwt
      subst r1
      refine ⟨⟨0, se, sq, st, v, k, c, us⟩, ⟨r2, r3, r4, r5, r6⟩, fun j hj => ?_⟩
      have := hat j hj
      rw [Go.Deep.add_add] at this
      rw [this]
      rfl
    have hsk : ∀ i, ∃ e : In, i < len → InOk W e ∧ ∀ j, j < 4 → W.cell? (a.add (i * 4 + j)) = e.row4[j]? := by
      intro i
      by_cases hi' : i < len
      · obtain ⟨e, he⟩ := hrow i hi'
        exact ⟨e, fun _ => he⟩
      · exact ⟨⟨0, 0, 0, 0, none, 0, 0, []⟩, fun h => absurd h hi'⟩
    obtain ⟨f, hf'⟩ := Classical.axiomOfChoice hsk
    have hlf : ((List.range len).map f).length = len := by simp
    refine ⟨some a, cap, (List.range len).map f, by rw [hlf], ?_, fun e he => ?_⟩
    · rcases Nat.eq_zero_or_pos len with h0 | h0
      · subst h0; exact .inl rfl
      · right
        obtain ⟨b, off, spot⟩ := a
        have hspot : spot = none := by simpa [Addr.add] using World.cell?_spot ((hf' 0 h0).2 0 (by omega))
        subst hspot
        refine ⟨b, off, rfl, cell_lt (a := ⟨b, off, none⟩) (by have := (hf' 0 h0).2 0 (by omega); rw [add_plain] at this; exact this), fun i e he j hj => ?_⟩
        rw [List.getElem?_map] at he
        have hi' : i < len := by
          rcases Nat.lt_or_ge i len with h | h
          · exact h
          · rw [List.getElem?_eq_none (by simp; omega)] at he; simp at he
        rw [List.getElem?_range hi'] at he
        simp only [Option.map_some, Option.some.injEq] at he
        subst he
        have := (hf' i hi').2 j hj
        rw [add_plain] at this
        rw [Nat.add_assoc]
        exact this
    · obtain ⟨i, hi', rfl⟩ := List.mem_map.1 he
      exact (hf' i (List.mem_range.1 hi')).1
end
end Go.Proofs.Ytebacmmfjadalaa

namespace Go.Proofs.Ytebacmmfjadalaa
open Go Go.RowKit

theorem Row.keep {B : Nat} {w w' : World} {v : Value} {xs : List El} (h : Row B w v xs) (e : ∀ k, v.ownBlock = some k → k < w.heap.size → w'.heap[k]? = w.heap[k]?) : Row B w' v xs := by
  refine ⟨h.1, ?_⟩
  rcases h.2 with hn | ⟨g, cap, cur, hv, h1, h2, h3⟩
  · exact .inl hn
  · exact .inr ⟨g, cap, cur, hv, h1, (e g (by rw [hv]; rfl) (Array.getElem?_eq_some_iff.1 h2).1).trans h2, h3⟩
theorem Inv.ft {w W W' : World} {x B : Nat} {j : Jn} {sns : List Sn} {xs : List El} {F : Nat → Prop} (h : Inv w W x B j sns xs) (k : Ft W W' F) (hF : ∀ b, F b → b ≠ x ∧ j.sen.ownBlock ≠ some b ∧ j.wait.ownBlock ≠ some b) : Inv W' W' x B j sns xs := by
  have hxW : x < W.heap.size := by have := h.big; have := h.xB; omega
  have hx : W'.heap[x]? = W.heap[x]? := k.block x hxW (fun hf => (hF x hf).1 rfl)
  exact ⟨h.jn.same (fun i => World.cell?_of_block hx), h.sn.heap (fun g _ hg hl => k.block g hl (fun hf => (hF g hf).2.1 hg)), h.row.keep (fun g hg hl => k.block g hl (fun hf => (hF g hf).2.2 hg)), fun i => (World.frozen?_of_block hx).trans (h.fz i), Nat.le_trans h.big k.size, h.xB, Below.refl _ _⟩
/-- a joiner, what it told, what waits; k readings were handed to it -/
structure JR (W : World) (x B : Nat) (j : Jn) (sns : List Sn) (xs told : List El) (k : Nat) : Prop where
  inv : Inv W W x B j sns xs
  vi : VI W B j.wait xs
  own : ∀ g, j.sen.ownBlock = some g → x < g ∧ g < B
  jp : JP j sns xs told
  hor : j.some = true → j.hor ≤ j.top + 1
  few : j.ct ≤ (k : Int) ∧ j.cd ≤ (k : Int) ∧ j.co ≤ (k : Int) ∧ j.cl ≤ (k : Int)
/-- a block is none of the joiner's -/
def Out (x : Nat) (j : Jn) (xs : List El) (b : Nat) : Prop := b ≠ x ∧ j.sen.ownBlock ≠ some b ∧ j.wait.ownBlock ≠ some b ∧ ∀ e ∈ xs, Away e (some b)
theorem JR.ft {W W' : World} {x B : Nat} {j : Jn} {sns : List Sn} {xs told : List El} {k : Nat} {F : Nat → Prop} (h : JR W x B j sns xs told k) (hk : Ft W W' F) (hF : ∀ b, F b → Out x j xs b) : JR W' x B j sns xs told k :=
  ⟨h.inv.ft hk (fun b hb => ⟨(hF b hb).1, (hF b hb).2.1, (hF b hb).2.2.1⟩), fun e he => by
    obtain ⟨h1, h2, h3, h4⟩ := h.vi e he
    exact ⟨h1.ft hk (fun b f hv hb => (hF b hb).2.2.2 e he b f hv rfl), h2, h3, h4⟩, h.own, h.jp, h.hor, h.few⟩
theorem JR.below {W W' : World} {x B : Nat} {j : Jn} {sns : List Sn} {xs told : List El} {k : Nat} (h : JR W x B j sns xs told k) (hb : Below W.heap.size W W') : JR W' x B j sns xs told k := h.ft (Ft.of_below hb (fun _ => False)) (fun _ hb => hb.elim)
theorem JR.mono {W : World} {x B : Nat} {j : Jn} {sns : List Sn} {xs told : List El} {k m : Nat} (h : JR W x B j sns xs told k) (hm : k ≤ m) : JR W x B j sns xs told m := by
  obtain ⟨f1, f2, f3, f4⟩ := h.few
  exact ⟨h.inv, h.vi, h.own, h.jp, h.hor, by omega, by omega, by omega, by omega⟩
/-- all blocks from the heap's end on are none of the joiner's -/
theorem JR.out {W : World} {x B : Nat} {j : Jn} {sns : List Sn} {xs told : List El} {k b : Nat} (h : JR W x B j sns xs told k) (hb : W.heap.size ≤ b) : Out x j xs b := by
  have h1 := h.inv.big
  have h2 := h.inv.xB
  refine ⟨by omega, fun hg => ?_, fun hg => ?_, fun e he b' f hv hq => ?_⟩
  · have := (h.own b hg).2; omega
  · have := (h.inv.row.lt hg).2; omega
  · injection hq with hq
    have := (h.vi e he).1.lt hv
    omega
theorem JR.len {W : World} {x B : Nat} {j : Jn} {sns : List Sn} {xs told : List El} {k : Nat} (h : JR W x B j sns xs told k) : told.length + xs.length ≤ k := by
  have := h.few.1; have := h.jp.cnt; omega
theorem JR.pushIn {W : World} {x B : Nat} {j : Jn} {sns : List Sn} {xs told : List El} {k : Nat} (h : JR W x B j sns xs told k) (hk : k ≤ 4000) : PushIn W x B j sns xs := by
  obtain ⟨f1, f2, f3, f4⟩ := h.few
  have hc := h.jp.cnt
  have hs := h.jp.cs
  exact ⟨h.inv, h.vi, h.own, h.jp.ok, h.jp.num, by omega, by omega, by omega, by omega, by omega, by omega⟩
theorem JP.counts {j : Jn} {sns : List Sn} {xs told : List El} (h : JP j sns xs told) (k : Int) : JP (cntJ j k) sns xs told := by
  have hn := h.num
  unfold cntJ
  split
  · exact ⟨h.ok, h.heap, h.know, h.dist, h.srt, h.low, h.high, h.top, h.none, ⟨hn.c0, hn.k0, by have := hn.d0; show 0 ≤ j.cd + 1; omega, hn.o0, hn.l0, hn.t0, hn.t1, hn.w0, hn.w1⟩, h.cnt, h.cs⟩
  · split
    · exact ⟨h.ok, h.heap, h.know, h.dist, h.srt, h.low, h.high, h.top, h.none, ⟨hn.c0, hn.k0, hn.d0, by have := hn.o0; show 0 ≤ j.co + 1; omega, hn.l0, hn.t0, hn.t1, hn.w0, hn.w1⟩, h.cnt, h.cs⟩
    · exact ⟨h.ok, h.heap, h.know, h.dist, h.srt, h.low, h.high, h.top, h.none, ⟨hn.c0, hn.k0, hn.d0, hn.o0, by have := hn.l0; show 0 ≤ j.cl + 1; omega, hn.t0, hn.t1, hn.w0, hn.w1⟩, h.cnt, h.cs⟩
theorem cntJ_same (j : Jn) (k : Int) : (cntJ j k).sen = j.sen ∧ (cntJ j k).wait = j.wait ∧ (cntJ j k).some = j.some ∧ (cntJ j k).hor = j.hor ∧ (cntJ j k).top = j.top ∧ (cntJ j k).ct = j.ct ∧ (cntJ j k).cs = j.cs ∧ (cntJ j k).win = j.win := by
  unfold cntJ
  split
  · exact ⟨rfl, rfl, rfl, rfl, rfl, rfl, rfl, rfl⟩
  · split <;> exact ⟨rfl, rfl, rfl, rfl, rfl, rfl, rfl, rfl⟩
theorem cntJ_few {j : Jn} {m : Nat} (k : Int) (h : j.ct ≤ (m : Int) ∧ j.cd ≤ (m : Int) ∧ j.co ≤ (m : Int) ∧ j.cl ≤ (m : Int)) : (cntJ j k).ct ≤ ((m + 1 : Nat) : Int) ∧ (cntJ j k).cd ≤ ((m + 1 : Nat) : Int) ∧ (cntJ j k).co ≤ ((m + 1 : Nat) : Int) ∧ (cntJ j k).cl ≤ ((m + 1 : Nat) : Int) := by
  obtain ⟨h1, h2, h3, h4⟩ := h
  unfold cntJ
  split
  · refine ⟨?_, ?_, ?_, ?_⟩ <;> simp only <;> omega
  · split <;> refine ⟨?_, ?_, ?_, ?_⟩ <;> simp only <;> omega
theorem riseH_le {j : Jn} {t : Int} (hn : JNum j) (h : j.some = true → j.hor ≤ j.top + 1) (t0 : -1125899906842624 ≤ t) : riseH j t ≤ riseT j t + 1 := by
  have hT := (riseT_ge (j := j) (t := t)).1
  have hT2 := (riseT_ge (j := j) (t := t)).2
  have hw := hn.w0
  unfold riseH riseM
  split
  · omega
  · rename_i hc
    have hs : j.some = true := by
      cases hs : j.some with
      | true => rfl
      | false => exact absurd (.inl hs) hc
    have := h hs
    have := hT2 hs
    omega

/-- what becomes of a joiner by a push -/
inductive PushHow (j : Jn) (sns : List Sn) (xs : List El) (se sq st : Int) (n : Nat) (bs : List Nat) (kind er : Int) (j' : Jn) (sns' : List Sn) (xs' mid : List El) : Prop where
  | bad (h : pushE sns se st n bs ≠ 0) (e1 : kind = 0) (e2 : er = pushE sns se st n bs) (e3 : j' = j) (e4 : sns' = sns) (e5 : xs' = xs) (e6 : mid = [])
  | cnt (s : Sn) (hs : sns[se.toNat]? = some s) (h : pushE sns se st n bs = 0) (hk : kind = pushK j s sq (Ck.timeV s.o s.n s.d (Ck.unwV s.last st))) (hk1 : kind ≠ 1) (e2 : er = 0) (e3 : j' = cntJ j kind) (e4 : sns' = sns) (e5 : xs' = xs) (e6 : mid = [])
  | took (s : Sn) (e0 : El) (v' : Value) (dn : Nat) (hs : sns[se.toNat]? = some s) (hse : 0 ≤ se) (h : pushE sns se st n bs = 0) (hk : pushK j s sq (Ck.timeV s.o s.n s.d (Ck.unwV s.last st)) = 1) (e1 : kind = 1) (e2 : er = 0)
      (hkey : e0.key = Ck.timeV s.o s.n s.d (Ck.unwV s.last st) :: se :: sq :: st :: (n : Int) :: bs.map keyN) (hdn : (s.most - sq) % 4294967296 = (dn : Int)) (hno : below' s sq = false ∨ (dn < 64 ∧ s.most - sq = (dn : Int) ∧ bitAt s dn = false))
      (hl : j.some = false ∨ j.hor ≤ Ck.timeV s.o s.n s.d (Ck.unwV s.last st))
      (e3 : j' = { riseJ j (Ck.timeV s.o s.n s.d (Ck.unwV s.last st)) with ct := j.ct + 1, wait := v', cs := j.cs + (tkT j xs (Ck.timeV s.o s.n s.d (Ck.unwV s.last st)) e0).1.length })
      (e4 : sns' = sns.set se.toNat (tkL s sq (Ck.unwV s.last st))) (e5 : xs' = (tkT j xs (Ck.timeV s.o s.n s.d (Ck.unwV s.last st)) e0).2) (e6 : mid = (tkT j xs (Ck.timeV s.o s.n s.d (Ck.unwV s.last st)) e0).1)
/-- what a push leaves -/
structure PushL (w w' : World) (x B : Nat) (j : Jn) (sns : List Sn) (xs told : List El) (k : Nat) (se sq st : Int) (n : Nat) (bs : List Nat) (kind er : Int) (ov : Value) (j' : Jn) (sns' : List Sn) (xs' mid : List El) : Prop where
  jr : JR w' x B j' sns' xs' (told ++ mid) (k + 1)
  out : Row w.heap.size w' ov mid
  ok : ∀ e ∈ mid, ElOk w' e
  ft : Ft w w' (fun b => b = x ∨ j.sen.ownBlock = some b ∨ j.wait.ownBlock = some b)
  sen : j'.sen = j.sen
  wait : j'.wait.ownBlock = j.wait.ownBlock ∨ ∃ g, j'.wait.ownBlock = some g ∧ w.heap.size ≤ g
  apart : ∀ g, ov.ownBlock = some g → j'.wait.ownBlock ≠ some g
  new : ∀ e ∈ mid ++ xs', e ∈ xs ∨ ∀ b f, e.v = some ⟨b, f, none⟩ → w.heap.size ≤ b
  nil : er ≠ 0 ∨ kind ≠ 1 → ov = .slice none 0 0 ∧ mid = [] ∧ j'.ct = j.ct
  one : er = 0 → kind = 1 → j'.ct = j.ct + 1
  how : PushHow j sns xs se sq st n bs kind er j' sns' xs' mid
/-- what is not the joiner's stays so -/
theorem PushL.outs {w w' : World} {x B : Nat} {j : Jn} {sns : List Sn} {xs told : List El} {k : Nat} {se sq st : Int} {n : Nat} {bs : List Nat} {kind er : Int} {ov : Value} {j' : Jn} {sns' : List Sn} {xs' mid : List El}
    (h : PushL w w' x B j sns xs told k se sq st n bs kind er ov j' sns' xs' mid) {b : Nat} (hb : Out x j xs b) (hl : b < w.heap.size) : Out x j' xs' b := by
  obtain ⟨h1, h2, h3, h4⟩ := hb
  refine ⟨h1, by rw [h.sen]; exact h2, fun hg => ?_, fun e he b' f hv hq => ?_⟩
  · rcases h.wait with q | ⟨g, q1, q2⟩
    · rw [q] at hg; exact h3 hg
    · rw [q1] at hg; injection hg with hg; omega
  · rcases h.new e (List.mem_append_right _ he) with q | q
    · exact h4 e q b' f hv hq
    · injection hq with hq
      have := q b' f hv
      omega

set_option maxRecDepth 8000 in
theorem JR.push (x B : Nat) (j : Jn) (sns : List Sn) (xs told : List El) (k : Nat) (se sq st : Int) (A : Option Addr) (n c : Nat) (bs : List Nat) (w : World) (h : JR w x B j sns xs told k) (hk4 : k ≤ 4000) (hfl : FlAt w A n bs) (hl : n * 8 ≤ 140737488355328) (hlt64 : Lt64 bs)
    (hfar : ∀ b f, A = some ⟨b, f, none⟩ → Out x j xs b) (st0 : 0 ≤ st) (st1 : st ≤ 4294967295) (q0 : 0 ≤ sq) (q1 : sq ≤ 4294967295) :
    Calls Try.prog 15 #[.pointer (some ⟨x, 0, none⟩), .agg #[.int .i64 se, .int .u32 sq, .int .u32 st, .slice A n c]] w fun e w' => ∃ kind er ov j' sns' xs' mid, e = .returned (.tuple #[.int .i64 kind, ov, .int .i64 er]) ∧ Hid (PushL w w' x B j sns xs told k se sq st n bs kind er ov j' sns' xs' mid) := by
  refine (push_all x B j sns xs se sq st A n c bs w (h.pushIn hk4) hfl hl hlt64 (fun b f hA => ⟨(hfar b f hA).1, (hfar b f hA).2.1, (hfar b f hA).2.2.1⟩) st0 st1 q0 q1).mono ?_
  intro e w' hP
  cases hP with
  | bad hE he hb =>
    refine ⟨0, _, _, j, sns, xs, [], he, Lib.hid ⟨?_, World.ownsRow_nil _ _ _ _, fun e he => by simp at he, Ft.of_below hb _, rfl, .inl rfl, fun g hg => by simp [Value.ownBlock] at hg, fun e he => .inl he, fun _ => ⟨rfl, rfl, rfl⟩, fun q _ => absurd q hE, .bad hE rfl rfl rfl rfl rfl rfl⟩⟩
    rw [List.append_nil]
    exact (h.below hb).mono (Nat.le_succ k)
  | cnt s hs hE hk he hi hf =>
    obtain ⟨KD, hKD⟩ : ∃ y, pushK j s sq (Ck.timeV s.o s.n s.d (Ck.unwV s.last st)) = y := ⟨_, rfl⟩
    rw [hKD] at hk he hi
    obtain ⟨c1, c2, c3, c4, c5, c6, c7, c8⟩ := cntJ_same j KD
    refine ⟨KD, 0, _, cntJ j KD, sns, xs, [], he, Lib.hid ⟨?_, World.ownsRow_nil _ _ _ _, fun e he => by simp at he, hf.mono (fun b _ hb => .inl hb), c1, .inl (by rw [c2]), fun g hg => by simp [Value.ownBlock] at hg, fun e he => .inl he, fun _ => ⟨rfl, rfl, c6⟩, fun _ q => absurd q hk, .cnt s hs hE hKD.symm hk rfl rfl rfl rfl rfl⟩⟩
    rw [List.append_nil]
    refine ⟨hi.rebase, ?_, ?_, h.jp.counts KD, ?_, cntJ_few KD h.few⟩
    · rw [c2]
      exact h.vi.ft hf (fun b hb => .inl (by rw [hb]; exact h.inv.xB))
    · rw [c1]; exact h.own
    · rw [c3, c4, c5]; exact h.hor
  | took s ov v' e0 sb dn hs hse hE hk he hsb hkey hdn hno hlt ht =>
    obtain ⟨T, hT⟩ : ∃ y, Ck.timeV s.o s.n s.d (Ck.unwV s.last st) = y := ⟨_, rfl⟩
    have hTb := timeV_bd s.o s.n s.d (Ck.unwV s.last st)
    have hhow : PushHow j sns xs se sq st n bs 1 0 { riseJ j T with ct := j.ct + 1, wait := v', cs := j.cs + (tkT j xs T e0).1.length } (sns.set se.toNat (tkL s sq (Ck.unwV s.last st))) (tkT j xs T e0).2 (tkT j xs T e0).1 :=
      .took s e0 v' dn hs hse hE hk rfl rfl hkey hdn hno hlt (by rw [hT]) rfl (by rw [hT]) (by rw [hT])
    rw [hT] at ht hkey hlt hTb
    have hse2 : ((se.toNat : Nat) : Int) = se := by omega
    rw [← hse2] at hkey
    have hjp := h.jp.take (cnt := Ck.unwV s.last st) (v' := v') hs hkey q0 q1 hdn hno hlt hTb.1 hTb.2
    obtain ⟨f1, f2, f3, f4⟩ := h.few
    refine ⟨1, 0, ov, _, _, _, _, he, Lib.hid ⟨⟨ht.inv.rebase, ?_, h.own, hjp, ?_, ?_⟩, ht.out, ?_, ?_, rfl, ht.own, ht.apart, ?_, ?_, fun _ _ => rfl, hhow⟩⟩
    · exact ht.vi.sub (fun e he => List.mem_append_right _ he)
    · intro _
      exact riseH_le h.jp.num h.hor hTb.1
    · refine ⟨?_, ?_, ?_, ?_⟩
      · show j.ct + 1 ≤ _
        omega
      · show j.cd ≤ _
        omega
      · show j.co ≤ _
        omega
      · show j.cl ≤ _
        omega
    · exact fun e he => (ht.vi e (List.mem_append_left _ he)).1
    · refine ht.ft.mono (fun b _ hb => ?_)
      rcases hb with hb | hb | hb
      · exact .inl hb
      · exact .inr (.inl (by rw [hb]; exact hsb))
      · exact .inr (.inr hb)
    · intro e he
      have h1 := due_mem _ _ _ _ e he
      rcases h1 with h1 | h1
      · simp at h1
      · rcases List.mem_append.1 (upL_mem cmpK _ _ _ e h1) with h2 | h2
        · exact .inl h2
        · rw [List.mem_singleton.1 h2]
          exact .inr ht.fresh
    · rintro (q | q)
      · exact absurd rfl q
      · exact absurd rfl q

/-- what a flush leaves -/
structure FlushL (w w' : World) (x B : Nat) (j : Jn) (sns : List Sn) (xs told : List El) (k : Nat) (ov : Value) (j' : Jn) (mid : List El) : Prop where
  jr : JR w' x B j' sns [] (told ++ mid) k
  out : Row w.heap.size w' ov mid
  ok : ∀ e ∈ mid, ElOk w' e
  ft : Ft w w' (fun b => b = x ∨ j.wait.ownBlock = some b)
  sen : j'.sen = j.sen
  wait : j'.wait.ownBlock = j.wait.ownBlock
  apart : ∀ g, ov.ownBlock = some g → j'.wait.ownBlock ≠ some g
  ct : j'.ct = j.ct
  sub : ∀ e ∈ mid, e ∈ xs
  how : (j.some = false ∧ j' = j ∧ xs = [] ∧ mid = []) ∨ (j.some = true ∧ mid = (dueL cmpK (xs.length + 1) xs (j.top + 1) []).1 ∧ j' = { j with hor := j.top + 1, wait := j'.wait, cs := j.cs + mid.length })
theorem FlushL.outs {w w' : World} {x B : Nat} {j : Jn} {sns : List Sn} {xs told : List El} {k : Nat} {ov : Value} {j' : Jn} {mid : List El}
    (h : FlushL w w' x B j sns xs told k ov j' mid) {b : Nat} (hb : Out x j xs b) : Out x j' [] b :=
  ⟨hb.1, by rw [h.sen]; exact hb.2.1, by rw [h.wait]; exact hb.2.2.1, fun e he => by simp at he⟩
theorem JR.flush (x B : Nat) (j : Jn) (sns : List Sn) (xs told : List El) (k : Nat) (w : World) (h : JR w x B j sns xs told k) (hk4 : k ≤ 4000) :
    Calls Try.prog 18 #[.pointer (some ⟨x, 0, none⟩)] w fun e w' => ∃ ov j' mid, e = .returned ov ∧ Hid (FlushL w w' x B j sns xs told k ov j' mid) := by
  cases hs : j.some with
  | false =>
    obtain ⟨hx, ht⟩ := h.jp.none hs
    subst hx ht
    refine (flush_none x B j sns [] w w h.inv hs).mono ?_
    rintro e w' ⟨rfl, hb⟩
    exact ⟨_, j, [], rfl, Lib.hid ⟨h.below hb, World.ownsRow_nil _ _ _ _, fun e he => by simp at he, Ft.of_below hb _, rfl, rfl, fun g hg => by simp [Value.ownBlock] at hg, rfl, fun e he => he, .inl ⟨hs, rfl, rfl, rfl⟩⟩⟩
  | true =>
    have hn := h.jp.num
    have hc := h.jp.cnt
    have hq := h.jp.cs
    obtain ⟨f1, f2, f3, f4⟩ := h.few
    refine (flush_some x B j sns xs w w h.inv h.vi h.own hs (by omega) (by omega) (by omega) (by have := hn.t0; omega) (by have := hn.t1; omega)).mono ?_
    rintro e w' ⟨ov, v', rfl, hh⟩
    obtain ⟨mid, d1, d2, d3, d4⟩ := h.jp.flush (v' := v') hs (h.hor hs)
    have hF := hh.out
    refine ⟨ov, { j with hor := j.top + 1, wait := v', cs := j.cs + mid.length }, mid, rfl, Lib.hid ⟨⟨?_, fun e he => by simp at he, h.own, d4, fun _ => Int.le_refl _, f1, f2, f3, f4⟩, ?_, ?_, hF.ft, rfl, hF.own, hF.apart, rfl, fun e he => d2.mem_iff.1 he, .inr ⟨hs, by rw [d1], rfl⟩⟩⟩
    · have := hF.inv
      rw [d1] at this
      exact this.rebase
    · have := hF.out
      rw [d1] at this
      exact this
    · have := hF.vi
      rw [d1] at this
      exact fun e he => (this e (List.mem_append_left _ he)).1
end Go.Proofs.Ytebacmmfjadalaa

namespace Go.Proofs.Ytebacmmfjadalaa
open Go Go.RowKit

/-- a joiner, and all that it told in a row apart -/
structure TR (w W : World) (x B : Nat) (j : Jn) (sns : List Sn) (xs told : List El) (k : Nat) (tv : Value) : Prop where
  jr : JR W x B j sns xs told k
  row : Row w.heap.size W tv told
  apart : ∀ g, tv.ownBlock = some g → Out x j xs g
  bel : Below w.heap.size w W
  wx : w.heap.size ≤ x
/-- the same ahead of the append of what was just told -/
structure TQ (w W : World) (x B : Nat) (j : Jn) (sns : List Sn) (xs told mid : List El) (k : Nat) (tv : Value) : Prop where
  jr : JR W x B j sns xs (told ++ mid) k
  row : Row w.heap.size W tv told
  apart : ∀ g, tv.ownBlock = some g → Out x j xs g
  bel : Below w.heap.size w W
  wx : w.heap.size ≤ x
theorem TR.below {w W W' : World} {x B : Nat} {j : Jn} {sns : List Sn} {xs told : List El} {k : Nat} {tv : Value} (h : TR w W x B j sns xs told k tv) (hb : Below W.heap.size W W') : TR w W' x B j sns xs told k tv :=
  ⟨h.jr.below hb, h.row.below hb, h.apart, h.bel.trans (hb.mono h.bel.size), h.wx⟩
theorem TR.mono {w W : World} {x B : Nat} {j : Jn} {sns : List Sn} {xs told : List El} {k m : Nat} {tv : Value} (h : TR w W x B j sns xs told k tv) (hm : k ≤ m) : TR w W x B j sns xs told m tv :=
  ⟨h.jr.mono hm, h.row, h.apart, h.bel, h.wx⟩
theorem TQ.none {w W : World} {x B : Nat} {j : Jn} {sns : List Sn} {xs told mid : List El} {k : Nat} {tv : Value} (h : TQ w W x B j sns xs told mid k tv) (hm : mid = []) : TR w W x B j sns xs told k tv := by
  subst hm
  have := h.jr
  rw [List.append_nil] at this
  exact ⟨this, h.row, h.apart, h.bel, h.wx⟩
theorem newE_zero {cs : List (Int × Int × Int)} {win : Int} (h : newE cs win = 0) : 0 ≤ win ∧ win ≤ 1125899906842624 := by
  unfold newE at h
  split at h
  · cases h
  · omega
theorem JR.start {w1 w2 : World} {cs : List (Int × Int × Int)} {win : Int} {sv : Value} (hE : newE cs win = 0) (hs : SRow (w1.heap.size + 1) w2 sv (cs.map sn0)) (hj : JnAt w2 w1.heap.size ⟨sv, win, .slice none 0 0, false, 0, 0, 0, 0, 0, 0, 0⟩) (hz : ∀ i, w2.frozen? ⟨w1.heap.size, i, none⟩ = false) (hl : w1.heap.size < w2.heap.size) :
    JR w2 w1.heap.size w2.heap.size ⟨sv, win, .slice none 0 0, false, 0, 0, 0, 0, 0, 0, 0⟩ (cs.map sn0) [] [] 0 := by
  obtain ⟨e1, e2⟩ := newE_zero hE
  refine ⟨⟨hj, hs, World.ownsRow_nil _ _ _ _, hz, Nat.le_refl _, hl, Below.refl _ _⟩, fun e he => by simp at he, fun g hg => ?_, ⟨fun s hs => ?_, fun i i0 i1 => by simp at i1, fun e he => by simp at he, List.Pairwise.nil, List.Pairwise.nil, fun e he => by simp at he, fun e he => by simp at he, fun e he => by simp at he, fun _ => ⟨rfl, rfl⟩, ⟨?_, ?_, ?_, ?_, ?_, ?_, ?_, e1, e2⟩, rfl, rfl⟩, (fun q => by cases q), ?_⟩
  · refine ⟨?_, ?_⟩
    · rcases Nat.lt_or_ge w1.heap.size g with q | q
      · exact q
      · exact absurd hg (hs.own (by omega))
    · rcases hs.2 with ⟨h1, -⟩ | ⟨g', cap, cur, h1, h2, h3, -⟩
      · simp only at hg
        rw [h1] at hg
        simp [Value.ownBlock] at hg
      · simp only at hg
        rw [h1] at hg
        simp only [Value.ownBlock] at hg
        injection hg with hg
        subst hg
        exact (Array.getElem?_eq_some_iff.1 h3).1
  · obtain ⟨c, -, rfl⟩ := List.mem_map.1 hs
    refine ⟨?_, ?_, ?_, ?_⟩ <;> simp [sn0]
  all_goals simp
theorem TR.start {w w1 w2 : World} {cs : List (Int × Int × Int)} {win : Int} {sv : Value} (hE : newE cs win = 0) (h1 : Below w.heap.size w w1) (hs : SRow (w1.heap.size + 1) w2 sv (cs.map sn0)) (hj : JnAt w2 w1.heap.size ⟨sv, win, .slice none 0 0, false, 0, 0, 0, 0, 0, 0, 0⟩) (hz : ∀ i, w2.frozen? ⟨w1.heap.size, i, none⟩ = false) (hl : w1.heap.size < w2.heap.size) (hb : Below w1.heap.size w1 w2) :
    TR w w2 w1.heap.size w2.heap.size ⟨sv, win, .slice none 0 0, false, 0, 0, 0, 0, 0, 0, 0⟩ (cs.map sn0) [] [] 0 (.slice none 0 0) :=
  ⟨JR.start hE hs hj hz hl, World.ownsRow_nil _ _ _ _, fun g hg => by simp [Value.ownBlock] at hg, h1.trans (hb.mono h1.size), h1.size⟩
/-- behind a push -/
theorem TR.pushed {w W W2 : World} {x B : Nat} {j : Jn} {sns : List Sn} {xs told : List El} {k : Nat} {tv : Value} {se sq st : Int} {n : Nat} {bs : List Nat} {kind er : Int} {ov : Value} {j' : Jn} {sns' : List Sn} {xs' mid : List El}
    (h : TR w W x B j sns xs told k tv) (hp : PushL W W2 x B j sns xs told k se sq st n bs kind er ov j' sns' xs' mid) : TQ w W2 x B j' sns' xs' told mid (k + 1) tv := by
  refine ⟨hp.jr, h.row.keep (fun g hg hl => hp.ft.block g hl ?_), fun g hg => hp.outs (h.apart g hg) (h.row.lt hg).2, h.bel.trans (hp.ft.below h.bel.size (fun b hb => ?_)), h.wx⟩
  · obtain ⟨o1, o2, o3, -⟩ := h.apart g hg
    rintro (q | q | q)
    · exact o1 q
    · exact o2 q
    · exact o3 q
  · have hx := h.wx
    have hB := h.jr.inv.xB
    rcases hb with q | q | q
    · omega
    · have := (h.jr.own b q).1; omega
    · have := (h.jr.inv.row.lt q).1; omega
/-- behind a flush -/
theorem TR.flushed {w W W2 : World} {x B : Nat} {j : Jn} {sns : List Sn} {xs told : List El} {k : Nat} {tv : Value} {ov : Value} {j' : Jn} {mid : List El}
    (h : TR w W x B j sns xs told k tv) (hp : FlushL W W2 x B j sns xs told k ov j' mid) : TQ w W2 x B j' sns [] told mid k tv := by
  refine ⟨hp.jr, h.row.keep (fun g hg hl => hp.ft.block g hl ?_), fun g hg => hp.outs (h.apart g hg), h.bel.trans (hp.ft.below h.bel.size (fun b hb => ?_)), h.wx⟩
  · obtain ⟨o1, o2, o3, -⟩ := h.apart g hg
    rintro (q | q)
    · exact o1 q
    · exact o3 q
  · have hx := h.wx
    have hB := h.jr.inv.xB
    rcases hb with q | q
    · omega
    · have := (h.jr.inv.row.lt q).1; omega
/-- behind the append -/
theorem TQ.append {w W W' : World} {x B : Nat} {j : Jn} {sns : List Sn} {xs told mid : List El} {k : Nat} {tv tv' : Value} (h : TQ w W x B j sns xs told mid k tv) (hr : Row w.heap.size W' tv' (told ++ mid)) (hg : W.grownBy W' tv.ownBlock) (ha : tv'.ownBlock = tv.ownBlock ∨ tv'.ownBlock = some W.heap.size) :
    TR w W' x B j sns xs (told ++ mid) k tv' := by
  have hF : Ft W W' (fun b => tv.ownBlock = some b) := ⟨hg.os, hg.tape, hg.output, hg.size, fun b hb hn => hg.block b hb (fun e => hn e.symm)⟩
  refine ⟨h.jr.ft hF (fun b hb => h.apart b hb), hr, fun g hq => ?_, h.bel.trans (hF.below h.bel.size (fun b hb => (h.row.lt hb).1)), h.wx⟩
  rcases ha with q | q
  · rw [q] at hq; exact h.apart g hq
  · rw [q] at hq
    injection hq with hq
    exact h.jr.out (by omega)
theorem pw_get {R : El → El → Prop} {l : List El} (h : l.Pairwise R) {i k : Nat} {a b : El} (hik : k < i) (ha : l[i]? = some a) (hb : l[k]? = some b) : R b a := by
  obtain ⟨h1, h2⟩ := List.getElem?_eq_some_iff.1 ha
  obtain ⟨h3, h4⟩ := List.getElem?_eq_some_iff.1 hb
  have := List.pairwise_iff_getElem.1 h k i h3 h1 hik
  rw [h2, h4] at this
  exact this
/-- a new joiner, whatever it is made of -/
theorem new_all (A : Option Addr) (cc n : Nat) (cs : List (Int × Int × Int)) (win : Int) (w : World) (hn : cs.length = n) (hc : ClRow w A cs) :
    Calls Try.prog 14 #[.slice A n cc, .int .i64 win] w (NewP w cs win) := by
  by_cases h : 64 < n ∨ win < 0 ∨ 1125899906842624 < win
  · exact new_long A cc n cs win w hn h
  · exact new_gen A cc n cs win w hn hc (by omega) (by omega) (by omega)
end Go.Proofs.Ytebacmmfjadalaa

namespace Go.Proofs.Ytebacmmfjadalaa
open Go Go.RowKit

section
variable {α β : Type} (g : α → β) {C : α → α → Int} {C' : β → β → Int} (hC : ∀ a b, C a b = C' (g a) (g b))
theorem sw_map (xs : List α) (i k : Nat) : (sw xs i k).map g = sw (xs.map g) i k := by
  unfold sw
  rw [List.getElem?_map, List.getElem?_map]
  cases xs[i]? with
  | none => rfl
  | some a =>
    cases xs[k]? with
    | none => rfl
    | some b => simp only [Option.map_some, List.map_set]
include hC
theorem ltAt_map (xs : List α) (i k : Nat) : ltAt C xs i k = ltAt C' (xs.map g) i k := by
  unfold ltAt
  rw [List.getElem?_map, List.getElem?_map]
  cases xs[i]? with
  | none => rfl
  | some a =>
    cases xs[k]? with
    | none => rfl
    | some b => simp only [Option.map_some, hC]
theorem upL_map : ∀ (f : Nat) (xs : List α) (j : Nat), (upL C f xs j).map g = upL C' f (xs.map g) j
  | 0, _, _ => rfl
  | f + 1, xs, j => by
    rw [upL, upL, ltAt_map g hC]
    split
    · rfl
    · rw [upL_map f, sw_map]
theorem kid_map (xs : List α) (i m : Nat) : kid C xs i m = kid C' (xs.map g) i m := by
  unfold kid
  rw [ltAt_map g hC]
theorem downL_map : ∀ (f : Nat) (xs : List α) (i m : Nat), (downL C f xs i m).map g = downL C' f (xs.map g) i m
  | 0, _, _, _ => rfl
  | f + 1, xs, i, m => by
    rw [downL, downL, ltAt_map g hC, kid_map g hC]
    split
    · rfl
    · rw [downL_map f, sw_map]
theorem popL_map (xs : List α) (n : Nat) : (popL C xs n).map g = popL C' (xs.map g) n := by
  unfold popL
  rw [List.map_take, downL_map g hC, sw_map]
theorem dueG_map {at_ : α → Int} {at' : β → Int} (ha : ∀ a, at_ a = at' (g a)) (bef : Int) : ∀ (f : Nat) (xs out : List α), (dueG at_ C f xs bef out).1.map g = (dueG at' C' f (xs.map g) bef (out.map g)).1 ∧ (dueG at_ C f xs bef out).2.map g = (dueG at' C' f (xs.map g) bef (out.map g)).2
  | 0, _, _ => ⟨rfl, rfl⟩
  | f + 1, xs, out => by
    rw [dueG, dueG, List.getElem?_map]
    cases xs[0]? with
    | none => exact ⟨rfl, rfl⟩
    | some a =>
      simp only [Option.map_some, ← ha, List.length_map]
      split
      · have h := dueG_map ha bef f (popL C xs (xs.length - 1)) (out ++ [a])
        rw [popL_map g hC, List.map_append] at h
        exact h
      · exact ⟨rfl, rfl⟩
end
theorem dueL_keys {xs ys : List El} (h : xs.map El.key = ys.map El.key) (bef : Int) (f : Nat) : (dueL cmpK f xs bef []).1.map El.key = (dueL cmpK f ys bef []).1.map El.key ∧ (dueL cmpK f xs bef []).2.map El.key = (dueL cmpK f ys bef []).2.map El.key := by
  rw [dueL_is, dueL_is]
  have h1 := dueG_map El.key (C := cmpK) (C' := lexL) (fun _ _ => rfl) (at_ := El.at_) (at' := fun k => k.headD 0) (fun _ => rfl) bef f xs []
  have h2 := dueG_map El.key (C := cmpK) (C' := lexL) (fun _ _ => rfl) (at_ := El.at_) (at' := fun k => k.headD 0) (fun _ => rfl) bef f ys []
  rw [h] at h1
  exact ⟨h1.1.trans h2.1.symm, h1.2.trans h2.2.symm⟩
/-- two joiners stand alike -/
structure SJ (a b : Jn) : Prop where
  some : a.some = b.some
  top : a.top = b.top
  hor : a.hor = b.hor
  win : a.win = b.win
  ct : a.ct = b.ct
  cs : a.cs = b.cs
theorem SJ.rise {a b : Jn} (h : SJ a b) (t : Int) : riseT a t = riseT b t ∧ riseH a t = riseH b t := by
  have h1 : riseT a t = riseT b t := by unfold riseT; rw [h.some, h.top]
  refine ⟨h1, ?_⟩
  unfold riseH riseM
  rw [h1, h.some, h.hor, h.win]
theorem tkT_keys {a b : Jn} {xs ys : List El} {e d : El} {t : Int} (h : SJ a b) (hk : xs.map El.key = ys.map El.key) (he : e.key = d.key) :
    (tkT a xs t e).1.map El.key = (tkT b ys t d).1.map El.key ∧ (tkT a xs t e).2.map El.key = (tkT b ys t d).2.map El.key := by
  have hl : xs.length = ys.length := by have := congrArg List.length hk; simpa using this
  unfold tkT
  rw [(h.rise t).2, hl]
  refine dueL_keys ?_ _ _
  rw [upL_map El.key (C := cmpK) (C' := lexL) (fun _ _ => rfl), upL_map El.key (C := cmpK) (C' := lexL) (fun _ _ => rfl), List.map_append, List.map_append, hk]
  simp only [List.map_cons, List.map_nil, he]
theorem pushK_same {a b : Jn} (h : SJ a b) (s : Sn) (q t : Int) : pushK a s q t = pushK b s q t := by unfold pushK; rw [h.some, h.hor]
/-- the other joiner takes what the first one took, and stands alike -/
theorem how_twin {a b a' b' : Jn} {sns sa sb : List Sn} {xs ys xs' ys' ma mb : List El} {se sq st : Int} {n : Nat} {bs : List Nat} {kind er : Int} (hs : SJ a b) (hk : xs.map El.key = ys.map El.key)
    (h1 : PushHow a sns xs se sq st n bs 1 0 a' sa xs' ma) (h2 : PushHow b sns ys se sq st n bs kind er b' sb ys' mb) :
    kind = 1 ∧ er = 0 ∧ SJ a' b' ∧ sa = sb ∧ xs'.map El.key = ys'.map El.key ∧ ma.map El.key = mb.map El.key := by
  cases h1 with
  | bad _ e1 => cases e1
  | cnt s _ _ _ e1 => exact absurd rfl e1
  | took s e0 v' dn hs1 hse hE hk1 e1 e2 hkey hdn hno hl e3 e4 e5 e6 =>
    cases h2 with
    | bad hE2 => exact absurd hE hE2
    | cnt s2 hs2 _ hk2 hn =>
      rw [hs1] at hs2
      injection hs2 with hs2
      subst hs2
      rw [pushK_same hs] at hk1
      rw [hk1] at hk2
      exact absurd hk2 hn
    | took s2 e02 v2 dn2 hs2 _ _ _ f1 f2 fkey _ _ _ f3 f4 f5 f6 =>
      rw [hs1] at hs2
      injection hs2 with hs2
      subst hs2
      obtain ⟨k1, k2⟩ := tkT_keys (t := Ck.timeV s.o s.n s.d (Ck.unwV s.last st)) hs hk (hkey.trans fkey.symm)
      have hlen := congrArg List.length k1
      simp only [List.length_map] at hlen
      refine ⟨f1, f2, ?_, e4.trans f4.symm, ?_, ?_⟩
      · rw [e3, f3]
        refine ⟨rfl, (hs.rise _).1, (hs.rise _).2, hs.win, ?_, ?_⟩
        · show a.ct + 1 = b.ct + 1
          rw [hs.ct]
        · show a.cs + _ = b.cs + _
          rw [hs.cs, hlen]
      · rw [e5, f5]; exact k2
      · rw [e6, f6]; exact k1
theorem cntJ_sj {a b : Jn} (h : SJ a b) (k : Int) : SJ (cntJ a k) b := by
  obtain ⟨-, -, c3, c4, c5, c6, c7, c8⟩ := cntJ_same a k
  exact ⟨c3.trans h.some, c5.trans h.top, c4.trans h.hor, c8.trans h.win, c6.trans h.ct, c7.trans h.cs⟩
/-- what is not taken changes nothing but its count -/
theorem how_other {a b a' : Jn} {sns sa : List Sn} {xs xs' ma : List El} {se sq st : Int} {n : Nat} {bs : List Nat} {kind er : Int} (hs : SJ a b) (h : PushHow a sns xs se sq st n bs kind er a' sa xs' ma) (hn : er ≠ 0 ∨ kind ≠ 1) :
    SJ a' b ∧ sa = sns ∧ xs' = xs ∧ ma = [] := by
  cases h with
  | bad _ e1 e2 e3 e4 e5 e6 => exact ⟨by rw [e3]; exact hs, e4, e5, e6⟩
  | cnt s _ _ hk hk1 e2 e3 e4 e5 e6 => exact ⟨by rw [e3]; exact cntJ_sj hs kind, e4, e5, e6⟩
  | took s e0 v' dn _ _ _ _ e1 e2 => exact absurd e1 (hn.elim (fun q => absurd e2 q) id)
/-- once more what was taken: doubled, old, or its time is out of range -/
theorem how_again {a a' a2 : Jn} {sns sa sa2 : List Sn} {xs xs' xs2 ma m2 : List El} {se sq st : Int} {n : Nat} {bs : List Nat} {kind er : Int} (hok : ∀ s ∈ sns, SnOk s) (q0 : 0 ≤ sq) (q1 : sq ≤ 4294967295)
    (h1 : PushHow a sns xs se sq st n bs 1 0 a' sa xs' ma) (h2 : PushHow a' sa xs' se sq st n bs kind er a2 sa2 xs2 m2) : (er = 0 ∧ (kind = 2 ∨ kind = 3)) ∨ (er = 1 ∧ kind = 0) := by
  cases h1 with
  | bad _ e1 => cases e1
  | cnt s _ _ _ e1 => exact absurd rfl e1
  | took s e0 v' dn hs1 hse hE hk1 e1 e2 hkey hdn hno hl e3 e4 e5 e6 =>
    have hse1 : se.toNat < sns.length := (List.getElem?_eq_some_iff.1 hs1).1
    have hget : sa[se.toNat]? = some (tkL s sq (Ck.unwV s.last st)) := by rw [e4]; exact List.getElem?_set_self hse1
    have hokS := hok s (List.mem_of_getElem? hs1)
    have hkn := tk_self hokS q0 q1 (fun a1 a2 => by
      rcases hno with hb | ⟨b1, b2, -⟩
      · unfold below' at hb
        rw [a1, decide_eq_true a2] at hb
        cases hb
      · omega)
    obtain ⟨k1, k2, k3, k4⟩ := hkn
    have hchk : chkE se n bs = 0 := by
      unfold pushE at hE
      split at hE
      · rename_i h; exact absurd hE h
      · rename_i h; simpa using h
    have hok1 : Ck.okc s.o s.n s.d = true := by
      unfold pushE at hE
      rw [if_neg (by rw [hchk]; simp), hs1] at hE
      simp only at hE
      split at hE
      · rename_i h; exact absurd hE h
      · unfold Ck.timeE at hE
        split at hE
        · rename_i h; exact h
        · cases hE
    have hne1 : ∀ T, pushK a' (tkL s sq (Ck.unwV s.last st)) sq T = 2 ∨ pushK a' (tkL s sq (Ck.unwV s.last st)) sq T = 3 := by
      intro T
      have hb : below' (tkL s sq (Ck.unwV s.last st)) sq = true := by
        unfold below'
        rw [show (tkL s sq (Ck.unwV s.last st)).some = true from k1, show (tkL s sq (Ck.unwV s.last st)).most = (tk s sq).most from rfl, decide_eq_true k3]
        rfl
      by_cases hd : ((tkL s sq (Ck.unwV s.last st)).most - sq).toNat < 64
      · left
        have hbit : bitAt (tkL s sq (Ck.unwV s.last st)) ((tkL s sq (Ck.unwV s.last st)).most - sq).toNat = true := k4 (by
          have : ((tk s sq).most - sq).toNat < 64 := hd
          omega)
        unfold pushK known
        rw [hb, decide_eq_true hd, hbit]
        rfl
      · right
        unfold pushK known tooOld
        rw [hb, decide_eq_false hd, decide_eq_true (show 64 ≤ ((tkL s sq (Ck.unwV s.last st)).most - sq).toNat by omega)]
        rfl
    cases h2 with
    | bad hE2 f1 f2 =>
      right
      refine ⟨?_, f1⟩
      rw [f2]
      unfold pushE at hE2 ⊢
      rw [if_neg (by rw [hchk]; simp), hget] at hE2 ⊢
      simp only at hE2 ⊢
      split
      · rename_i h
        rcases unwE_two (tkL s sq (Ck.unwV s.last st)).last st with q | q
        · exact absurd q h
        · exact q
      · rename_i h
        rw [if_neg h] at hE2
        have ho : Ck.okc (tkL s sq (Ck.unwV s.last st)).o (tkL s sq (Ck.unwV s.last st)).n (tkL s sq (Ck.unwV s.last st)).d = true := by
          have e : (tkL s sq (Ck.unwV s.last st)).o = s.o ∧ (tkL s sq (Ck.unwV s.last st)).n = s.n ∧ (tkL s sq (Ck.unwV s.last st)).d = s.d := by
            unfold tkL tk
            split <;> exact ⟨rfl, rfl, rfl⟩
          rw [e.1, e.2.1, e.2.2]; exact hok1
        unfold Ck.timeE at hE2 ⊢
        rw [if_pos ho] at hE2 ⊢
        split
        · rename_i h2
          rw [if_pos h2] at hE2
          exact absurd rfl hE2
        · rfl
    | cnt s2 hs2 _ hk2 _ f2 =>
      left
      rw [hget] at hs2
      injection hs2 with hs2
      subst hs2
      rw [hk2]
      exact ⟨f2, hne1 _⟩
    | took s2 e02 v2 dn2 hs2 _ _ hk2 =>
      rw [hget] at hs2
      injection hs2 with hs2
      subst hs2
      rcases hne1 (Ck.timeV (tkL s sq (Ck.unwV s.last st)).o (tkL s sq (Ck.unwV s.last st)).n (tkL s sq (Ck.unwV s.last st)).d (Ck.unwV (tkL s sq (Ck.unwV s.last st)).last st)) with q | q
      · rw [q] at hk2; cases hk2
      · rw [q] at hk2; cases hk2
end Go.Proofs.Ytebacmmfjadalaa

namespace Go.Proofs.Ytebacmmfjadalaa
open Go Go.RowKit Go.WideShapes

/-- the other joiner stays as it is -/
theorem JR.other {W W2 : World} {x y By : Nat} {jx jy : Jn} {sns : List Sn} {xs ys ty : List El} {k : Nat} (hy : JR W y By jy sns ys ty k) (ap : ∀ b, Out x jx xs b ∨ Out y jy ys b) (hf : Ft W W2 (fun b => b = x ∨ jx.sen.ownBlock = some b ∨ jx.wait.ownBlock = some b)) : JR W2 y By jy sns ys ty k :=
  hy.ft hf (fun b hb => (ap b).resolve_left (fun ho => by
    rcases hb with q | q | q
    · exact ho.1 q
    · exact ho.2.1 q
    · exact ho.2.2.1 q))
theorem ap_push {W W2 : World} {x B y By : Nat} {jx jy : Jn} {sns sy : List Sn} {xs ys tx ty : List El} {k k2 : Nat} {se sq st : Int} {n : Nat} {bs : List Nat} {kind er : Int} {ov : Value} {j' : Jn} {sns' : List Sn} {xs' mid : List El}
    (hp : PushL W W2 x B jx sns xs tx k se sq st n bs kind er ov j' sns' xs' mid) (hy : JR W y By jy sy ys ty k2) (ap : ∀ b, Out x jx xs b ∨ Out y jy ys b) : ∀ b, Out x j' xs' b ∨ Out y jy ys b := fun b => by
  rcases Nat.lt_or_ge b W.heap.size with h | h
  · exact (ap b).imp (fun o => hp.outs o h) id
  · exact .inr (hy.out h)
theorem ap_flush {W W2 : World} {x B y : Nat} {jx jy : Jn} {sns : List Sn} {xs ys tx : List El} {k : Nat} {ov : Value} {j' : Jn} {mid : List El}
    (hp : FlushL W W2 x B jx sns xs tx k ov j' mid) (ap : ∀ b, Out x jx xs b ∨ Out y jy ys b) : ∀ b, Out x j' [] b ∨ Out y jy ys b := fun b => (ap b).imp hp.outs id
theorem ap_swap {x y : Nat} {jx jy : Jn} {xs ys : List El} (ap : ∀ b, Out x jx xs b ∨ Out y jy ys b) : ∀ b, Out y jy ys b ∨ Out x jx xs b := fun b => (ap b).symm
/-- what a joiner told stays as it is, whatever the other one does -/
theorem told_kept {W W2 W3 W4 : World} {x B y By : Nat} {jx jy : Jn} {sns sy : List Sn} {xs ys tx ty : List El} {k k2 : Nat} {se sq st : Int} {n : Nat} {bs : List Nat} {kind er : Int} {ov : Value} {j' : Jn} {sns' : List Sn} {xs' mid : List El}
    (hp : PushL W W2 x B jx sns xs tx k se sq st n bs kind er ov j' sns' xs' mid) (hy : JR W y By jy sy ys ty k2) (ap : ∀ b, Out x jx xs b ∨ Out y jy ys b) (h3 : Below W2.heap.size W2 W3) (h4 : Ft W3 W4 (fun b => b = y ∨ jy.sen.ownBlock = some b ∨ jy.wait.ownBlock = some b)) :
    Row W.heap.size W4 ov mid ∧ ∀ e ∈ mid, ElOk W4 e := by
  have hno : ∀ b, Out y jy ys b → ¬ (b = y ∨ jy.sen.ownBlock = some b ∨ jy.wait.ownBlock = some b) := by
    rintro b ⟨o1, o2, o3, -⟩ (q | q | q)
    · exact o1 q
    · exact o2 q
    · exact o3 q
  refine ⟨(hp.out.below h3).keep (fun g hg hl => h4.block g hl (hno g (hy.out (hp.out.lt hg).1))), fun e he => ((hp.ok e he).below h3).ft h4 (fun b f hv => hno b ?_)⟩
  rcases hp.new e (List.mem_append_left _ he) with q | q
  · rcases ap b with o | o
    · exact absurd rfl (o.2.2.2 e q b f hv)
    · exact o
  · exact hy.out (q b f hv)
theorem flush_kept {W W2 W4 : World} {x B y By : Nat} {jx jy : Jn} {sns sy : List Sn} {xs ys tx ty : List El} {k k2 : Nat} {ov : Value} {j' : Jn} {mid : List El}
    (hp : FlushL W W2 x B jx sns xs tx k ov j' mid) (hy : JR W y By jy sy ys ty k2) (ap : ∀ b, Out x jx xs b ∨ Out y jy ys b) (h4 : Ft W2 W4 (fun b => b = y ∨ jy.wait.ownBlock = some b)) :
    Row W.heap.size W4 ov mid ∧ ∀ e ∈ mid, ElOk W4 e := by
  have hno : ∀ b, Out y jy ys b → ¬ (b = y ∨ jy.wait.ownBlock = some b) := by
    rintro b ⟨o1, o2, o3, -⟩ (q | q)
    · exact o1 q
    · exact o3 q
  refine ⟨hp.out.keep (fun g hg hl => h4.block g hl (hno g (hy.out (hp.out.lt hg).1))), fun e he => (hp.ok e he).ft h4 (fun b f hv => hno b ?_)⟩
  rcases ap b with o | o
  · exact absurd rfl (o.2.2.2 e (hp.sub e he) b f hv)
  · exact o
theorem flush_keys {W W2 V V2 : World} {x B y By : Nat} {a b : Jn} {sx sy : List Sn} {xs ys tx ty : List El} {k k2 : Nat} {ov pv : Value} {a' b' : Jn} {ma mb : List El} (hs : SJ a b) (hk : xs.map El.key = ys.map El.key)
    (h1 : FlushL W W2 x B a sx xs tx k ov a' ma) (h2 : FlushL V V2 y By b sy ys ty k2 pv b' mb) : ma.map El.key = mb.map El.key ∧ SJ a' b' := by
  have hl : xs.length = ys.length := by have := congrArg List.length hk; simpa using this
  rcases h1.how with ⟨c1, c2, c3, c4⟩ | ⟨c1, c2, c3⟩
  · rcases h2.how with ⟨d1, d2, d3, d4⟩ | ⟨d1, d2, d3⟩
    · rw [c4, d4, c2, d2]; exact ⟨rfl, hs⟩
    · have := hs.some; rw [c1, d1] at this; cases this
  · rcases h2.how with ⟨d1, d2, d3, d4⟩ | ⟨d1, d2, d3⟩
    · have := hs.some; rw [c1, d1] at this; cases this
    · have hq : ma.map El.key = mb.map El.key := by
        rw [c2, d2, hl, hs.top]
        exact (dueL_keys hk _ _).1
      refine ⟨hq, ?_⟩
      have hlen := congrArg List.length hq
      simp only [List.length_map] at hlen
      rw [c3, d3]
      refine ⟨hs.some, hs.top, ?_, hs.win, hs.ct, ?_⟩
      · show a.top + 1 = b.top + 1
        rw [hs.top]
      · show a.cs + _ = b.cs + _
        rw [hs.cs, hlen]

/-- readings in a row of the call's own -/
def flat4 : List In → List Value
  | [] => []
  | e :: l => e.row4 ++ flat4 l
theorem flat4_len : ∀ xs : List In, (flat4 xs).length = xs.length * 4
  | [] => rfl
  | e :: l => by simp [flat4, flat4_len l, In.row4]; omega
theorem flat4_app : ∀ xs ys : List In, flat4 (xs ++ ys) = flat4 xs ++ flat4 ys
  | [], _ => rfl
  | e :: l, ys => by simp [flat4, flat4_app l ys]
theorem flat4_get : ∀ (xs : List In) (i : Nat) (e : In), xs[i]? = some e → ∀ j, j < 4 → (flat4 xs)[i * 4 + j]? = e.row4[j]?
  | [], i, e, h, _, _ => by simp at h
  | a :: l, 0, e, h, j, hj => by
    simp only [List.getElem?_cons_zero, Option.some.injEq] at h
    subst h
    rw [flat4, Nat.zero_mul, Nat.zero_add, List.getElem?_append_left (by simpa [In.row4] using hj)]
  | a :: l, i + 1, e, h, j, hj => by
    rw [List.getElem?_cons_succ] at h
    have := flat4_get l i e h j hj
    rw [flat4, List.getElem?_append_right (by simp [In.row4]; omega), show (i + 1) * 4 + j - a.row4.length = i * 4 + j by simp [In.row4]; omega]
    exact this
theorem flat4_one : ∀ xs : List In, ∀ u ∈ flat4 xs, u.oneCell' = true
  | [], u, h => by simp [flat4] at h
  | e :: l, u, h => by
    rw [flat4] at h
    rcases List.mem_append.1 h with h | h
    · simp only [In.row4, List.mem_cons, List.not_mem_nil, or_false] at h
      rcases h with rfl | rfl | rfl | rfl <;> rfl
    · exact flat4_one l u h
theorem infoR : (Try.prog.info? 44).map (fun i => (i.zero, i.size, i.bytes)) = some (some (.agg #[.int .i64 0, .int .u32 0, .int .u32 0, .slice none 0 0]), 4, 40) := by kernel_rfl
def Row4 (B : Nat) (w : World) (v : Value) (xs : List In) : Prop := w.ownsRow B 44 4 v xs.length (flat4 xs)
theorem Row4.slice {B : Nat} {w : World} {v : Value} {xs : List In} (h : Row4 B w v xs) : ∃ A c, v = .slice A xs.length c := by
  rcases h.2 with ⟨h1, h2⟩ | ⟨g, cap, cur, h1, -⟩
  · exact ⟨none, 0, by rw [h1, h2]⟩
  · exact ⟨_, _, h1⟩
theorem Row4.rd {B : Nat} {w : World} {A : Option Addr} {n c : Nat} {xs : List In} (h : Row4 B w (.slice A n c) xs) : RdAt w A xs ∧ ∀ b f, A = some ⟨b, f, none⟩ → B ≤ b ∧ b < w.heap.size := by
  have h0 := h
  rcases h.2 with ⟨h1, h2⟩ | ⟨g, cap, cur, h1, h2, h3, -⟩
  · have : xs = [] := List.length_eq_zero_iff.1 h2
    injection h1 with h1
    exact ⟨.inl this, fun b f e => by rw [h1] at e; cases e⟩
  · injection h1 with e1 e2 e3
    subst e1 e2 e3
    have hl := (Array.getElem?_eq_some_iff.1 h3).1
    refine ⟨.inr ⟨g, 0, rfl, hl, fun i e he j hj => ?_⟩, fun b f e => by injection e with e; injection e with e; subst e; exact ⟨h2, hl⟩⟩
    have hi : i < xs.length := (List.getElem?_eq_some_iff.1 he).1
    have := World.ownsRow.cellAt h0 (i * 4 + j) (by omega)
    rw [Nat.zero_add]
    rw [this]
    exact flat4_get xs i e he j hj
/-- readings appended to a row of the call's own -/
theorem run_append_reads (B : Nat) (w : World) (v : Value) (xs ys : List In) (hr : Row4 B w v xs) (hB : B ≤ w.heap.size) (A : Option Addr) (n c : Nat) (hn : ys.length = n) (h : RdAt w A ys) (hA : n = 0 ∨ A ≠ none) (hl : xs.length + n ≤ 1099511627776) (ty : TypeId) :
    ∃ v' w', (Builtin.append_ #[37, 37] ty #[v, .slice A n c]).run Try.prog w = .ok v' w' ∧ Row4 B w' v' (xs ++ ys) ∧ Below B w w' := by
  obtain ⟨i0, hi0, hz0, hz1, hz2⟩ := info_parts infoR
  have hown0 : ∀ k, v.ownBlock = some k → B ≤ k := fun k hk => by
    rcases hr.2 with ⟨h1, -⟩ | ⟨g, cap, cur, h1, h2, -⟩
    · rw [h1] at hk; simp [Value.ownBlock] at hk
    · rw [h1] at hk
      simp only [Value.ownBlock] at hk
      injection hk with hk
      omega
  rcases (show (ys = [] ∧ A = none) ∨ ∃ ad, A = some ad by cases A with
    | none => exact .inl ⟨List.length_eq_zero_iff.1 (by rcases hA with q | q; omega; exact absurd rfl q), rfl⟩
    | some ad => exact .inr ⟨ad, rfl⟩) with ⟨hy, hA⟩ | ⟨ad, hA⟩
  · subst hy hA
    have hn0 : n = 0 := by simpa using hn.symm
    subst hn0
    rw [List.append_nil]
    refine ⟨v, w, ?_, hr, Below.refl _ _⟩
    rcases hr.2 with ⟨h3, h4⟩ | ⟨g', cap', cur', h3, h4, h5, h6⟩
    · rw [h3]
      simp [Builtin.append_, run_underlying Try.underlying37, sizeOf, typeInfo, hi0, Builtin.lenOf, Builtin.firstCells]
    · rw [h3]
      simp [Builtin.append_, run_underlying Try.underlying37, sizeOf, typeInfo, hi0, Builtin.lenOf, Builtin.firstCells, h6.1, storeCells]
  · subst hA
    have hcells : ∀ j u, (flat4 ys)[j]? = some u → w.cell? (ad.add j) = some u := by
      intro j u hu
      have hj : j < ys.length * 4 := by
        have := (List.getElem?_eq_some_iff.1 hu).1
        rwa [flat4_len] at this
      rcases h with h | ⟨b, off, hb, hlt, hc⟩
      · rw [h] at hj; simp at hj
      · obtain rfl := Option.some.inj hb
        have hi : j / 4 < ys.length := by omega
        obtain ⟨e, he⟩ := get_someI hi
        have e1 := hc (j / 4) e he (j % 4) (by omega)
        have e2 := flat4_get ys (j / 4) e he (j % 4) (by omega)
        rw [show off + j / 4 * 4 + j % 4 = off + j by omega] at e1
        rw [show j / 4 * 4 + j % 4 = j by omega] at e2
        rw [add_plain, e1, ← e2, hu]
    obtain ⟨v', w', hrun, hown, hg, -, -⟩ := run_append_own_at (P := Try.prog) w B 37 ty 44 i0 _ 4 40 Try.underlying37 hi0 hz0 hz1 hz2 rfl (by omega) v xs.length (flat4 xs) hr
      ad n c (flat4 ys) (by rw [flat4_len, hn]) hcells (flat4_one ys) (by simp only [maxLen]; omega) (by omega) hB
    refine ⟨v', w', hrun, ?_, (Below.refl _ _).grown hg hB hown0⟩
    unfold Row4
    rw [List.length_append, flat4_app, hn]
    exact hown
section
variable (w : World)
theorem wp_append_reads {o : Oper} {a : Act} {K : Act → World → Prop} {Q : Exit → Act → World → Prop} (s x : Operand)
    (ho : o.op = .call { callee := .builtin .append, args := #[s, x], argTypes := #[37, 37] }) (B : Nat) (v : Value) (A : Option Addr) (n c : Nat) (xs ys : List In) (hs : a.eval s = v) (hx : a.eval x = .slice A n c) (hr : Row4 B w v xs) (hB : B ≤ w.heap.size) (hn : ys.length = n) (hm : RdAt w A ys) (hA : n = 0 ∨ A ≠ none) (hl : xs.length + n ≤ 1099511627776)
    (h : ∀ v' w', Row4 B w' v' (xs ++ ys) → Below B w w' → K (a.put o.dst v') w') : o.wp Try.prog a w K Q := by
  obtain ⟨v', w', hrun, h2, h3⟩ := run_append_reads B w v xs ys hr hB A n c hn hm hA hl o.type
  unfold Oper.wp execOp
  simp only [ho, resolve, invoke, builtin, Sem.run_bind, Sem.run_pure, Result.andThen_ok, List.map_toArray, List.map_cons, List.map_nil, hs, hx, hrun]
  exact h v' w' h2 h3
theorem wpList_append_reads {ops : Array Oper} {rest : List Oper} {o : Oper} {a : Act} {Q : Exit → Act → World → Prop} (hgd : o.guard = none) (s x : Operand)
    (ho : o.op = .call { callee := .builtin .append, args := #[s, x], argTypes := #[37, 37] }) (B : Nat) (v : Value) (A : Option Addr) (n c : Nat) (xs ys : List In) (hs : a.eval s = v) (hx : a.eval x = .slice A n c) (hr : Row4 B w v xs) (hB : B ≤ w.heap.size) (hn : ys.length = n) (hm : RdAt w A ys) (hA : n = 0 ∨ A ≠ none) (hl : xs.length + n ≤ 1099511627776)
    (h : ∀ v' w', Row4 B w' v' (xs ++ ys) → Below B w w' → wpList Try.prog ops Q rest (a.put o.dst v') w') : wpList Try.prog ops Q (o :: rest) a w :=
  wpList_plain hgd fun _ hK => wp_append_reads w s x ho B v A n c xs ys hs hx hr hB hn hm hA hl fun v' w' h2 h3 => hK _ _ (h v' w' h2 h3)
end
end Go.Proofs.Ytebacmmfjadalaa

namespace Go.Proofs.Ytebacmmfjadalaa
open Go Go.RowKit Go.WideShapes

theorem RdAt.ft {w w' : World} {A : Option Addr} {xs : List In} {F : Nat → Prop} (h : RdAt w A xs) (k : Ft w w' F) (hF : ∀ b f, A = some ⟨b, f, none⟩ → ¬ F b) : RdAt w' A xs := by
  refine h.imp id ?_
  rintro ⟨b, off, h3, h4, h5⟩
  exact ⟨b, off, h3, Nat.lt_of_lt_of_le h4 k.size, fun i e he j hj => (World.cell?_of_block (k.block b h4 (hF b off h3))).trans (h5 i e he j hj)⟩
theorem RdAt.lt {w : World} {A : Option Addr} {xs : List In} (h : RdAt w A xs) (hx : 0 < xs.length) : ∀ b f, A = some ⟨b, f, none⟩ → b < w.heap.size := fun b f e => by
  rcases h with h | ⟨b', off, h3, h4, -⟩
  · rw [h] at hx; simp at hx
  · rw [h3] at e; injection e with e; injection e with e; omega
structure TW (w W : World) (x Bx y By : Nat) (a b : Jn) (sns : List Sn) (xs ys tx ty : List El) (k k2 : Nat) (A : Option Addr) (all : List In) : Prop where
  jx : JR W x Bx a sns xs tx k
  jy : JR W y By b sns ys ty k2
  same : SJ a b
  keys : xs.map El.key = ys.map El.key
  ap : ∀ c, Out x a xs c ∨ Out y b ys c
  wx : w.heap.size ≤ x
  wy : w.heap.size ≤ y
  bel : Below w.heap.size w W
  rd : RdAt W A all
  al : ∀ c f, A = some ⟨c, f, none⟩ → c < W.heap.size
  lo : ∀ c f, A = some ⟨c, f, none⟩ → Out x a xs c ∧ Out y b ys c
section
variable {w W : World} {x Bx y By : Nat} {a b : Jn} {sns : List Sn} {xs ys tx ty : List El} {k k2 : Nat} {A : Option Addr} {all : List In}
theorem TW.below (h : TW w W x Bx y By a b sns xs ys tx ty k k2 A all) {W' : World} (hb : Below W.heap.size W W') : TW w W' x Bx y By a b sns xs ys tx ty k k2 A all :=
  ⟨h.jx.below hb, h.jy.below hb, h.same, h.keys, h.ap, h.wx, h.wy, h.bel.trans (hb.mono h.bel.size), h.rd.below hb, fun c f e => Nat.lt_of_lt_of_le (h.al c f e) hb.size, h.lo⟩
theorem TW.mono (h : TW w W x Bx y By a b sns xs ys tx ty k k2 A all) {m m2 : Nat} (h1 : k ≤ m) (h2 : k2 ≤ m2) : TW w W x Bx y By a b sns xs ys tx ty m m2 A all :=
  ⟨h.jx.mono h1, h.jy.mono h2, h.same, h.keys, h.ap, h.wx, h.wy, h.bel, h.rd, h.al, h.lo⟩
theorem JR.bnd (h : JR W x Bx a sns xs tx k) {c : Nat} (hc : c = x ∨ a.sen.ownBlock = some c ∨ a.wait.ownBlock = some c) : x ≤ c := by
  have hB := h.inv.xB
  rcases hc with q | q | q
  · omega
  · have := (h.own c q).1; omega
  · have := (h.inv.row.lt q).1; omega
theorem Out.no {c : Nat} (h : Out x a xs c) : ¬ (c = x ∨ a.sen.ownBlock = some c ∨ a.wait.ownBlock = some c) := by
  obtain ⟨o1, o2, o3, -⟩ := h
  rintro (q | q | q)
  · exact o1 q
  · exact o2 q
  · exact o3 q
theorem TW.bel2 (h : TW w W x Bx y By a b sns xs ys tx ty k k2 A all) {W2 : World} {se sq st : Int} {n : Nat} {bs : List Nat} {kind er : Int} {ov : Value} {a' : Jn} {sns' : List Sn} {xs' mid : List El}
    (hp : PushL W W2 x Bx a sns xs tx k se sq st n bs kind er ov a' sns' xs' mid) : Below w.heap.size w W2 := h.bel.trans (hp.ft.below h.bel.size (fun _ hc => Nat.le_trans h.wx (h.jx.bnd hc)))
/-- a reading that x does not take -/
theorem TW.push (h : TW w W x Bx y By a b sns xs ys tx ty k k2 A all) {W2 : World} {se sq st : Int} {n : Nat} {bs : List Nat} {kind er : Int} {ov : Value} {a' : Jn} {sns' : List Sn} {xs' mid : List El}
    (hp : PushL W W2 x Bx a sns xs tx k se sq st n bs kind er ov a' sns' xs' mid) (hn : er ≠ 0 ∨ kind ≠ 1) : TW w W2 x Bx y By a' b sns xs ys tx ty (k + 1) k2 A all := by
  obtain ⟨s1, s2, s3, s4⟩ := how_other h.same hp.how hn
  subst s2 s3 s4
  have hj := hp.jr
  rw [List.append_nil] at hj
  refine ⟨hj, h.jy.other h.ap hp.ft, s1, h.keys, ap_push hp h.jy h.ap, h.wx, h.wy, h.bel.trans (hp.ft.below h.bel.size (fun c hc => Nat.le_trans h.wx (h.jx.bnd hc))), h.rd.ft hp.ft (fun c f e => (h.lo c f e).1.no), fun c f e => Nat.lt_of_lt_of_le (h.al c f e) hp.ft.size, fun c f e => ⟨hp.outs (h.lo c f e).1 (h.al c f e), (h.lo c f e).2⟩⟩
/-- a reading that both take -/
theorem TW.both (h : TW w W x Bx y By a b sns xs ys tx ty k k2 A all) {W2 W3 W4 : World} {se sq st : Int} {n : Nat} {bs : List Nat} {kind er : Int} {ov pv : Value} {a' b' : Jn} {sa sb : List Sn} {xs' ys' ma mb : List El}
    (hp : PushL W W2 x Bx a sns xs tx k se sq st n bs 1 0 ov a' sa xs' ma) (hb : Below W2.heap.size W2 W3) (hq : PushL W3 W4 y By b sns ys ty k2 se sq st n bs kind er pv b' sb ys' mb) :
    kind = 1 ∧ er = 0 ∧ ma.map El.key = mb.map El.key ∧ TW w W4 x Bx y By a' b' sa xs' ys' (tx ++ ma) (ty ++ mb) (k + 1) (k2 + 1) A all := by
  obtain ⟨t1, t2, t3, t4, t5, t6⟩ := how_twin h.same h.keys hp.how hq.how
  subst t4
  have hx3 := hp.jr.below hb
  have ap1 := ap_push hp h.jy h.ap
  have hx4 := hx3.other (ap_swap ap1) hq.ft
  have ap2 := ap_swap (ap_push hq hx3 (ap_swap ap1))
  have hy3 : JR W3 y By b sns ys ty k2 := (h.jy.other h.ap hp.ft).below hb
  have b2 := h.bel.trans (hp.ft.below h.bel.size (fun _ hc => Nat.le_trans h.wx (h.jx.bnd hc)))
  have b3 := b2.trans (hb.mono b2.size)
  have hs2 := hp.ft.size
  have hs3 := hb.size
  refine ⟨t1, t2, t6, hx4, hq.jr, t3, t5, ap2, h.wx, h.wy, b3.trans (hq.ft.below b3.size (fun c hc => Nat.le_trans h.wy (hy3.bnd hc))), ((h.rd.ft hp.ft (fun c f e => (h.lo c f e).1.no)).below hb).ft hq.ft (fun c f e => (h.lo c f e).2.no), fun c f e => ?_, fun c f e => ⟨hp.outs (h.lo c f e).1 (h.al c f e), hq.outs (h.lo c f e).2 ?_⟩⟩
  · have := h.al c f e
    have := hq.ft.size
    omega
  · have := h.al c f e
    omega
/-- both are flushed -/
theorem TW.flush (h : TW w W x Bx y By a b sns xs ys tx ty k k2 A all) {W2 W3 : World} {ov pv : Value} {a' b' : Jn} {ma mb : List El}
    (hp : FlushL W W2 x Bx a sns xs tx k ov a' ma) (hq : FlushL W2 W3 y By b sns ys ty k2 pv b' mb) : ma.map El.key = mb.map El.key ∧ TW w W3 x Bx y By a' b' sns [] [] (tx ++ ma) (ty ++ mb) k k2 A all := by
  obtain ⟨t1, t2⟩ := flush_keys h.same h.keys hp hq
  have fx : Ft W W2 (fun c => c = x ∨ a.sen.ownBlock = some c ∨ a.wait.ownBlock = some c) := hp.ft.mono (fun c _ hc => hc.imp id .inr)
  have fy : Ft W2 W3 (fun c => c = y ∨ b.sen.ownBlock = some c ∨ b.wait.ownBlock = some c) := hq.ft.mono (fun c _ hc => hc.imp id .inr)
  have ap1 := ap_flush hp h.ap
  have ap2 := ap_swap (ap_flush hq (ap_swap ap1))
  have hy2 : JR W2 y By b sns ys ty k2 := h.jy.other h.ap fx
  have b2 := h.bel.trans (fx.below h.bel.size (fun c hc => Nat.le_trans h.wx (h.jx.bnd hc)))
  refine ⟨t1, hp.jr.other (ap_swap ap1) fy, hq.jr, t2, rfl, ap2, h.wx, h.wy, b2.trans (fy.below b2.size (fun c hc => Nat.le_trans h.wy (hy2.bnd hc))), (h.rd.ft fx (fun c f e => (h.lo c f e).1.no)).ft fy (fun c f e => (h.lo c f e).2.no), fun c f e => ?_, fun c f e => ⟨hp.outs (h.lo c f e).1, hq.outs (h.lo c f e).2⟩⟩
  have := h.al c f e
  have := fx.size
  have := fy.size
  omega
end
/-- two new joiners, and the readings in a row behind them -/
theorem TW.start {w w1 w2 w3 w4 w5 : World} {cs : List (Int × Int × Int)} {win : Int} {sv sv' : Value} {A : Option Addr} {all : List In} (hE : newE cs win = 0)
    (h1 : Below w.heap.size w w1) (hs : SRow (w1.heap.size + 1) w2 sv (cs.map sn0)) (hj : JnAt w2 w1.heap.size ⟨sv, win, .slice none 0 0, false, 0, 0, 0, 0, 0, 0, 0⟩) (hz : ∀ i, w2.frozen? ⟨w1.heap.size, i, none⟩ = false) (hl : w1.heap.size < w2.heap.size) (hb : Below w1.heap.size w1 w2)
    (h3 : Below w2.heap.size w2 w3) (hs' : SRow (w3.heap.size + 1) w4 sv' (cs.map sn0)) (hj' : JnAt w4 w3.heap.size ⟨sv', win, .slice none 0 0, false, 0, 0, 0, 0, 0, 0, 0⟩) (hz' : ∀ i, w4.frozen? ⟨w3.heap.size, i, none⟩ = false) (hl' : w3.heap.size < w4.heap.size) (hb' : Below w3.heap.size w3 w4)
    (h5 : Below w4.heap.size w4 w5) (hrd : RdAt w5 A all) (hA : ∀ c f, A = some ⟨c, f, none⟩ → w4.heap.size ≤ c ∧ c < w5.heap.size) :
    TW w w5 w1.heap.size w2.heap.size w3.heap.size w4.heap.size ⟨sv, win, .slice none 0 0, false, 0, 0, 0, 0, 0, 0, 0⟩ ⟨sv', win, .slice none 0 0, false, 0, 0, 0, 0, 0, 0, 0⟩ (cs.map sn0) [] [] [] [] 0 0 A all := by
  have jx2 := JR.start hE hs hj hz hl
  have jx4 := (jx2.below h3).below hb'
  have jy4 := JR.start hE hs' hj' hz' hl'
  have s1 := h1.size
  have s2 := hb.size
  have s3 := h3.size
  have s4 := hb'.size
  have hw4 : Below w.heap.size w w4 := ((h1.trans (hb.mono s1)).trans (h3.mono (by omega))).trans (hb'.mono (by omega))
  refine ⟨jx4.below h5, jy4.below h5, ⟨rfl, rfl, rfl, rfl, rfl, rfl⟩, rfl, fun c => ?_, s1, by omega, hw4.trans (h5.mono hw4.size), hrd, fun c f e => (hA c f e).2, fun c f e => ⟨jx4.out (hA c f e).1, jy4.out (hA c f e).1⟩⟩
  rcases Nat.lt_or_ge c w3.heap.size with q | q
  · right
    refine ⟨by omega, fun hg => ?_, fun hg => by simp [Value.ownBlock] at hg, fun e he => by simp at he⟩
    have := (jy4.own c hg).1
    omega
  · left
    exact (jx2.below h3).out q
end Go.Proofs.Ytebacmmfjadalaa

namespace Go.Proofs.Ytebacmmfjadalaa
open Go Go.RowKit Go.WideShapes

set_option maxHeartbeats 1000000 in
theorem horizon_any (x : Nat) (j : Jn) (w : World) (hj : JnAt w x j) : Calls Try.prog 20 #[.pointer (some ⟨x, 0, none⟩)] w fun e w' => e = .returned (.tuple #[.int .i64 (if j.some = true then j.hor else 0), .bool j.some]) ∧ Below w.heap.size w w' := by
  cases hs : j.some with
  | true => exact horizon_some x j w hj hs
  | false =>
    obtain ⟨S, win, V, sm, top, hor, ct, cd, co, cl, cs⟩ := j
    obtain ⟨-, -, -, g3, -, g5, -, g11⟩ := hj
    simp only at g3 g5 hs ⊢
    subst hs
    go_enter Try.func20, Try.ntmps20
    go_wp2_with fail
    refine (ready_any x true w g11).mono ?_
    rintro e w1 ⟨rfl, rfl⟩
    go_wp2_with fail
    go_ret2
    exact ⟨rfl, Below.refl _ _⟩

set_option maxRecDepth 8000 in
set_option maxHeartbeats 16000000 in
theorem doubles_walk (A0 : Option Addr) (c0 : Nat) (cs : List (Int × Int × Int)) (win : Int) (A1 : Option Addr) (c1 : Nat) (ls : List In) (A2 : Option Addr) (c2 : Nat) (ms : List In) (w : World) (hc : ClRow w A0 cs) (hA : cs.length = 0 ∨ A0 ≠ none) (hl : cs.length * 24 ≤ 140737488355328) (hx : RdAt w A1 ls) (hok : ∀ e ∈ ls, InOk w e) (hx2 : RdAt w A2 ms) (hok2 : ∀ e ∈ ms, InOk w e) (hA1 : ls.length = 0 ∨ A1 ≠ none) (hA2 : ms.length = 0 ∨ A2 ≠ none) :
    Calls Try.prog 5 #[.slice A0 cs.length c0, .int .i64 win, .slice A1 ls.length c1, .slice A2 ms.length c2] w fun e w' => e = .returned (.bool true) ∧ Below w.heap.size w w' := by
  have HX := Lib.hid (And.intro hx hok)
  have HX2 := Lib.hid (And.intro hx2 hok2)
  obtain ⟨n1, hn1⟩ : ∃ n, ls.length = n := ⟨_, rfl⟩
  have HN1 := Lib.hid hn1
  obtain ⟨n2, hn2⟩ : ∃ n, ms.length = n := ⟨_, rfl⟩
  have HN2 := Lib.hid hn2
  obtain ⟨m0, hm0⟩ : ∃ m, cs.length = m := ⟨_, rfl⟩
  have HM0 := Lib.hid hm0
  rw [hm0] at hA hl
  rw [hn1] at hA1
  rw [hn2] at hA2
  have HC := Lib.hid (And.intro hc (And.intro hA hl))
  have HAA := Lib.hid (And.intro hA1 hA2)
  rw [hn1, hn2, hm0]
  clear hn1 hn2 hm0 hok hx hc hA hl hok2 hx2 hA1 hA2
  by_cases h100 : 100 < n1
  · have h3 : (100 : Int) < (n1 : Int) := by omega
    go_enter Try.func5, Try.ntmps5
    go_wp2_with fail
    refine (awake_join w).mono ?_
    rintro e w1 ⟨rfl, hb⟩
    go_wp2_with fail
    go_ret
    exact ⟨rfl, hb⟩
  have h3 : ¬ (100 : Int) < (n1 : Int) := by omega
  by_cases h102 : 100 < n2
  · have h4 : (100 : Int) < (n2 : Int) := by omega
    go_enter Try.func5, Try.ntmps5
    go_wp2_with fail
    refine (awake_join w).mono ?_
    rintro e w1 ⟨rfl, hb⟩
    go_wp2_with fail
    go_ret
    exact ⟨rfl, hb⟩
  have h4 : ¬ (100 : Int) < (n2 : Int) := by omega
  go_enter Try.func5, Try.ntmps5
  go_wp2_with (at_builtin; refine wpList_append_clocks _ rfl (.const (.slice none 0 0)) (.tmp 40) rfl A0 m0 c0 cs rfl rfl HM0.out HC.out.1 HC.out.2.1 HC.out.2.2 ?_; intro A3 c3 w1 hc1 hb1; have HC1 := Lib.hid (And.intro hc1 hb1); clear hc1 hb1)
  refine (new_all A3 c3 m0 cs win w1 HM0.out HC1.out.1).mono ?_
  rintro e w2 (⟨hE, rfl, sv, hs, hj, hz, hlt, hb⟩ | ⟨hE, rfl, hb⟩)
  case inr =>
    have HB2 := Lib.hid (HC1.out.2.trans (hb.mono HC1.out.2.size))
    have HCW := Lib.hid (show ClRow w2 A0 cs from by
      rcases HC.out.1 with h | ⟨b, off, q1, q2, q3⟩
      · exact .inl h
      · exact .inr ⟨b, off, q1, Nat.lt_of_lt_of_le q2 HB2.out.size, fun i hi => ⟨(HB2.out.cell (p := ⟨b, _, none⟩) q2).trans (q3 i hi).1, (HB2.out.cell (p := ⟨b, _, none⟩) q2).trans (q3 i hi).2.1, (HB2.out.cell (p := ⟨b, _, none⟩) q2).trans (q3 i hi).2.2⟩⟩)
    have HE := Lib.hid hE
    obtain ⟨ER, hER⟩ : ∃ y, newE cs win = y := ⟨_, rfl⟩
    have HER := Lib.hid hER
    rw [hER] at hE ⊢
    have hE' : ¬ ER = 0 := hE
    clear hb hER hE
    go_wp2_with (at_builtin; refine wpList_append_clocks _ rfl (.const (.slice none 0 0)) (.tmp 47) rfl A0 m0 c0 cs rfl rfl HM0.out HCW.out HC.out.2.1 HC.out.2.2 ?_; intro A4 c4 w3 hc3 hb3; have HC3 := Lib.hid (And.intro hc3 hb3); clear hc3 hb3)
    refine (new_all A4 c4 m0 cs win w3 HM0.out HC3.out.1).mono ?_
    rintro e w4 (⟨hE2, -⟩ | ⟨hE2, rfl, hb4⟩)
    · exact absurd hE2 HE.out
    rw [HER.out]
    have HB4 := Lib.hid (back_of (back_of HB2.out HC3.out.2) hb4)
    clear hE2 hb4
    go_wp2_with fail
    refine (awake_join w4).mono ?_
    rintro e w5 ⟨rfl, hb5⟩
    go_wp2_with fail
    go_ret
    exact ⟨rfl, back_of HB4.out hb5⟩
  have HB2 := Lib.hid (HC1.out.2.trans (hb.mono HC1.out.2.size))
  have HCW := Lib.hid (show ClRow w2 A0 cs from by
    rcases HC.out.1 with h | ⟨b, off, q1, q2, q3⟩
    · exact .inl h
    · exact .inr ⟨b, off, q1, Nat.lt_of_lt_of_le q2 HB2.out.size, fun i hi => ⟨(HB2.out.cell (p := ⟨b, _, none⟩) q2).trans (q3 i hi).1, (HB2.out.cell (p := ⟨b, _, none⟩) q2).trans (q3 i hi).2.1, (HB2.out.cell (p := ⟨b, _, none⟩) q2).trans (q3 i hi).2.2⟩⟩)
  have H1 := Lib.hid (And.intro hE (And.intro hs (And.intro hj (And.intro hz (And.intro hlt hb)))))
  clear hE hs hj hz hlt hb
  go_wp2_with (at_builtin; refine wpList_append_clocks _ rfl (.const (.slice none 0 0)) (.tmp 47) rfl A0 m0 c0 cs rfl rfl HM0.out HCW.out HC.out.2.1 HC.out.2.2 ?_; intro A4 c4 w3 hc3 hb3; have HC3 := Lib.hid (And.intro hc3 hb3); clear hc3 hb3)
  refine (new_all A4 c4 m0 cs win w3 HM0.out HC3.out.1).mono ?_
  rintro e w4 (⟨hE2, rfl, sv2, hs, hj, hz, hlt, hb⟩ | ⟨hE2, -⟩)
  case inr => exact absurd H1.out.1 hE2
  have HB4 := Lib.hid (back_of (back_of HB2.out HC3.out.2) hb)
  have H2 := Lib.hid (And.intro hs (And.intro hj (And.intro hz (And.intro hlt hb))))
  clear hE2 hs hj hz hlt hb
  have HR1 := Lib.hid (HX.out.1.below HB4.out)
  go_wp2_with (at_builtin; first | (refine wpList_append_reads _ rfl (.const (.slice none 0 0)) (.tmp 71) rfl w4.heap.size (.slice none 0 0) A1 n1 c1 [] ls rfl rfl (World.ownsRow_nil _ _ _ _) (Nat.le_refl _) HN1.out HR1.out HAA.out.1 (by simp; omega) ?_; intro v5 w5 hr5 hb5; have H5 := Lib.hid (And.intro hr5 hb5); have HR2 := Lib.hid (HX2.out.1.below (back_of HB4.out hb5)); clear hr5 hb5) | (refine wpList_append_reads _ rfl (.tmp 72) (.tmp 73) rfl w4.heap.size v5 A2 n2 c2 ([] ++ ls) ms rfl rfl H5.out.1 H5.out.2.size HN2.out HR2.out HAA.out.2 (by simp; have := HN1.out; omega) ?_; intro v6 w6 hr6 hb6; have hln : ([] ++ ls ++ ms).length = n1 + n2 := (by rw [List.length_append, List.nil_append, HN1.out, HN2.out]); obtain ⟨A6, c6, hv6⟩ := hr6.slice; rw [hln] at hv6; subst hv6; have H6 := Lib.hid (And.intro hr6 (H5.out.2.trans hb6)); clear hr6 hb6 hln))
  have HT := Lib.hid (TW.start H1.out.1 HC1.out.2 H1.out.2.1 H1.out.2.2.1 H1.out.2.2.2.1 H1.out.2.2.2.2.1 H1.out.2.2.2.2.2 HC3.out.2 H2.out.1 H2.out.2.1 H2.out.2.2.1 H2.out.2.2.2.1 H2.out.2.2.2.2 H6.out.2 H6.out.1.rd.1 H6.out.1.rd.2)
  have HOK := Lib.hid (show ∀ e ∈ [] ++ ls ++ ms, InOk w e from fun e he => (List.mem_append.1 he).elim (fun h => HX.out.2 e h) (fun h => HX2.out.2 e h))
  have hln : ([] ++ ls ++ ms).length = n1 + n2 := by rw [List.length_append, List.nil_append, HN1.out, HN2.out]
  generalize [] ++ ls ++ ms = all at HT HOK hln
  obtain ⟨n, hn⟩ : ∃ n, n1 + n2 = n := ⟨_, rfl⟩
  rw [hn] at hln
  have hn200 : n ≤ 200 := by omega
  have hnc : ((n1 + n2 : Nat) : Int) = (n : Int) := by omega
  have hnc2 : (n1 : Int) + (n2 : Int) = (n : Int) := by omega
  have HLN := Lib.hid hln
  rw [hn]
  try rw [hnc2]
  clear hnc hnc2
  generalize w1.heap.size = x at HT ⊢
  generalize w2.heap.size = Bx at HT
  generalize w3.heap.size = y at HT ⊢
  generalize w4.heap.size = By at HT
  clear HC1 HC3 H1 H2 H5 H6 HR1 HR2 HB2 HCW HB4 hn hln HX HX2 HAA HC HM0 HN1 HN2
  go_loopw [76] (fun iv wr => ∃ (i : Nat) (a b : Jn) (sns : List Sn) (xs ys tx ty : List El), i ≤ n ∧ iv = .int .i64 (i : Int) ∧ Hid (TW w wr x Bx y By a b sns xs ys tx ty (2 * i) i A6 all)) (fun iv _ => n - (intOf iv).toNat)
  case atStart => exact ⟨0, _, _, _, [], [], [], [], by omega, rfl, HT⟩
  case round =>
    obtain ⟨i, a, b, sns, xs, ys, tx, ty, hi, rfl, hh⟩ := hrel
    by_cases hlt : i < n
    · obtain ⟨ae, hae⟩ := get_someI (xs := all) (i := i) (by have := HLN.out; omega)
      rcases hh.out.rd with h0 | ⟨g1, o1, rfl, q1, hc1⟩
      · rw [h0] at hae; simp at hae
      have oa := HOK.out ae (List.mem_of_getElem? hae)
      have d1 := fun k hk => hc1 i ae hae k hk
      have x0 := d1 0 (by omega)
      have x1 := d1 1 (by omega)
      have x2 := d1 2 (by omega)
      have x3 := d1 3 (by omega)
      have HA := Lib.hid oa
      have hki : (i : Int) < (n : Int) := by omega
      have hk0 : (0 : Int) ≤ (i : Int) := by omega
      clear d1 hc1 hae oa q1
      obtain ⟨at_, se, sq, st, av, an, ac, us⟩ := ae
      rw [Nat.add_zero] at x0
      simp only [In.row4, List.getElem?_cons_zero, List.getElem?_cons_succ] at x0 x1 x2 x3
      have HOF := Lib.hid (fun W (hW : Below w.heap.size w W) => of_fl se sq st av an ac us W (HA.out.below hW).len (HA.out.below hW).at_ HA.out.big)
      have HB1 := Lib.hid ((Below.refl wr.heap.size wr).alloc (Nat.le_refl _) (.cells #[.int .i64 se, .int .u32 sq, .int .u32 st, .slice av an ac] 44))
      go_wp2_with fail
      clear x0 x1 x2 x3
      have y0 : (wr.alloc (.cells #[.int .i64 se, .int .u32 sq, .int .u32 st, .slice av an ac] 44)).cell? ⟨wr.heap.size, 0, none⟩ = some (.int .i64 se) := by simp [go_sem]
      have y1 : (wr.alloc (.cells #[.int .i64 se, .int .u32 sq, .int .u32 st, .slice av an ac] 44)).cell? ⟨wr.heap.size, 1, none⟩ = some (.int .u32 sq) := by simp [go_sem]
      have y2 : (wr.alloc (.cells #[.int .i64 se, .int .u32 sq, .int .u32 st, .slice av an ac] 44)).cell? ⟨wr.heap.size, 2, none⟩ = some (.int .u32 st) := by simp [go_sem]
      have y3 : (wr.alloc (.cells #[.int .i64 se, .int .u32 sq, .int .u32 st, .slice av an ac] 44)).cell? ⟨wr.heap.size, 3, none⟩ = some (.slice av an ac) := by simp [go_sem]
      have OB := Lib.hid (And.intro (hh.out.jx.out (Nat.le_refl wr.heap.size)) (hh.out.jy.out (Nat.le_refl wr.heap.size)))
      have hs1 : wr.heap.size < (wr.alloc (.cells #[.int .i64 se, .int .u32 sq, .int .u32 st, .slice av an ac] 44)).heap.size := by simp
      generalize wr.alloc (.cells #[.int .i64 se, .int .u32 sq, .int .u32 st, .slice av an ac] 44) = W1 at *
      have HT1 := Lib.hid (hh.out.below HB1.out)
      generalize wr.heap.size = bx at *
      clear hh HB1
      refine (HOF.out _ HT1.out.bel).mono ?_
      rintro e w2 ⟨⟨B1, k1, rfl, hf1, hnw1⟩, hb2⟩
      have HT2 := Lib.hid (HT1.out.below hb2)
      have far1 : ∀ b' f, B1 = some ⟨b', f, none⟩ → Out x a xs b' := fun b' f hB => HT1.out.jx.out (by
        rcases hnw1 with q | ⟨b'', q, q', -⟩
        · rw [q] at hB; cases hB
        · rw [q] at hB; injection hB with hB; injection hB with hB
          omega)
      have HP1 := Lib.hid (JR.push x Bx a sns xs tx (2 * i) se sq st B1 an k1 (us.map Int.toNat) w2 HT2.out.jx (by omega) hf1 HA.out.big HA.out.lt far1 HA.out.w32.2.1 HA.out.w32.2.2 HA.out.w32.1.1 HA.out.w32.1.2)
      have hk2 : ∀ i, w2.cell? ⟨bx, i, none⟩ = W1.cell? ⟨bx, i, none⟩ := fun i => hb2.cell (p := ⟨bx, i, none⟩) hs1
      have hs2 := Nat.lt_of_lt_of_le hs1 hb2.size
      clear hf1 hnw1 far1 hb2 HT1
      go_wp2_with fail
      refine HP1.out.mono ?_
      rintro e w3 ⟨kind, er, ov, a', sa, xs', ma, rfl, hp⟩
      have hk3 : ∀ i, w3.cell? ⟨bx, i, none⟩ = W1.cell? ⟨bx, i, none⟩ := fun i => (World.cell?_of_block (hp.out.ft.block bx hs2 OB.out.1.no)).trans (hk2 i)
      have hs3 := Nat.lt_of_lt_of_le hs2 hp.out.ft.size
      clear HP1 hk2
      by_cases her : er = 0
      · subst her
        by_cases hk1 : kind = 1
        · subst hk1
          have HJ3 := Lib.hid (HT2.out.jy.other HT2.out.ap hp.out.ft)
          have HB3 := Lib.hid (HT2.out.bel2 hp.out)
          have z0 := (hk3 0).trans y0
          have z1 := (hk3 1).trans y1
          have z2 := (hk3 2).trans y2
          have z3 := (hk3 3).trans y3
          go_wp2_with fail
          refine (HOF.out _ HB3.out).mono ?_
          rintro e w4 ⟨⟨B2, k2, rfl, hf2, hnw2⟩, hb4⟩
          have far2 : ∀ b' f, B2 = some ⟨b', f, none⟩ → Out y b ys b' := fun b' f hB => HJ3.out.out (by
            rcases hnw2 with q | ⟨b'', q, q', -⟩
            · rw [q] at hB; cases hB
            · rw [q] at hB; injection hB with hB; injection hB with hB
              omega)
          have HP2 := Lib.hid (JR.push y By b sns ys ty i se sq st B2 an k2 (us.map Int.toNat) w4 (HJ3.out.below hb4) (by omega) hf2 HA.out.big HA.out.lt far2 HA.out.w32.2.1 HA.out.w32.2.2 HA.out.w32.1.1 HA.out.w32.1.2)
          have hk4 : ∀ i, w4.cell? ⟨bx, i, none⟩ = W1.cell? ⟨bx, i, none⟩ := fun i => (hb4.cell (p := ⟨bx, i, none⟩) hs3).trans (hk3 i)
          have hs4 := Nat.lt_of_lt_of_le hs3 hb4.size
          have HB4 := Lib.hid hb4
          clear hf2 hnw2 far2 hb4 hk3 HJ3 z0 z1 z2 z3
          go_wp2_with fail
          refine HP2.out.mono ?_
          rintro e w5 ⟨kind2, er2, pv, b', sb, ys', mb, rfl, hq⟩
          obtain ⟨rfl, rfl, hkeys, hT5⟩ := HT2.out.both hp.out HB4.out hq.out
          have HKP := Lib.hid (told_kept hp.out HT2.out.jy HT2.out.ap HB4.out hq.out.ft)
          have HSM := Lib.hid (tsame_any ov pv ma mb w5 HKP.out.1.tl hq.out.out.tl HKP.out.2 hq.out.ok (by have := hp.out.jr.len; rw [List.length_append] at this; omega))
          rw [decide_eq_true hkeys] at HSM
          have HT5 := Lib.hid hT5
          have HSOK := Lib.hid HT2.out.jx.jp.ok
          have hk5 : ∀ i, w5.cell? ⟨bx, i, none⟩ = W1.cell? ⟨bx, i, none⟩ := fun i => (World.cell?_of_block (hq.out.ft.block bx hs4 OB.out.2.no)).trans (hk4 i)
          have hs5 := Nat.lt_of_lt_of_le hs4 hq.out.ft.size
          clear hT5 hkeys HKP hk4 HP2 HB3 HB4 HT2
          go_wp2_with fail
          refine HSM.out.mono ?_
          rintro e w6 ⟨rfl, hb6⟩
          have HT6 := Lib.hid (HT5.out.below hb6)
          have z0 := ((hb6.cell (p := ⟨bx, 0, none⟩) hs5).trans (hk5 0)).trans y0
          have z1 := ((hb6.cell (p := ⟨bx, 1, none⟩) hs5).trans (hk5 1)).trans y1
          have z2 := ((hb6.cell (p := ⟨bx, 2, none⟩) hs5).trans (hk5 2)).trans y2
          have z3 := ((hb6.cell (p := ⟨bx, 3, none⟩) hs5).trans (hk5 3)).trans y3
          clear hb6 hk5 HSM HT5
          go_wp2_with fail
          refine (HOF.out _ HT6.out.bel).mono ?_
          rintro e w7 ⟨⟨B3, k3, rfl, hf3, hnw3⟩, hb7⟩
          have HT7 := Lib.hid (HT6.out.below hb7)
          have far3 : ∀ b'' f, B3 = some ⟨b'', f, none⟩ → Out x a' xs' b'' := fun b2 f hB => HT6.out.jx.out (by
            rcases hnw3 with q | ⟨b'', q, q', -⟩
            · rw [q] at hB; cases hB
            · rw [q] at hB; injection hB with hB; injection hB with hB
              omega)
          have HP3 := Lib.hid (JR.push x Bx a' sa xs' (tx ++ ma) (2 * i + 1) se sq st B3 an k3 (us.map Int.toNat) w7 HT7.out.jx (by omega) hf3 HA.out.big HA.out.lt far3 HA.out.w32.2.1 HA.out.w32.2.2 HA.out.w32.1.1 HA.out.w32.1.2)
          clear hf3 hnw3 far3 hb7 HT6 z0 z1 z2 z3 y0 y1 y2 y3
          go_wp2_with fail
          refine HP3.out.mono ?_
          rintro e w8 ⟨kind3, er3, rv, a2, sa2, xs2, m2, rfl, hr⟩
          rcases how_again HSOK.out HA.out.w32.1.1 HA.out.w32.1.2 hp.out.how hr.out.how with ⟨rfl, hkk⟩ | ⟨rfl, rfl⟩
          · have hn2 : (0 : Int) ≠ 0 ∨ kind3 ≠ 1 := .inr (by omega)
            obtain ⟨rfl, -, -⟩ := hr.out.nil hn2
            have HT8 := Lib.hid (HT7.out.push hr.out hn2)
            clear hp hq hr HP3 HT7 HSOK hn2
            rcases hkk with rfl | rfl
            · as_aux_lemma =>
              have HTT := Lib.hid ((HT8.out).mono (m := 2 * (i + 1)) (m2 := i + 1) (by omega) (by omega))
              have HCx := Lib.hid (fun W (hW : Below w8.heap.size w8 W) => counts_any x a2 W (HTT.out.jx.below hW).inv.jn (by have h1 := (HTT.out.jx.below hW).inv.big; have h2 := (HTT.out.jx.below hW).inv.xB; omega))
              have HCy := Lib.hid (fun W (hW : Below w8.heap.size w8 W) => counts_any y b' W (HTT.out.jy.below hW).inv.jn (by have h1 := (HTT.out.jy.below hW).inv.big; have h2 := (HTT.out.jy.below hW).inv.xB; omega))
              have HHx := Lib.hid (fun W (hW : Below w8.heap.size w8 W) => horizon_any x a2 W (HTT.out.jx.below hW).inv.jn)
              have HHy := Lib.hid (fun W (hW : Below w8.heap.size w8 W) => horizon_any y b' W (HTT.out.jy.below hW).inv.jn)
              have HWx := Lib.hid (fun W (hW : Below w8.heap.size w8 W) => waiting_any x Bx a2 sa xs' W W (HTT.out.jx.below hW).inv (HTT.out.jx.below hW).vi (by have := HTT.out.jx.len; omega))
              have HWy := Lib.hid (fun W (hW : Below w8.heap.size w8 W) => waiting_any y By b' sa ys' W W (HTT.out.jy.below hW).inv (HTT.out.jy.below hW).vi (by have := HTT.out.jy.len; omega))
              rw [← HTT.out.same.ct, ← HTT.out.same.cs] at HCy
              rw [← HTT.out.same.some, ← HTT.out.same.hor] at HHy
              obtain ⟨HR, hHR⟩ : ∃ z, (if (a2).some = true then (a2).hor else 0) = z := ⟨_, rfl⟩
              rw [hHR] at HHx HHy
              clear hHR
              go_wp2_with fail
              refine (HCx.out _ (Below.refl _ _)).mono ?_
              rintro e v1 ⟨rfl, hv1⟩
              go_wp2_with fail
              refine (HCy.out _ hv1).mono ?_
              rintro e v2 ⟨rfl, hv2⟩
              have hvv := back_of hv1 hv2
              have HW3 := Lib.hid (show Below w8.heap.size w8 ((v2.alloc (.cells #[.int .i64 (a2).ct, .int .i64 (a2).cd, .int .i64 (a2).co, .int .i64 (a2).cl, .int .i64 (a2).cs] 51)).alloc (.cells #[.int .i64 (a2).ct, .int .i64 (b').cd, .int .i64 (b').co, .int .i64 (b').cl, .int .i64 (a2).cs] 51)) from (hvv.alloc hvv.size _).alloc (Nat.le_trans hvv.size (by simp)) _)
              have q0 : ((v2.alloc (.cells #[.int .i64 (a2).ct, .int .i64 (a2).cd, .int .i64 (a2).co, .int .i64 (a2).cl, .int .i64 (a2).cs] 51)).alloc (.cells #[.int .i64 (a2).ct, .int .i64 (b').cd, .int .i64 (b').co, .int .i64 (b').cl, .int .i64 (a2).cs] 51)).cell? ⟨v2.heap.size, 0, none⟩ = some (.int .i64 (a2).ct) := by simp [go_sem]
              have q4 : ((v2.alloc (.cells #[.int .i64 (a2).ct, .int .i64 (a2).cd, .int .i64 (a2).co, .int .i64 (a2).cl, .int .i64 (a2).cs] 51)).alloc (.cells #[.int .i64 (a2).ct, .int .i64 (b').cd, .int .i64 (b').co, .int .i64 (b').cl, .int .i64 (a2).cs] 51)).cell? ⟨v2.heap.size, 4, none⟩ = some (.int .i64 (a2).cs) := by simp [go_sem]
              have r0 : ((v2.alloc (.cells #[.int .i64 (a2).ct, .int .i64 (a2).cd, .int .i64 (a2).co, .int .i64 (a2).cl, .int .i64 (a2).cs] 51)).alloc (.cells #[.int .i64 (a2).ct, .int .i64 (b').cd, .int .i64 (b').co, .int .i64 (b').cl, .int .i64 (a2).cs] 51)).cell? ⟨v2.heap.size + 1, 0, none⟩ = some (.int .i64 (a2).ct) := by simp [go_sem]
              have r4 : ((v2.alloc (.cells #[.int .i64 (a2).ct, .int .i64 (a2).cd, .int .i64 (a2).co, .int .i64 (a2).cl, .int .i64 (a2).cs] 51)).alloc (.cells #[.int .i64 (a2).ct, .int .i64 (b').cd, .int .i64 (b').co, .int .i64 (b').cl, .int .i64 (a2).cs] 51)).cell? ⟨v2.heap.size + 1, 4, none⟩ = some (.int .i64 (a2).cs) := by simp [go_sem]
              have hsz3 : v2.heap.size + 1 < ((v2.alloc (.cells #[.int .i64 (a2).ct, .int .i64 (a2).cd, .int .i64 (a2).co, .int .i64 (a2).cl, .int .i64 (a2).cs] 51)).alloc (.cells #[.int .i64 (a2).ct, .int .i64 (b').cd, .int .i64 (b').co, .int .i64 (b').cl, .int .i64 (a2).cs] 51)).heap.size := by simp
              clear hv1 hv2 hvv
              go_wp2_with fail
              generalize ((v2.alloc (.cells #[.int .i64 (a2).ct, .int .i64 (a2).cd, .int .i64 (a2).co, .int .i64 (a2).cl, .int .i64 (a2).cs] 51)).alloc (.cells #[.int .i64 (a2).ct, .int .i64 (b').cd, .int .i64 (b').co, .int .i64 (b').cl, .int .i64 (a2).cs] 51)) = v3 at *
              generalize v2.heap.size = d at *
              refine (HHx.out _ HW3.out).mono ?_
              rintro e v4 ⟨rfl, hv4⟩
              go_wp2_with fail
              refine (HHy.out _ (back_of HW3.out hv4)).mono ?_
              rintro e v5 ⟨rfl, hv5⟩
              have HV5 := Lib.hid (back_of hv4 hv5)
              clear hv4 hv5
              go_wp2_with fail
              refine (HWx.out _ (back_of HW3.out HV5.out)).mono ?_
              rintro e v6 ⟨wv1, es1, rfl, hW1⟩
              have HV6 := Lib.hid (back_of HV5.out hW1.out.2.2.2.2)
              go_wp2_with fail
              refine (HWy.out _ (back_of HW3.out HV6.out)).mono ?_
              rintro e v7 ⟨wv2, es2, rfl, hW2⟩
              have HV7 := Lib.hid (back_of HV6.out hW2.out.2.2.2.2)
              have hkw : es1.map El.key = es2.map El.key := keys_unique hW1.out.2.2.1 hW2.out.2.2.1 (by
                refine hW1.out.2.1.trans ?_
                rw [HTT.out.keys]
                exact hW2.out.2.1.symm)
              have HSW := Lib.hid (tsame_any wv1 wv2 es1 es2 v7 ((hW1.out.1.below hW2.out.2.2.2.2).tl) hW2.out.1.tl (fun e he => (hW1.out.2.2.2.1 e he).below hW2.out.2.2.2.2) hW2.out.2.2.2.1 (by
                have h1 := hW1.out.2.1.length_eq
                simp only [List.length_map] at h1
                have := HTT.out.jx.len
                omega))
              rw [decide_eq_true hkw] at HSW
              clear hW1 hW2 hkw HV5 HV6 HCx HCy HHx HHy HWx HWy
              go_wp2_with fail
              refine HSW.out.mono ?_
              rintro e v8 ⟨rfl, hv8⟩
              have HV8 := Lib.hid (back_of HV7.out hv8)
              have HT8' := Lib.hid (HTT.out.below (back_of HW3.out HV8.out))
              have s0 := (HV8.out.cell (p := ⟨d, 0, none⟩) (by show d < _; omega)).trans q0
              have s4 := (HV8.out.cell (p := ⟨d, 4, none⟩) (by show d < _; omega)).trans q4
              have t0 := (HV8.out.cell (p := ⟨d + 1, 0, none⟩) hsz3).trans r0
              have t4 := (HV8.out.cell (p := ⟨d + 1, 4, none⟩) hsz3).trans r4
              clear hv8 HSW HV7 q0 q4 r0 r4 hsz3 HV8 HW3 HTT
              have h50 : (5 : Int) ≠ 0 := by decide
              by_cases h5 : i % 5 = 4
              · have hrem : (i : Int).tmod 5 = 4 := by rw [Int.tmod_eq_emod_of_nonneg (by omega)]; omega
                go_wp2_with fail
                refine (JR.flush x Bx a2 sa xs' (tx ++ ma) (2 * (i + 1)) v8 HT8'.out.jx (by omega)).mono ?_
                rintro e v9 ⟨fo, a3, mx, rfl, hfx⟩
                have HY9 := Lib.hid (HT8'.out.jy.other HT8'.out.ap (hfx.out.ft.mono (fun c _ hc => hc.imp id .inr)))
                go_wp2_with fail
                refine (JR.flush y By b' sa ys' (ty ++ mb) (i + 1) v9 HY9.out (by omega)).mono ?_
                rintro e v10 ⟨fu, b3, my, rfl, hfy⟩
                obtain ⟨hkf, hT10⟩ := HT8'.out.flush hfx.out hfy.out
                have HT10 := Lib.hid hT10
                have HKF := Lib.hid (flush_kept hfx.out HT8'.out.jy HT8'.out.ap hfy.out.ft)
                have HSF := Lib.hid (tsame_any fo fu mx my v10 HKF.out.1.tl hfy.out.out.tl HKF.out.2 hfy.out.ok (by have := hfx.out.jr.len; rw [List.length_append] at this; omega))
                rw [decide_eq_true hkf] at HSF
                clear hfx hfy HY9 HKF hkf hT10 HT8'
                go_wp2_with fail
                refine HSF.out.mono ?_
                rintro e v11 ⟨rfl, hv11⟩
                have HT11 := Lib.hid (HT10.out.below hv11)
                clear hv11 HSF HT10
                go_wp2_with fail
                go_roundw
                case rel => exact ⟨i + 1, a3, b3, sa, [], [], _, _, by omega, by go_num, HT11⟩
                case measure => simp [intOf]; omega
              · have hrem : ¬ (i : Int).tmod 5 = 4 := by rw [Int.tmod_eq_emod_of_nonneg (by omega)]; omega
                go_wp2_with fail
                go_roundw
                case rel => exact ⟨i + 1, a2, b', sa, xs', ys', _, _, by omega, by go_num, HT8'⟩
                case measure => simp [intOf]; omega
            · as_aux_lemma =>
              have HTT := Lib.hid ((HT8.out).mono (m := 2 * (i + 1)) (m2 := i + 1) (by omega) (by omega))
              have HCx := Lib.hid (fun W (hW : Below w8.heap.size w8 W) => counts_any x a2 W (HTT.out.jx.below hW).inv.jn (by have h1 := (HTT.out.jx.below hW).inv.big; have h2 := (HTT.out.jx.below hW).inv.xB; omega))
              have HCy := Lib.hid (fun W (hW : Below w8.heap.size w8 W) => counts_any y b' W (HTT.out.jy.below hW).inv.jn (by have h1 := (HTT.out.jy.below hW).inv.big; have h2 := (HTT.out.jy.below hW).inv.xB; omega))
              have HHx := Lib.hid (fun W (hW : Below w8.heap.size w8 W) => horizon_any x a2 W (HTT.out.jx.below hW).inv.jn)
              have HHy := Lib.hid (fun W (hW : Below w8.heap.size w8 W) => horizon_any y b' W (HTT.out.jy.below hW).inv.jn)
              have HWx := Lib.hid (fun W (hW : Below w8.heap.size w8 W) => waiting_any x Bx a2 sa xs' W W (HTT.out.jx.below hW).inv (HTT.out.jx.below hW).vi (by have := HTT.out.jx.len; omega))
              have HWy := Lib.hid (fun W (hW : Below w8.heap.size w8 W) => waiting_any y By b' sa ys' W W (HTT.out.jy.below hW).inv (HTT.out.jy.below hW).vi (by have := HTT.out.jy.len; omega))
              rw [← HTT.out.same.ct, ← HTT.out.same.cs] at HCy
              rw [← HTT.out.same.some, ← HTT.out.same.hor] at HHy
              obtain ⟨HR, hHR⟩ : ∃ z, (if (a2).some = true then (a2).hor else 0) = z := ⟨_, rfl⟩
              rw [hHR] at HHx HHy
              clear hHR
              go_wp2_with fail
              refine (HCx.out _ (Below.refl _ _)).mono ?_
              rintro e v1 ⟨rfl, hv1⟩
              go_wp2_with fail
              refine (HCy.out _ hv1).mono ?_
              rintro e v2 ⟨rfl, hv2⟩
              have hvv := back_of hv1 hv2
              have HW3 := Lib.hid (show Below w8.heap.size w8 ((v2.alloc (.cells #[.int .i64 (a2).ct, .int .i64 (a2).cd, .int .i64 (a2).co, .int .i64 (a2).cl, .int .i64 (a2).cs] 51)).alloc (.cells #[.int .i64 (a2).ct, .int .i64 (b').cd, .int .i64 (b').co, .int .i64 (b').cl, .int .i64 (a2).cs] 51)) from (hvv.alloc hvv.size _).alloc (Nat.le_trans hvv.size (by simp)) _)
              have q0 : ((v2.alloc (.cells #[.int .i64 (a2).ct, .int .i64 (a2).cd, .int .i64 (a2).co, .int .i64 (a2).cl, .int .i64 (a2).cs] 51)).alloc (.cells #[.int .i64 (a2).ct, .int .i64 (b').cd, .int .i64 (b').co, .int .i64 (b').cl, .int .i64 (a2).cs] 51)).cell? ⟨v2.heap.size, 0, none⟩ = some (.int .i64 (a2).ct) := by simp [go_sem]
              have q4 : ((v2.alloc (.cells #[.int .i64 (a2).ct, .int .i64 (a2).cd, .int .i64 (a2).co, .int .i64 (a2).cl, .int .i64 (a2).cs] 51)).alloc (.cells #[.int .i64 (a2).ct, .int .i64 (b').cd, .int .i64 (b').co, .int .i64 (b').cl, .int .i64 (a2).cs] 51)).cell? ⟨v2.heap.size, 4, none⟩ = some (.int .i64 (a2).cs) := by simp [go_sem]
              have r0 : ((v2.alloc (.cells #[.int .i64 (a2).ct, .int .i64 (a2).cd, .int .i64 (a2).co, .int .i64 (a2).cl, .int .i64 (a2).cs] 51)).alloc (.cells #[.int .i64 (a2).ct, .int .i64 (b').cd, .int .i64 (b').co, .int .i64 (b').cl, .int .i64 (a2).cs] 51)).cell? ⟨v2.heap.size + 1, 0, none⟩ = some (.int .i64 (a2).ct) := by simp [go_sem]
              have r4 : ((v2.alloc (.cells #[.int .i64 (a2).ct, .int .i64 (a2).cd, .int .i64 (a2).co, .int .i64 (a2).cl, .int .i64 (a2).cs] 51)).alloc (.cells #[.int .i64 (a2).ct, .int .i64 (b').cd, .int .i64 (b').co, .int .i64 (b').cl, .int .i64 (a2).cs] 51)).cell? ⟨v2.heap.size + 1, 4, none⟩ = some (.int .i64 (a2).cs) := by simp [go_sem]
              have hsz3 : v2.heap.size + 1 < ((v2.alloc (.cells #[.int .i64 (a2).ct, .int .i64 (a2).cd, .int .i64 (a2).co, .int .i64 (a2).cl, .int .i64 (a2).cs] 51)).alloc (.cells #[.int .i64 (a2).ct, .int .i64 (b').cd, .int .i64 (b').co, .int .i64 (b').cl, .int .i64 (a2).cs] 51)).heap.size := by simp
              clear hv1 hv2 hvv
              go_wp2_with fail
              generalize ((v2.alloc (.cells #[.int .i64 (a2).ct, .int .i64 (a2).cd, .int .i64 (a2).co, .int .i64 (a2).cl, .int .i64 (a2).cs] 51)).alloc (.cells #[.int .i64 (a2).ct, .int .i64 (b').cd, .int .i64 (b').co, .int .i64 (b').cl, .int .i64 (a2).cs] 51)) = v3 at *
              generalize v2.heap.size = d at *
              refine (HHx.out _ HW3.out).mono ?_
              rintro e v4 ⟨rfl, hv4⟩
              go_wp2_with fail
              refine (HHy.out _ (back_of HW3.out hv4)).mono ?_
              rintro e v5 ⟨rfl, hv5⟩
              have HV5 := Lib.hid (back_of hv4 hv5)
              clear hv4 hv5
              go_wp2_with fail
              refine (HWx.out _ (back_of HW3.out HV5.out)).mono ?_
              rintro e v6 ⟨wv1, es1, rfl, hW1⟩
              have HV6 := Lib.hid (back_of HV5.out hW1.out.2.2.2.2)
              go_wp2_with fail
              refine (HWy.out _ (back_of HW3.out HV6.out)).mono ?_
              rintro e v7 ⟨wv2, es2, rfl, hW2⟩
              have HV7 := Lib.hid (back_of HV6.out hW2.out.2.2.2.2)
              have hkw : es1.map El.key = es2.map El.key := keys_unique hW1.out.2.2.1 hW2.out.2.2.1 (by
                refine hW1.out.2.1.trans ?_
                rw [HTT.out.keys]
                exact hW2.out.2.1.symm)
              have HSW := Lib.hid (tsame_any wv1 wv2 es1 es2 v7 ((hW1.out.1.below hW2.out.2.2.2.2).tl) hW2.out.1.tl (fun e he => (hW1.out.2.2.2.1 e he).below hW2.out.2.2.2.2) hW2.out.2.2.2.1 (by
                have h1 := hW1.out.2.1.length_eq
                simp only [List.length_map] at h1
                have := HTT.out.jx.len
                omega))
              rw [decide_eq_true hkw] at HSW
              clear hW1 hW2 hkw HV5 HV6 HCx HCy HHx HHy HWx HWy
              go_wp2_with fail
              refine HSW.out.mono ?_
              rintro e v8 ⟨rfl, hv8⟩
              have HV8 := Lib.hid (back_of HV7.out hv8)
              have HT8' := Lib.hid (HTT.out.below (back_of HW3.out HV8.out))
              have s0 := (HV8.out.cell (p := ⟨d, 0, none⟩) (by show d < _; omega)).trans q0
              have s4 := (HV8.out.cell (p := ⟨d, 4, none⟩) (by show d < _; omega)).trans q4
              have t0 := (HV8.out.cell (p := ⟨d + 1, 0, none⟩) hsz3).trans r0
              have t4 := (HV8.out.cell (p := ⟨d + 1, 4, none⟩) hsz3).trans r4
              clear hv8 HSW HV7 q0 q4 r0 r4 hsz3 HV8 HW3 HTT
              have h50 : (5 : Int) ≠ 0 := by decide
              by_cases h5 : i % 5 = 4
              · have hrem : (i : Int).tmod 5 = 4 := by rw [Int.tmod_eq_emod_of_nonneg (by omega)]; omega
                go_wp2_with fail
                refine (JR.flush x Bx a2 sa xs' (tx ++ ma) (2 * (i + 1)) v8 HT8'.out.jx (by omega)).mono ?_
                rintro e v9 ⟨fo, a3, mx, rfl, hfx⟩
                have HY9 := Lib.hid (HT8'.out.jy.other HT8'.out.ap (hfx.out.ft.mono (fun c _ hc => hc.imp id .inr)))
                go_wp2_with fail
                refine (JR.flush y By b' sa ys' (ty ++ mb) (i + 1) v9 HY9.out (by omega)).mono ?_
                rintro e v10 ⟨fu, b3, my, rfl, hfy⟩
                obtain ⟨hkf, hT10⟩ := HT8'.out.flush hfx.out hfy.out
                have HT10 := Lib.hid hT10
                have HKF := Lib.hid (flush_kept hfx.out HT8'.out.jy HT8'.out.ap hfy.out.ft)
                have HSF := Lib.hid (tsame_any fo fu mx my v10 HKF.out.1.tl hfy.out.out.tl HKF.out.2 hfy.out.ok (by have := hfx.out.jr.len; rw [List.length_append] at this; omega))
                rw [decide_eq_true hkf] at HSF
                clear hfx hfy HY9 HKF hkf hT10 HT8'
                go_wp2_with fail
                refine HSF.out.mono ?_
                rintro e v11 ⟨rfl, hv11⟩
                have HT11 := Lib.hid (HT10.out.below hv11)
                clear hv11 HSF HT10
                go_wp2_with fail
                go_roundw
                case rel => exact ⟨i + 1, a3, b3, sa, [], [], _, _, by omega, by go_num, HT11⟩
                case measure => simp [intOf]; omega
              · have hrem : ¬ (i : Int).tmod 5 = 4 := by rw [Int.tmod_eq_emod_of_nonneg (by omega)]; omega
                go_wp2_with fail
                go_roundw
                case rel => exact ⟨i + 1, a2, b', sa, xs', ys', _, _, by omega, by go_num, HT8'⟩
                case measure => simp [intOf]; omega
          · have hn2 : (1 : Int) ≠ 0 ∨ (0 : Int) ≠ 1 := .inl (by decide)
            obtain ⟨rfl, -, -⟩ := hr.out.nil hn2
            have HT8 := Lib.hid (HT7.out.push hr.out hn2)
            clear hp hq hr HP3 HT7 HSOK hn2
            as_aux_lemma =>
              have HTT := Lib.hid ((HT8.out).mono (m := 2 * (i + 1)) (m2 := i + 1) (by omega) (by omega))
              have HCx := Lib.hid (fun W (hW : Below w8.heap.size w8 W) => counts_any x a2 W (HTT.out.jx.below hW).inv.jn (by have h1 := (HTT.out.jx.below hW).inv.big; have h2 := (HTT.out.jx.below hW).inv.xB; omega))
              have HCy := Lib.hid (fun W (hW : Below w8.heap.size w8 W) => counts_any y b' W (HTT.out.jy.below hW).inv.jn (by have h1 := (HTT.out.jy.below hW).inv.big; have h2 := (HTT.out.jy.below hW).inv.xB; omega))
              have HHx := Lib.hid (fun W (hW : Below w8.heap.size w8 W) => horizon_any x a2 W (HTT.out.jx.below hW).inv.jn)
              have HHy := Lib.hid (fun W (hW : Below w8.heap.size w8 W) => horizon_any y b' W (HTT.out.jy.below hW).inv.jn)
              have HWx := Lib.hid (fun W (hW : Below w8.heap.size w8 W) => waiting_any x Bx a2 sa xs' W W (HTT.out.jx.below hW).inv (HTT.out.jx.below hW).vi (by have := HTT.out.jx.len; omega))
              have HWy := Lib.hid (fun W (hW : Below w8.heap.size w8 W) => waiting_any y By b' sa ys' W W (HTT.out.jy.below hW).inv (HTT.out.jy.below hW).vi (by have := HTT.out.jy.len; omega))
              rw [← HTT.out.same.ct, ← HTT.out.same.cs] at HCy
              rw [← HTT.out.same.some, ← HTT.out.same.hor] at HHy
              obtain ⟨HR, hHR⟩ : ∃ z, (if (a2).some = true then (a2).hor else 0) = z := ⟨_, rfl⟩
              rw [hHR] at HHx HHy
              clear hHR
              go_wp2_with fail
              refine (HCx.out _ (Below.refl _ _)).mono ?_
              rintro e v1 ⟨rfl, hv1⟩
              go_wp2_with fail
              refine (HCy.out _ hv1).mono ?_
              rintro e v2 ⟨rfl, hv2⟩
              have hvv := back_of hv1 hv2
              have HW3 := Lib.hid (show Below w8.heap.size w8 ((v2.alloc (.cells #[.int .i64 (a2).ct, .int .i64 (a2).cd, .int .i64 (a2).co, .int .i64 (a2).cl, .int .i64 (a2).cs] 51)).alloc (.cells #[.int .i64 (a2).ct, .int .i64 (b').cd, .int .i64 (b').co, .int .i64 (b').cl, .int .i64 (a2).cs] 51)) from (hvv.alloc hvv.size _).alloc (Nat.le_trans hvv.size (by simp)) _)
              have q0 : ((v2.alloc (.cells #[.int .i64 (a2).ct, .int .i64 (a2).cd, .int .i64 (a2).co, .int .i64 (a2).cl, .int .i64 (a2).cs] 51)).alloc (.cells #[.int .i64 (a2).ct, .int .i64 (b').cd, .int .i64 (b').co, .int .i64 (b').cl, .int .i64 (a2).cs] 51)).cell? ⟨v2.heap.size, 0, none⟩ = some (.int .i64 (a2).ct) := by simp [go_sem]
              have q4 : ((v2.alloc (.cells #[.int .i64 (a2).ct, .int .i64 (a2).cd, .int .i64 (a2).co, .int .i64 (a2).cl, .int .i64 (a2).cs] 51)).alloc (.cells #[.int .i64 (a2).ct, .int .i64 (b').cd, .int .i64 (b').co, .int .i64 (b').cl, .int .i64 (a2).cs] 51)).cell? ⟨v2.heap.size, 4, none⟩ = some (.int .i64 (a2).cs) := by simp [go_sem]
              have r0 : ((v2.alloc (.cells #[.int .i64 (a2).ct, .int .i64 (a2).cd, .int .i64 (a2).co, .int .i64 (a2).cl, .int .i64 (a2).cs] 51)).alloc (.cells #[.int .i64 (a2).ct, .int .i64 (b').cd, .int .i64 (b').co, .int .i64 (b').cl, .int .i64 (a2).cs] 51)).cell? ⟨v2.heap.size + 1, 0, none⟩ = some (.int .i64 (a2).ct) := by simp [go_sem]
              have r4 : ((v2.alloc (.cells #[.int .i64 (a2).ct, .int .i64 (a2).cd, .int .i64 (a2).co, .int .i64 (a2).cl, .int .i64 (a2).cs] 51)).alloc (.cells #[.int .i64 (a2).ct, .int .i64 (b').cd, .int .i64 (b').co, .int .i64 (b').cl, .int .i64 (a2).cs] 51)).cell? ⟨v2.heap.size + 1, 4, none⟩ = some (.int .i64 (a2).cs) := by simp [go_sem]
              have hsz3 : v2.heap.size + 1 < ((v2.alloc (.cells #[.int .i64 (a2).ct, .int .i64 (a2).cd, .int .i64 (a2).co, .int .i64 (a2).cl, .int .i64 (a2).cs] 51)).alloc (.cells #[.int .i64 (a2).ct, .int .i64 (b').cd, .int .i64 (b').co, .int .i64 (b').cl, .int .i64 (a2).cs] 51)).heap.size := by simp
              clear hv1 hv2 hvv
              go_wp2_with fail
              generalize ((v2.alloc (.cells #[.int .i64 (a2).ct, .int .i64 (a2).cd, .int .i64 (a2).co, .int .i64 (a2).cl, .int .i64 (a2).cs] 51)).alloc (.cells #[.int .i64 (a2).ct, .int .i64 (b').cd, .int .i64 (b').co, .int .i64 (b').cl, .int .i64 (a2).cs] 51)) = v3 at *
              generalize v2.heap.size = d at *
              refine (HHx.out _ HW3.out).mono ?_
              rintro e v4 ⟨rfl, hv4⟩
              go_wp2_with fail
              refine (HHy.out _ (back_of HW3.out hv4)).mono ?_
              rintro e v5 ⟨rfl, hv5⟩
              have HV5 := Lib.hid (back_of hv4 hv5)
              clear hv4 hv5
              go_wp2_with fail
              refine (HWx.out _ (back_of HW3.out HV5.out)).mono ?_
              rintro e v6 ⟨wv1, es1, rfl, hW1⟩
              have HV6 := Lib.hid (back_of HV5.out hW1.out.2.2.2.2)
              go_wp2_with fail
              refine (HWy.out _ (back_of HW3.out HV6.out)).mono ?_
              rintro e v7 ⟨wv2, es2, rfl, hW2⟩
              have HV7 := Lib.hid (back_of HV6.out hW2.out.2.2.2.2)
              have hkw : es1.map El.key = es2.map El.key := keys_unique hW1.out.2.2.1 hW2.out.2.2.1 (by
                refine hW1.out.2.1.trans ?_
                rw [HTT.out.keys]
                exact hW2.out.2.1.symm)
              have HSW := Lib.hid (tsame_any wv1 wv2 es1 es2 v7 ((hW1.out.1.below hW2.out.2.2.2.2).tl) hW2.out.1.tl (fun e he => (hW1.out.2.2.2.1 e he).below hW2.out.2.2.2.2) hW2.out.2.2.2.1 (by
                have h1 := hW1.out.2.1.length_eq
                simp only [List.length_map] at h1
                have := HTT.out.jx.len
                omega))
              rw [decide_eq_true hkw] at HSW
              clear hW1 hW2 hkw HV5 HV6 HCx HCy HHx HHy HWx HWy
              go_wp2_with fail
              refine HSW.out.mono ?_
              rintro e v8 ⟨rfl, hv8⟩
              have HV8 := Lib.hid (back_of HV7.out hv8)
              have HT8' := Lib.hid (HTT.out.below (back_of HW3.out HV8.out))
              have s0 := (HV8.out.cell (p := ⟨d, 0, none⟩) (by show d < _; omega)).trans q0
              have s4 := (HV8.out.cell (p := ⟨d, 4, none⟩) (by show d < _; omega)).trans q4
              have t0 := (HV8.out.cell (p := ⟨d + 1, 0, none⟩) hsz3).trans r0
              have t4 := (HV8.out.cell (p := ⟨d + 1, 4, none⟩) hsz3).trans r4
              clear hv8 HSW HV7 q0 q4 r0 r4 hsz3 HV8 HW3 HTT
              have h50 : (5 : Int) ≠ 0 := by decide
              by_cases h5 : i % 5 = 4
              · have hrem : (i : Int).tmod 5 = 4 := by rw [Int.tmod_eq_emod_of_nonneg (by omega)]; omega
                go_wp2_with fail
                refine (JR.flush x Bx a2 sa xs' (tx ++ ma) (2 * (i + 1)) v8 HT8'.out.jx (by omega)).mono ?_
                rintro e v9 ⟨fo, a3, mx, rfl, hfx⟩
                have HY9 := Lib.hid (HT8'.out.jy.other HT8'.out.ap (hfx.out.ft.mono (fun c _ hc => hc.imp id .inr)))
                go_wp2_with fail
                refine (JR.flush y By b' sa ys' (ty ++ mb) (i + 1) v9 HY9.out (by omega)).mono ?_
                rintro e v10 ⟨fu, b3, my, rfl, hfy⟩
                obtain ⟨hkf, hT10⟩ := HT8'.out.flush hfx.out hfy.out
                have HT10 := Lib.hid hT10
                have HKF := Lib.hid (flush_kept hfx.out HT8'.out.jy HT8'.out.ap hfy.out.ft)
                have HSF := Lib.hid (tsame_any fo fu mx my v10 HKF.out.1.tl hfy.out.out.tl HKF.out.2 hfy.out.ok (by have := hfx.out.jr.len; rw [List.length_append] at this; omega))
                rw [decide_eq_true hkf] at HSF
                clear hfx hfy HY9 HKF hkf hT10 HT8'
                go_wp2_with fail
                refine HSF.out.mono ?_
                rintro e v11 ⟨rfl, hv11⟩
                have HT11 := Lib.hid (HT10.out.below hv11)
                clear hv11 HSF HT10
                go_wp2_with fail
                go_roundw
                case rel => exact ⟨i + 1, a3, b3, sa, [], [], _, _, by omega, by go_num, HT11⟩
                case measure => simp [intOf]; omega
              · have hrem : ¬ (i : Int).tmod 5 = 4 := by rw [Int.tmod_eq_emod_of_nonneg (by omega)]; omega
                go_wp2_with fail
                go_roundw
                case rel => exact ⟨i + 1, a2, b', sa, xs', ys', _, _, by omega, by go_num, HT8'⟩
                case measure => simp [intOf]; omega
        · have HT3 := Lib.hid (HT2.out.push hp.out (.inr hk1))
          clear hp HT2 hk3 y0 y1 y2 y3
          as_aux_lemma =>
            have HTT := Lib.hid ((HT3.out).mono (m := 2 * (i + 1)) (m2 := i + 1) (by omega) (by omega))
            have HCx := Lib.hid (fun W (hW : Below w3.heap.size w3 W) => counts_any x a' W (HTT.out.jx.below hW).inv.jn (by have h1 := (HTT.out.jx.below hW).inv.big; have h2 := (HTT.out.jx.below hW).inv.xB; omega))
            have HCy := Lib.hid (fun W (hW : Below w3.heap.size w3 W) => counts_any y b W (HTT.out.jy.below hW).inv.jn (by have h1 := (HTT.out.jy.below hW).inv.big; have h2 := (HTT.out.jy.below hW).inv.xB; omega))
            have HHx := Lib.hid (fun W (hW : Below w3.heap.size w3 W) => horizon_any x a' W (HTT.out.jx.below hW).inv.jn)
            have HHy := Lib.hid (fun W (hW : Below w3.heap.size w3 W) => horizon_any y b W (HTT.out.jy.below hW).inv.jn)
            have HWx := Lib.hid (fun W (hW : Below w3.heap.size w3 W) => waiting_any x Bx a' sns xs W W (HTT.out.jx.below hW).inv (HTT.out.jx.below hW).vi (by have := HTT.out.jx.len; omega))
            have HWy := Lib.hid (fun W (hW : Below w3.heap.size w3 W) => waiting_any y By b sns ys W W (HTT.out.jy.below hW).inv (HTT.out.jy.below hW).vi (by have := HTT.out.jy.len; omega))
            rw [← HTT.out.same.ct, ← HTT.out.same.cs] at HCy
            rw [← HTT.out.same.some, ← HTT.out.same.hor] at HHy
            obtain ⟨HR, hHR⟩ : ∃ z, (if (a').some = true then (a').hor else 0) = z := ⟨_, rfl⟩
            rw [hHR] at HHx HHy
            clear hHR
            go_wp2_with fail
            refine (HCx.out _ (Below.refl _ _)).mono ?_
            rintro e v1 ⟨rfl, hv1⟩
            go_wp2_with fail
            refine (HCy.out _ hv1).mono ?_
            rintro e v2 ⟨rfl, hv2⟩
            have hvv := back_of hv1 hv2
            have HW3 := Lib.hid (show Below w3.heap.size w3 ((v2.alloc (.cells #[.int .i64 (a').ct, .int .i64 (a').cd, .int .i64 (a').co, .int .i64 (a').cl, .int .i64 (a').cs] 51)).alloc (.cells #[.int .i64 (a').ct, .int .i64 (b).cd, .int .i64 (b).co, .int .i64 (b).cl, .int .i64 (a').cs] 51)) from (hvv.alloc hvv.size _).alloc (Nat.le_trans hvv.size (by simp)) _)
            have q0 : ((v2.alloc (.cells #[.int .i64 (a').ct, .int .i64 (a').cd, .int .i64 (a').co, .int .i64 (a').cl, .int .i64 (a').cs] 51)).alloc (.cells #[.int .i64 (a').ct, .int .i64 (b).cd, .int .i64 (b).co, .int .i64 (b).cl, .int .i64 (a').cs] 51)).cell? ⟨v2.heap.size, 0, none⟩ = some (.int .i64 (a').ct) := by simp [go_sem]
            have q4 : ((v2.alloc (.cells #[.int .i64 (a').ct, .int .i64 (a').cd, .int .i64 (a').co, .int .i64 (a').cl, .int .i64 (a').cs] 51)).alloc (.cells #[.int .i64 (a').ct, .int .i64 (b).cd, .int .i64 (b).co, .int .i64 (b).cl, .int .i64 (a').cs] 51)).cell? ⟨v2.heap.size, 4, none⟩ = some (.int .i64 (a').cs) := by simp [go_sem]
            have r0 : ((v2.alloc (.cells #[.int .i64 (a').ct, .int .i64 (a').cd, .int .i64 (a').co, .int .i64 (a').cl, .int .i64 (a').cs] 51)).alloc (.cells #[.int .i64 (a').ct, .int .i64 (b).cd, .int .i64 (b).co, .int .i64 (b).cl, .int .i64 (a').cs] 51)).cell? ⟨v2.heap.size + 1, 0, none⟩ = some (.int .i64 (a').ct) := by simp [go_sem]
            have r4 : ((v2.alloc (.cells #[.int .i64 (a').ct, .int .i64 (a').cd, .int .i64 (a').co, .int .i64 (a').cl, .int .i64 (a').cs] 51)).alloc (.cells #[.int .i64 (a').ct, .int .i64 (b).cd, .int .i64 (b).co, .int .i64 (b).cl, .int .i64 (a').cs] 51)).cell? ⟨v2.heap.size + 1, 4, none⟩ = some (.int .i64 (a').cs) := by simp [go_sem]
            have hsz3 : v2.heap.size + 1 < ((v2.alloc (.cells #[.int .i64 (a').ct, .int .i64 (a').cd, .int .i64 (a').co, .int .i64 (a').cl, .int .i64 (a').cs] 51)).alloc (.cells #[.int .i64 (a').ct, .int .i64 (b).cd, .int .i64 (b).co, .int .i64 (b).cl, .int .i64 (a').cs] 51)).heap.size := by simp
            clear hv1 hv2 hvv
            go_wp2_with fail
            generalize ((v2.alloc (.cells #[.int .i64 (a').ct, .int .i64 (a').cd, .int .i64 (a').co, .int .i64 (a').cl, .int .i64 (a').cs] 51)).alloc (.cells #[.int .i64 (a').ct, .int .i64 (b).cd, .int .i64 (b).co, .int .i64 (b).cl, .int .i64 (a').cs] 51)) = v3 at *
            generalize v2.heap.size = d at *
            refine (HHx.out _ HW3.out).mono ?_
            rintro e v4 ⟨rfl, hv4⟩
            go_wp2_with fail
            refine (HHy.out _ (back_of HW3.out hv4)).mono ?_
            rintro e v5 ⟨rfl, hv5⟩
            have HV5 := Lib.hid (back_of hv4 hv5)
            clear hv4 hv5
            go_wp2_with fail
            refine (HWx.out _ (back_of HW3.out HV5.out)).mono ?_
            rintro e v6 ⟨wv1, es1, rfl, hW1⟩
            have HV6 := Lib.hid (back_of HV5.out hW1.out.2.2.2.2)
            go_wp2_with fail
            refine (HWy.out _ (back_of HW3.out HV6.out)).mono ?_
            rintro e v7 ⟨wv2, es2, rfl, hW2⟩
            have HV7 := Lib.hid (back_of HV6.out hW2.out.2.2.2.2)
            have hkw : es1.map El.key = es2.map El.key := keys_unique hW1.out.2.2.1 hW2.out.2.2.1 (by
              refine hW1.out.2.1.trans ?_
              rw [HTT.out.keys]
              exact hW2.out.2.1.symm)
            have HSW := Lib.hid (tsame_any wv1 wv2 es1 es2 v7 ((hW1.out.1.below hW2.out.2.2.2.2).tl) hW2.out.1.tl (fun e he => (hW1.out.2.2.2.1 e he).below hW2.out.2.2.2.2) hW2.out.2.2.2.1 (by
              have h1 := hW1.out.2.1.length_eq
              simp only [List.length_map] at h1
              have := HTT.out.jx.len
              omega))
            rw [decide_eq_true hkw] at HSW
            clear hW1 hW2 hkw HV5 HV6 HCx HCy HHx HHy HWx HWy
            go_wp2_with fail
            refine HSW.out.mono ?_
            rintro e v8 ⟨rfl, hv8⟩
            have HV8 := Lib.hid (back_of HV7.out hv8)
            have HT8' := Lib.hid (HTT.out.below (back_of HW3.out HV8.out))
            have s0 := (HV8.out.cell (p := ⟨d, 0, none⟩) (by show d < _; omega)).trans q0
            have s4 := (HV8.out.cell (p := ⟨d, 4, none⟩) (by show d < _; omega)).trans q4
            have t0 := (HV8.out.cell (p := ⟨d + 1, 0, none⟩) hsz3).trans r0
            have t4 := (HV8.out.cell (p := ⟨d + 1, 4, none⟩) hsz3).trans r4
            clear hv8 HSW HV7 q0 q4 r0 r4 hsz3 HV8 HW3 HTT
            have h50 : (5 : Int) ≠ 0 := by decide
            by_cases h5 : i % 5 = 4
            · have hrem : (i : Int).tmod 5 = 4 := by rw [Int.tmod_eq_emod_of_nonneg (by omega)]; omega
              go_wp2_with fail
              refine (JR.flush x Bx a' sns xs tx (2 * (i + 1)) v8 HT8'.out.jx (by omega)).mono ?_
              rintro e v9 ⟨fo, a3, mx, rfl, hfx⟩
              have HY9 := Lib.hid (HT8'.out.jy.other HT8'.out.ap (hfx.out.ft.mono (fun c _ hc => hc.imp id .inr)))
              go_wp2_with fail
              refine (JR.flush y By b sns ys ty (i + 1) v9 HY9.out (by omega)).mono ?_
              rintro e v10 ⟨fu, b3, my, rfl, hfy⟩
              obtain ⟨hkf, hT10⟩ := HT8'.out.flush hfx.out hfy.out
              have HT10 := Lib.hid hT10
              have HKF := Lib.hid (flush_kept hfx.out HT8'.out.jy HT8'.out.ap hfy.out.ft)
              have HSF := Lib.hid (tsame_any fo fu mx my v10 HKF.out.1.tl hfy.out.out.tl HKF.out.2 hfy.out.ok (by have := hfx.out.jr.len; rw [List.length_append] at this; omega))
              rw [decide_eq_true hkf] at HSF
              clear hfx hfy HY9 HKF hkf hT10 HT8'
              go_wp2_with fail
              refine HSF.out.mono ?_
              rintro e v11 ⟨rfl, hv11⟩
              have HT11 := Lib.hid (HT10.out.below hv11)
              clear hv11 HSF HT10
              go_wp2_with fail
              go_roundw
              case rel => exact ⟨i + 1, a3, b3, sns, [], [], _, _, by omega, by go_num, HT11⟩
              case measure => simp [intOf]; omega
            · have hrem : ¬ (i : Int).tmod 5 = 4 := by rw [Int.tmod_eq_emod_of_nonneg (by omega)]; omega
              go_wp2_with fail
              go_roundw
              case rel => exact ⟨i + 1, a', b, sns, xs, ys, _, _, by omega, by go_num, HT8'⟩
              case measure => simp [intOf]; omega
      · have HT3 := Lib.hid (HT2.out.push hp.out (.inl her))
        clear hp HT2 hk3 y0 y1 y2 y3
        as_aux_lemma =>
          have HTT := Lib.hid ((HT3.out).mono (m := 2 * (i + 1)) (m2 := i + 1) (by omega) (by omega))
          have HCx := Lib.hid (fun W (hW : Below w3.heap.size w3 W) => counts_any x a' W (HTT.out.jx.below hW).inv.jn (by have h1 := (HTT.out.jx.below hW).inv.big; have h2 := (HTT.out.jx.below hW).inv.xB; omega))
          have HCy := Lib.hid (fun W (hW : Below w3.heap.size w3 W) => counts_any y b W (HTT.out.jy.below hW).inv.jn (by have h1 := (HTT.out.jy.below hW).inv.big; have h2 := (HTT.out.jy.below hW).inv.xB; omega))
          have HHx := Lib.hid (fun W (hW : Below w3.heap.size w3 W) => horizon_any x a' W (HTT.out.jx.below hW).inv.jn)
          have HHy := Lib.hid (fun W (hW : Below w3.heap.size w3 W) => horizon_any y b W (HTT.out.jy.below hW).inv.jn)
          have HWx := Lib.hid (fun W (hW : Below w3.heap.size w3 W) => waiting_any x Bx a' sns xs W W (HTT.out.jx.below hW).inv (HTT.out.jx.below hW).vi (by have := HTT.out.jx.len; omega))
          have HWy := Lib.hid (fun W (hW : Below w3.heap.size w3 W) => waiting_any y By b sns ys W W (HTT.out.jy.below hW).inv (HTT.out.jy.below hW).vi (by have := HTT.out.jy.len; omega))
          rw [← HTT.out.same.ct, ← HTT.out.same.cs] at HCy
          rw [← HTT.out.same.some, ← HTT.out.same.hor] at HHy
          obtain ⟨HR, hHR⟩ : ∃ z, (if (a').some = true then (a').hor else 0) = z := ⟨_, rfl⟩
          rw [hHR] at HHx HHy
          clear hHR
          go_wp2_with fail
          refine (HCx.out _ (Below.refl _ _)).mono ?_
          rintro e v1 ⟨rfl, hv1⟩
          go_wp2_with fail
          refine (HCy.out _ hv1).mono ?_
          rintro e v2 ⟨rfl, hv2⟩
          have hvv := back_of hv1 hv2
          have HW3 := Lib.hid (show Below w3.heap.size w3 ((v2.alloc (.cells #[.int .i64 (a').ct, .int .i64 (a').cd, .int .i64 (a').co, .int .i64 (a').cl, .int .i64 (a').cs] 51)).alloc (.cells #[.int .i64 (a').ct, .int .i64 (b).cd, .int .i64 (b).co, .int .i64 (b).cl, .int .i64 (a').cs] 51)) from (hvv.alloc hvv.size _).alloc (Nat.le_trans hvv.size (by simp)) _)
          have q0 : ((v2.alloc (.cells #[.int .i64 (a').ct, .int .i64 (a').cd, .int .i64 (a').co, .int .i64 (a').cl, .int .i64 (a').cs] 51)).alloc (.cells #[.int .i64 (a').ct, .int .i64 (b).cd, .int .i64 (b).co, .int .i64 (b).cl, .int .i64 (a').cs] 51)).cell? ⟨v2.heap.size, 0, none⟩ = some (.int .i64 (a').ct) := by simp [go_sem]
          have q4 : ((v2.alloc (.cells #[.int .i64 (a').ct, .int .i64 (a').cd, .int .i64 (a').co, .int .i64 (a').cl, .int .i64 (a').cs] 51)).alloc (.cells #[.int .i64 (a').ct, .int .i64 (b).cd, .int .i64 (b).co, .int .i64 (b).cl, .int .i64 (a').cs] 51)).cell? ⟨v2.heap.size, 4, none⟩ = some (.int .i64 (a').cs) := by simp [go_sem]
          have r0 : ((v2.alloc (.cells #[.int .i64 (a').ct, .int .i64 (a').cd, .int .i64 (a').co, .int .i64 (a').cl, .int .i64 (a').cs] 51)).alloc (.cells #[.int .i64 (a').ct, .int .i64 (b).cd, .int .i64 (b).co, .int .i64 (b).cl, .int .i64 (a').cs] 51)).cell? ⟨v2.heap.size + 1, 0, none⟩ = some (.int .i64 (a').ct) := by simp [go_sem]
          have r4 : ((v2.alloc (.cells #[.int .i64 (a').ct, .int .i64 (a').cd, .int .i64 (a').co, .int .i64 (a').cl, .int .i64 (a').cs] 51)).alloc (.cells #[.int .i64 (a').ct, .int .i64 (b).cd, .int .i64 (b).co, .int .i64 (b).cl, .int .i64 (a').cs] 51)).cell? ⟨v2.heap.size + 1, 4, none⟩ = some (.int .i64 (a').cs) := by simp [go_sem]
          have hsz3 : v2.heap.size + 1 < ((v2.alloc (.cells #[.int .i64 (a').ct, .int .i64 (a').cd, .int .i64 (a').co, .int .i64 (a').cl, .int .i64 (a').cs] 51)).alloc (.cells #[.int .i64 (a').ct, .int .i64 (b).cd, .int .i64 (b).co, .int .i64 (b).cl, .int .i64 (a').cs] 51)).heap.size := by simp
          clear hv1 hv2 hvv
          go_wp2_with fail
          generalize ((v2.alloc (.cells #[.int .i64 (a').ct, .int .i64 (a').cd, .int .i64 (a').co, .int .i64 (a').cl, .int .i64 (a').cs] 51)).alloc (.cells #[.int .i64 (a').ct, .int .i64 (b).cd, .int .i64 (b).co, .int .i64 (b).cl, .int .i64 (a').cs] 51)) = v3 at *
          generalize v2.heap.size = d at *
          refine (HHx.out _ HW3.out).mono ?_
          rintro e v4 ⟨rfl, hv4⟩
          go_wp2_with fail
          refine (HHy.out _ (back_of HW3.out hv4)).mono ?_
          rintro e v5 ⟨rfl, hv5⟩
          have HV5 := Lib.hid (back_of hv4 hv5)
          clear hv4 hv5
          go_wp2_with fail
          refine (HWx.out _ (back_of HW3.out HV5.out)).mono ?_
          rintro e v6 ⟨wv1, es1, rfl, hW1⟩
          have HV6 := Lib.hid (back_of HV5.out hW1.out.2.2.2.2)
          go_wp2_with fail
          refine (HWy.out _ (back_of HW3.out HV6.out)).mono ?_
          rintro e v7 ⟨wv2, es2, rfl, hW2⟩
          have HV7 := Lib.hid (back_of HV6.out hW2.out.2.2.2.2)
          have hkw : es1.map El.key = es2.map El.key := keys_unique hW1.out.2.2.1 hW2.out.2.2.1 (by
            refine hW1.out.2.1.trans ?_
            rw [HTT.out.keys]
            exact hW2.out.2.1.symm)
          have HSW := Lib.hid (tsame_any wv1 wv2 es1 es2 v7 ((hW1.out.1.below hW2.out.2.2.2.2).tl) hW2.out.1.tl (fun e he => (hW1.out.2.2.2.1 e he).below hW2.out.2.2.2.2) hW2.out.2.2.2.1 (by
            have h1 := hW1.out.2.1.length_eq
            simp only [List.length_map] at h1
            have := HTT.out.jx.len
            omega))
          rw [decide_eq_true hkw] at HSW
          clear hW1 hW2 hkw HV5 HV6 HCx HCy HHx HHy HWx HWy
          go_wp2_with fail
          refine HSW.out.mono ?_
          rintro e v8 ⟨rfl, hv8⟩
          have HV8 := Lib.hid (back_of HV7.out hv8)
          have HT8' := Lib.hid (HTT.out.below (back_of HW3.out HV8.out))
          have s0 := (HV8.out.cell (p := ⟨d, 0, none⟩) (by show d < _; omega)).trans q0
          have s4 := (HV8.out.cell (p := ⟨d, 4, none⟩) (by show d < _; omega)).trans q4
          have t0 := (HV8.out.cell (p := ⟨d + 1, 0, none⟩) hsz3).trans r0
          have t4 := (HV8.out.cell (p := ⟨d + 1, 4, none⟩) hsz3).trans r4
          clear hv8 HSW HV7 q0 q4 r0 r4 hsz3 HV8 HW3 HTT
          have h50 : (5 : Int) ≠ 0 := by decide
          by_cases h5 : i % 5 = 4
          · have hrem : (i : Int).tmod 5 = 4 := by rw [Int.tmod_eq_emod_of_nonneg (by omega)]; omega
            go_wp2_with fail
            refine (JR.flush x Bx a' sns xs tx (2 * (i + 1)) v8 HT8'.out.jx (by omega)).mono ?_
            rintro e v9 ⟨fo, a3, mx, rfl, hfx⟩
            have HY9 := Lib.hid (HT8'.out.jy.other HT8'.out.ap (hfx.out.ft.mono (fun c _ hc => hc.imp id .inr)))
            go_wp2_with fail
            refine (JR.flush y By b sns ys ty (i + 1) v9 HY9.out (by omega)).mono ?_
            rintro e v10 ⟨fu, b3, my, rfl, hfy⟩
            obtain ⟨hkf, hT10⟩ := HT8'.out.flush hfx.out hfy.out
            have HT10 := Lib.hid hT10
            have HKF := Lib.hid (flush_kept hfx.out HT8'.out.jy HT8'.out.ap hfy.out.ft)
            have HSF := Lib.hid (tsame_any fo fu mx my v10 HKF.out.1.tl hfy.out.out.tl HKF.out.2 hfy.out.ok (by have := hfx.out.jr.len; rw [List.length_append] at this; omega))
            rw [decide_eq_true hkf] at HSF
            clear hfx hfy HY9 HKF hkf hT10 HT8'
            go_wp2_with fail
            refine HSF.out.mono ?_
            rintro e v11 ⟨rfl, hv11⟩
            have HT11 := Lib.hid (HT10.out.below hv11)
            clear hv11 HSF HT10
            go_wp2_with fail
            go_roundw
            case rel => exact ⟨i + 1, a3, b3, sns, [], [], _, _, by omega, by go_num, HT11⟩
            case measure => simp [intOf]; omega
          · have hrem : ¬ (i : Int).tmod 5 = 4 := by rw [Int.tmod_eq_emod_of_nonneg (by omega)]; omega
            go_wp2_with fail
            go_roundw
            case rel => exact ⟨i + 1, a', b, sns, xs, ys, _, _, by omega, by go_num, HT8'⟩
            case measure => simp [intOf]; omega
    · have hin' : ¬ (i : Int) < (n : Int) := by omega
      go_wp2_with fail
      refine (awake_join wr).mono ?_
      rintro e w1' ⟨rfl, hb1⟩
      go_wp2_with fail
      go_ret
      exact ⟨rfl, back_of hh.out.bel hb1⟩
end Go.Proofs.Ytebacmmfjadalaa

namespace Go.Proofs.Ytebacmmfjadalaa
open Go.ChangeShapes Go.WideShapes Go.ChangeAt Go.RowKit Go.Joins

theorem rd_some {W : World} {A : Option Addr} {xs : List In} (h : RdAt W A xs) : xs.length = 0 ∨ A ≠ none := by
  rcases h with h | ⟨b, off, h, -⟩
  · exact .inl (by rw [h]; rfl)
  · exact .inr (by rw [h]; simp)
theorem sized_each {H : Type} {P : Program} {ts : List TypeId} {ds : List (DataW H)} (h : (DataW.weightsEach P ts ds).all (· ≤ reachBytes) = true) {j : Nat} {t : TypeId} {d : DataW H} (ht : ts[j]? = some t) (hd : ds[j]? = some d) : ∀ k ∈ d.weights P t, k ≤ reachBytes := fun k hk => by
  simpa using List.all_eq_true.1 h k (DataW.weights_mem_each ht hd k hk)
set_option linter.unusedVariables false
set_option maxRecDepth 100000 in
theorem doubles_lifted (os : Os) (started : os.Started) (H : Type) (enc : TypeId × Value → H) :
    ReturnsInHanded {} Try.checked os 5 .any (Rows.joinDoublesSpec.pre6 enc Try.prog Try.f5 Rows.joinDoublesRow.domain false) (Rows.joinDoublesSpec.post enc Try.prog Try.f5 false true false false) := by
  refine returnsInHanded_of_change_sized (C := Try.checked) own started (by kernel_rfl) Try.func5
    (ChangeSpec.witness6 (enc := enc) (C := Try.checked) false ⟨#[], #[.slice none 0 0, .int .i64 0, .slice none 0 0, .slice none 0 0], []⟩ 8 (by kernel_rfl) (by kernel_rfl) (by kernel_rfl) (by kernel_rfl)) ?_
  intro W base args ds gs before hval0 hW _ hsz0 _
  have hval : ∀ (j : Nat) t v, Try.f5.params[j]? = some t → args[j]? = some v → Value.okWide Try.prog W .any base t v := hval0
  have hW' := hW
  obtain ⟨p, q, hA0, hV, rfl, hfz, hnd⟩ := hW
  have hA : DataW.TrodAll enc Try.prog W 0 (fun _ => true) true Try.f5.params.toList args.toList ds p := hA0
  rw [Try.params5] at hA hval hsz0
  obtain ⟨v0, v1, v2, v3, d0, d1, d2, d3, p0, p1, p2, p3, rfl, rfl, rfl, h0, h1, h2, h3⟩ := trodAll_four hA
  obtain ⟨rfl, rfl⟩ := trodVars_none hV
  obtain ⟨win, rfl, -, -, -⟩ := open_int Try.underlying2 (hval 1 2 v1 rfl rfl) h1
  obtain ⟨A0, c0, cs, rfl, hc, hn, hl⟩ := open_clocks (sized_each hsz0 (j := 0) rfl rfl) (hval 0 36 v0 rfl rfl) h0
  obtain ⟨A1, c1, ls, rfl, hr, hok⟩ := open_readings (sized_each hsz0 (j := 2) rfl rfl) (hval 2 37 v2 rfl rfl) h2
  obtain ⟨A2, c2, ms, rfl, hr2, hok2⟩ := open_readings (sized_each hsz0 (j := 3) rfl rfl) (hval 3 37 v3 rfl rfl) h3
  refine (doubles_walk A0 c0 cs win A1 c1 ls A2 c2 ms W hc hn hl hr hok hr2 hok2 (rd_some hr) (rd_some hr2)).mono fun e W' ⟨he, hb⟩ => ⟨_, he, ?_⟩
  exact Ck.law_post laid (readable_of (by kernel_rfl)) rfl Try.underlying4 rfl rfl hW' hb

theorem doubles_holds : Rows.JoinDoublesSaid :=
  OpenClaim.holds_of_wide 5 Try.f5 rfl rfl rfl rfl rfl rfl rfl ⟨rfl, rfl, rfl, rfl, rfl⟩ rfl rfl rfl rfl rfl (by kernel_rfl) Try.func5 (by kernel_rfl)
    (of_decide_eq_true (by kernel_rfl)) (by unfold Func.isWrapper; first | (rw [if_pos (by decide +kernel)]; kernel_rfl) | (rw [if_neg (by decide +kernel)]; exact ⟨rfl, rfl⟩))
    (fun os started H enc _ => doubles_lifted os started H enc)
#print axioms doubles_holds
end Go.Proofs.Ytebacmmfjadalaa
