/- G4 in one text. -/
import Derived.Test.YtebacmmfjadalaaGreatP19
import Derived.Test.YtebacmmfjadalaaGreatP24

namespace Go.Proofs.YtebacmmfjadalaaGreat
open Go Go.RowKit

theorem flush_none (x B : Nat) (j : Jn) (sns : List Sn) (xs : List El) (w0 w : World) (hi : Inv w0 w x B j sns xs) (hs : j.some = false) :
    Calls Tryz.prog 16 #[.pointer (some ⟨x, 0, none⟩)] w fun e w' => e = .returned (.slice none 0 0) ∧ Below w.heap.size w w' := by
  obtain ⟨g0, g1, g2, g3, g4, g5, ⟨g6, g7, g8, g9, g10⟩, g11⟩ := hi.jn
  rw [hs] at g3
  clear hi
  go_enter Tryz.func16, Tryz.ntmps16
  go_wp2_with fail
  refine (ready_any x true w g11).mono ?_
  rintro e w1 ⟨rfl, rfl⟩
  go_wp2_with fail
  go_ret
  exact ⟨rfl, Below.refl _ _⟩

/-- all that waits was told -/
structure Flsh (w w' : World) (x B : Nat) (j : Jn) (sns : List Sn) (xs : List El) (ov v' : Value) : Prop where
  out : Row w.heap.size w' ov (dueL cmpK (xs.length + 1) xs (j.top + 1) []).1
  inv : Inv w w' x B { j with hor := j.top + 1, wait := v', cs := j.cs + (dueL cmpK (xs.length + 1) xs (j.top + 1) []).1.length } sns (dueL cmpK (xs.length + 1) xs (j.top + 1) []).2
  vi : VI w' B v' ((dueL cmpK (xs.length + 1) xs (j.top + 1) []).1 ++ (dueL cmpK (xs.length + 1) xs (j.top + 1) []).2)
  ft : Ft w w' (fun k => k = x ∨ j.wait.ownBlock = some k)
  apart : ∀ g, ov.ownBlock = some g → v'.ownBlock ≠ some g
  own : v'.ownBlock = j.wait.ownBlock
theorem Inv.cnt5 {w W : World} {x B : Nat} {j : Jn} {sns : List Sn} {xs : List El} (h : Inv w W x B j sns xs) (m : Int) : Inv w (W.setCell ⟨x, 5, none⟩ (.int .i64 m)) x B { j with hor := m } sns xs := by
  obtain ⟨g0, g1, g2, g3, g4, g5, ⟨g6, g7, g8, g9, g10⟩, g11⟩ := h.jn
  exact h.cnt ⟨(set_ne (by omega)).trans g0, (set_ne (by omega)).trans g1, (set_ne (by omega)).trans g2, (set_ne (by omega)).trans g3, (set_ne (by omega)).trans g4, set_self g5, ⟨(set_ne (by omega)).trans g6, (set_ne (by omega)).trans g7, (set_ne (by omega)).trans g8, (set_ne (by omega)).trans g9, (set_ne (by omega)).trans g10⟩, (set_ne (by omega)).trans g11⟩ rfl rfl
/-- the row's block is apart from the sensors' -/
theorem Inv.due' {w W W' : World} {x B : Nat} {j : Jn} {sns : List Sn} {xs ys : List El} {v : Value} {m : Int} (h : Inv w W x B j sns xs) (hsb : ∀ g, j.sen.ownBlock = some g → x ≠ g ∧ g < B) (hC : Ch W W' j.wait.ownBlock (fun a => a = ⟨x, 2, none⟩ ∨ a = ⟨x, 10, none⟩)) (hr : Row B W' v ys)
    (hc : W'.cell? ⟨x, 2, none⟩ = some v) (hm : W'.cell? ⟨x, 10, none⟩ = some (.int .i64 m)) : Inv w W' x B { j with wait := v, cs := m } sns ys := by
  have hxB := h.xB
  have hbig := h.big
  have hown : ∀ k, k < B → some k ≠ j.wait.ownBlock := fun k hk e => h.row.own hk e.symm
  have e : ∀ i, i ≠ 2 → i ≠ 10 → W'.cell? ⟨x, i, none⟩ = W.cell? ⟨x, i, none⟩ := fun i h1 h2 => hC.cell ⟨x, i, none⟩ (by show x < _; omega) (hown x hxB) (by rintro (q | q) <;> injection q with _ q _ <;> omega)
  obtain ⟨g0, g1, g2, g3, g4, g5, ⟨g6, g7, g8, g9, g10⟩, g11⟩ := h.jn
  refine ⟨⟨(e 0 (by omega) (by omega)).trans g0, (e 1 (by omega) (by omega)).trans g1, hc, (e 3 (by omega) (by omega)).trans g3, (e 4 (by omega) (by omega)).trans g4, (e 5 (by omega) (by omega)).trans g5, ⟨(e 6 (by omega) (by omega)).trans g6, (e 7 (by omega) (by omega)).trans g7, (e 8 (by omega) (by omega)).trans g8, (e 9 (by omega) (by omega)).trans g9, hm⟩, (e 11 (by omega) (by omega)).trans g11⟩,
    h.sn.heap (fun k h1 h2 h3 => ?_), hr, fun i => (hC.frozen ⟨x, i, none⟩ (by show x < _; omega) (hown x hxB)).trans (h.fz i), Nat.le_trans hbig hC.size, hxB, ?_⟩
  · obtain ⟨q1, q2⟩ := hsb k h2
    exact hC.block k h3 (hown k q2) (fun i hi => by rcases hi with hi | hi <;> injection hi with hi _ _ <;> omega)
  · have hlo := h.lox
    exact ⟨hC.os.trans h.bel.os, hC.tape.trans h.bel.tape, hC.output.trans h.bel.output, Nat.le_trans h.bel.size hC.size, fun k (hk : k < lo x j.sen) => (hC.block k (by omega) (hown k (by omega)) (fun i hi => by rcases hi with hi | hi <;> injection hi with hi _ _ <;> omega)).trans (h.bel.block k hk)⟩

set_option maxRecDepth 8000 in
set_option maxHeartbeats 4000000 in
theorem flush_some (x B : Nat) (j : Jn) (sns : List Sn) (xs : List El) (w0 w : World) (hi : Inv w0 w x B j sns xs) (hvi : VI w B j.wait xs) (hsb : ∀ g, j.sen.ownBlock = some g → x ≠ g ∧ g < B) (hs : j.some = true) (hm : xs.length ≤ 1099511627776) (k0 : 0 ≤ j.cs) (k1 : j.cs ≤ 4611686018427387904) (b3 : -2251799813685248 ≤ j.top) (b4 : j.top ≤ 2251799813685248) :
    Calls Tryz.prog 16 #[.pointer (some ⟨x, 0, none⟩)] w fun e w' => ∃ ov v', e = .returned ov ∧ Hid (Flsh w w' x B j sns xs ov v') := by
  have hxB := hi.xB
  have HI := Lib.hid hi.rebase
  have HV := Lib.hid hvi
  have HSB := Lib.hid hsb
  obtain ⟨S, win, V, sm, top, hor, ct, cd, co, cl, cs⟩ := j
  obtain ⟨g0, g1, g2, g3, g4, g5, ⟨g6, g7, g8, g9, g10⟩, g11⟩ := hi.jn
  simp only at g0 g1 g2 g3 g4 g5 g6 g7 g8 g9 g10 g11 hs k0 k1 b3 b4
  subst hs
  have gf := hi.fz 5
  have HI1 := Lib.hid (HI.out.cnt5 (top + 1))
  have HF1 := Lib.hid ((Ft.of_below (Below.refl w.heap.size w) (fun k => k = x ∨ V.ownBlock = some k)).set (p := ⟨x, 5, none⟩) (.inl rfl) (.int .i64 (top + 1)))
  clear hi hvi hsb
  go_enter Tryz.func16, Tryz.ntmps16
  go_wp2_with fail
  refine (ready_any x true w g11).mono ?_
  rintro e w1 ⟨rfl, rfl⟩
  go_wp2_with fail
  generalize hw1 : w.setCell ⟨x, 5, none⟩ (.int .i64 (top + 1)) = w1 at *
  have HV1 := Lib.hid (HV.out.ft HF1.out (fun k hk => hk.imp (fun e => by rw [e]; exact hxB) id))
  have HDU := Lib.hid (fun W (hI : Inv w W x B ⟨S, win, V, true, top, top + 1, ct, cd, co, cl, cs⟩ sns xs) hC =>
    due_walk cmpK B x V xs (top + 1) cs W hI.row hI.big hI.xB hI.jn.2.2.1 hI.jn.2.2.2.2.2.2.1.2.2.2.2 hI.fz hm k0 k1 hC)
  have HVD := Lib.hid (HV1.out.ft (w' := w1.drew) (Ft.of_below (Below.refl w1.heap.size w1).drew (fun _ => False)) (fun k hk => hk.elim))
  have hch' := HI1.out.jn.2.2.2.2.2.1
  simp only at hch'
  clear hw1 g0 g1 g2 g3 g4 g5 g6 g7 g8 g9 g10 g11 gf
  go_region_held3 (fun w' => w'.cell? ⟨x, 5, none⟩ = some (.int .i64 (top + 1)))
    (first | exact hch' | exact hk10)
    (first | (go_at_call 38; refine (HDU.out _ (HI1.out.below (Below.refl w1.heap.size w1).drew) (HVD.out.cmp hxB)).mono ?_; rintro e w10 ⟨ov, v10, rfl, ho, hr10, hc10, hv10, hs10, hch10⟩; have hI10 := (HI1.out.below (Below.refl w1.heap.size w1).drew).due' HSB.out hch10 hr10 hc10 hs10; have hk10 : w10.cell? ⟨x, 5, none⟩ = some (.int .i64 (top + 1)) := (hI10.jn.2.2.2.2.2.1)))
  have hft10 : Ft w1.drew w10 (fun k => k = x ∨ V.ownBlock = some k) := Ft.of_ch hch10 (by rintro a (rfl | rfl) <;> rfl)
  have HFIN := Lib.hid (And.intro (And.intro ho hI10) (And.intro hv10 hft10))
  obtain ⟨oA, oc, rfl⟩ := ho.slice
  clear ho hI10 hk10 hr10 hc10 hv10 hs10 hch10 hft10 hch' HDU
  go_wp2_with fail
  go_ret
  obtain ⟨⟨f1, f2⟩, f3, f4⟩ := HFIN.out
  refine ⟨_, v10, rfl, Lib.hid ⟨f1.mono HF1.out.size, f2, ?_, HF1.out.drew.then f4 (fun k _ h => h), fun g hg hq => ?_, f3⟩⟩
  · have hv := HVD.out.ft f4 (fun k hk => hk.imp (fun e => by rw [e]; exact hxB) id)
    intro e he
    rcases due_mem _ _ _ _ e he with h | h
    · simp at h
    · obtain ⟨h1, h2, h3, h4⟩ := hv e h
      exact ⟨h1, by rw [f3]; exact h2, h3, h4⟩
  · have h1 := (f1.lt hg).1
    have h2 : w1.heap.size ≤ g := h1
    rw [f3] at hq
    have h3 := (HI1.out.row.lt hq).2
    omega

set_option maxRecDepth 8000 in
theorem waiting_any (x B : Nat) (j : Jn) (sns : List Sn) (xs : List El) (w0 w : World) (hi : Inv w0 w x B j sns xs) (hvi : VI w B j.wait xs) (hm : xs.length ≤ 1099511627776) :
    Calls Tryz.prog 45 #[.pointer (some ⟨x, 0, none⟩)] w fun e w' => ∃ v' ys, e = .returned v' ∧ Hid (Row w.heap.size w' v' ys ∧ (ys.map El.key).Perm (xs.map El.key) ∧ ys.Pairwise (Le cmpK) ∧ (∀ a ∈ ys, ElOk w' a) ∧ Below w.heap.size w w') := by
  obtain ⟨g0, g1, g2, g3, g4, g5, ⟨g6, g7, g8, g9, g10⟩, g11⟩ := hi.jn
  have HP := Lib.hid (plist_any j.wait xs w hi.row.tl (fun e he => (hvi e he).1) hm)
  obtain ⟨A, c, hA⟩ := hi.row.slice
  rw [hA] at g2 HP
  clear hi hvi
  go_enter Tryz.func45, Tryz.ntmps45
  go_wp2_with fail
  refine (ready_any x true w g11).mono ?_
  rintro e w1 ⟨rfl, rfl⟩
  go_wp2_with fail
  refine HP.out.mono ?_
  rintro e w2 ⟨v', ys, rfl, h1, h2, h3, h4, h5⟩
  have HY := Lib.hid (And.intro h1 (And.intro h2 (And.intro h3 (And.intro (fun a ha => (h4 a ha).1) h5))))
  obtain ⟨yA, yc, rfl⟩ := h1.slice
  clear h1 h2 h3 h4 h5
  go_wp2_with fail
  go_ret
  exact ⟨_, ys, rfl, HY⟩

set_option maxRecDepth 8000 in
theorem counts_any (x : Nat) (j : Jn) (w : World) (hj : JnAt w x j) (hx : x < w.heap.size) :
    Calls Tryz.prog 46 #[.pointer (some ⟨x, 0, none⟩)] w fun e w' => e = .returned (.agg #[.int .i64 j.ct, .int .i64 j.cd, .int .i64 j.co, .int .i64 j.cl, .int .i64 j.cs]) ∧ Below w.heap.size w w' := by
  have HB := Lib.hid ((Below.refl w.heap.size w).alloc (Nat.le_refl _) (.cells #[.int .i64 0, .int .i64 0, .int .i64 0, .int .i64 0, .int .i64 0] 43))
  have hj1 := hj.same (w' := w.alloc (.cells #[.int .i64 0, .int .i64 0, .int .i64 0, .int .i64 0, .int .i64 0] 43)) (fun i => HB.out.cell (p := ⟨x, i, none⟩) hx)
  obtain ⟨g0, g1, g2, g3, g4, g5, ⟨g6, g7, g8, g9, g10⟩, g11⟩ := hj1
  have hne : ¬ w.heap.size = x := by omega
  have hne' : ¬ x = w.heap.size := by omega
  clear hj
  go_enter Tryz.func46, Tryz.ntmps46
  go_wp2_with fail
  refine (ready_any x true _ g11).mono ?_
  rintro e w1 ⟨rfl, rfl⟩
  go_wp2_with fail
  exact bodyPost_ret (by simp only [results, Tryz.results46]; simp [go_sem]; try rfl) rfl ⟨rfl, (Below.refl _ _).alloc (Nat.le_refl _) _⟩
end Go.Proofs.YtebacmmfjadalaaGreat
