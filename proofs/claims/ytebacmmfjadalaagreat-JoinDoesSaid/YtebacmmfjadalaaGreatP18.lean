/- K8 K9 in one text. -/
import Derived.Test.YtebacmmfjadalaaGreatP17

namespace Go.Proofs.YtebacmmfjadalaaGreat
open Go Go.RowKit

theorem map_key {a b : List Nat} (la : Lt64 a) (lb : Lt64 b) : a.map cnN = b.map cnN ↔ a.map keyN = b.map keyN := by
  constructor
  · intro h
    apply List.ext_getElem?
    intro i
    have hi := congrArg (fun l : List Nat => l[i]?) h
    simp only [List.getElem?_map] at hi ⊢
    cases ha : a[i]? with
    | none => rw [ha] at hi; cases hb : b[i]? with
      | none => rfl
      | some y => rw [hb] at hi; cases hi
    | some x => rw [ha] at hi; cases hb : b[i]? with
      | none => rw [hb] at hi; cases hi
      | some y =>
        rw [hb] at hi
        simp only [Option.map_some, Option.some.injEq] at hi ⊢
        exact key_cn hi
  · intro h
    apply List.ext_getElem?
    intro i
    have hi := congrArg (fun l : List Int => l[i]?) h
    simp only [List.getElem?_map] at hi ⊢
    have l1 := la i
    have l2 := lb i
    rw [List.getD_eq_getElem?_getD] at l1 l2
    cases ha : a[i]? with
    | none => rw [ha] at hi; cases hb : b[i]? with
      | none => rfl
      | some y => rw [hb] at hi; cases hi
    | some x => rw [ha] at hi l1; cases hb : b[i]? with
      | none => rw [hb] at hi; cases hi
      | some y =>
        rw [hb] at hi l2
        simp only [Option.map_some, Option.some.injEq, Option.getD_some] at hi l1 l2 ⊢
        exact key_inj l1 l2 hi

/-- two readings alike -/
def sameR (a b : El) : Bool := decide (a.se = b.se ∧ a.sq = b.sq ∧ a.st = b.st ∧ sameL a.bs b.bs = true)
theorem same_key {w w' : World} {a b : El} (ha : ElOk w a) (hb : ElOk w' b) : (a.at_ = b.at_ ∧ sameR a b = true) ↔ a.key = b.key := by
  have la := ha.1.1
  have lb := hb.1.1
  unfold sameR sameL El.key
  simp only [decide_eq_true_eq, List.cons.injEq]
  rw [map_key ha.2.1 hb.2.1]
  constructor
  · rintro ⟨h1, h2, h3, h4, h5⟩
    have := congrArg List.length h5
    simp only [List.length_map] at this
    exact ⟨h1, h2, h3, h4, by omega, h5⟩
  · rintro ⟨h1, h2, h3, h4, -, h5⟩
    exact ⟨h1, h2, h3, h4, h5⟩

set_option maxRecDepth 8000 in
set_option maxHeartbeats 4000000 in
theorem rsame_walk (a2 a3 a4 b2 b3 b4 : Int) (A B : Option Addr) (n m c d : Nat) (xa xb : List Nat) (w : World) (fa : FlAt w A n xa) (fb : FlAt w B m xb) (hl : n * 8 ≤ 140737488355328) :
    Calls Tryz.prog 43 #[.agg #[.int .i64 a2, .int .u32 a3, .int .u32 a4, .slice A n c], .agg #[.int .i64 b2, .int .u32 b3, .int .u32 b4, .slice B m d]] w fun e w' =>
      e = .returned (.bool (decide (a2 = b2 ∧ a3 = b3 ∧ a4 = b4 ∧ sameL xa xb = true))) ∧ Below w.heap.size w w' := by
  have hb := ((Below.refl w.heap.size w).alloc (Nat.le_refl _) (.cells #[.int .i64 a2, .int .u32 a3, .int .u32 a4, .slice A n c] 38)).alloc (by simp) (.cells #[.int .i64 b2, .int .u32 b3, .int .u32 b4, .slice B m d] 38)
  have HB := Lib.hid hb
  have HS := Lib.hid (slist_any A B n m c d xa xb _ (fa.below hb) (fb.below hb) hl)
  obtain ⟨q, hq⟩ : ∃ q, sameL xa xb = q := ⟨_, rfl⟩
  rw [hq] at HS ⊢
  clear hq hb fa fb
  by_cases c2 : a2 = b2
  · subst c2
    by_cases c3 : a3 = b3
    · subst c3
      by_cases c4 : a4 = b4
      · subst c4
        go_enter Tryz.func43, Tryz.ntmps43
        go_wp2_with fail
        refine HS.out.mono ?_
        rintro e w1 ⟨rfl, hb1⟩
        go_wp2_with fail
        go_ret
        exact ⟨by cases q <;> simp, back_of HB.out hb1⟩
      · have h1 : (a4 == b4) = false := by simpa using c4
        go_enter Tryz.func43, Tryz.ntmps43
        go_wp2_with fail
        go_ret
        exact ⟨by rw [decide_eq_false (fun h => c4 h.2.2.1)]; rfl, HB.out⟩
    · have h1 : (a3 == b3) = false := by simpa using c3
      go_enter Tryz.func43, Tryz.ntmps43
      go_wp2_with fail
      go_ret
      exact ⟨by rw [decide_eq_false (fun h => c3 h.2.1)]; rfl, HB.out⟩
  · have h1 : (a2 == b2) = false := by simpa using c2
    go_enter Tryz.func43, Tryz.ntmps43
    go_wp2_with fail
    go_ret
    exact ⟨by rw [decide_eq_false (fun h => c2 h.1)]; rfl, HB.out⟩

/-- timed readings lie behind a slice -/
def TlAt (w : World) (v : Value) (xs : List El) : Prop := ∃ A c, v = .slice A xs.length c ∧ ((A = none ∧ xs = []) ∨ ∃ b off, A = some ⟨b, off, none⟩ ∧ b < w.heap.size ∧ ∀ i e, xs[i]? = some e → ∀ j, j < 5 → w.cell? ⟨b, off + i * 5 + j, none⟩ = e.row[j]?)
theorem TlAt.below {w w' : World} {v : Value} {xs : List El} (h : TlAt w v xs) (hb : Below w.heap.size w w') : TlAt w' v xs := by
  obtain ⟨A, c, h1, h2⟩ := h
  refine ⟨A, c, h1, h2.imp id ?_⟩
  rintro ⟨b, off, h3, h4, h5⟩
  exact ⟨b, off, h3, Nat.lt_of_lt_of_le h4 hb.size, fun i e he j hj => (hb.cell (p := ⟨b, off + i * 5 + j, none⟩) h4).trans (h5 i e he j hj)⟩
theorem Row.tl {B : Nat} {w : World} {v : Value} {xs : List El} (h : Row B w v xs) : TlAt w v xs := by
  rcases h.2 with ⟨hn, h0⟩ | ⟨g, cap, cur, hv, h1, h2, -⟩
  · have hx : xs = [] := by
      cases xs with
      | nil => rfl
      | cons a l => simp at h0
    subst hx
    exact ⟨none, 0, hn, .inl ⟨rfl, rfl⟩⟩
  · have hg := (Array.getElem?_eq_some_iff.1 h2).1
    subst hv
    refine ⟨_, _, rfl, .inr ⟨g, 0, rfl, hg, fun i e he j hj => ?_⟩⟩
    have hi : i < xs.length := (List.getElem?_eq_some_iff.1 he).1
    have := (World.ownsRow.cellAt h (i * 5 + j) (by omega)).trans (flat_get xs i j e he hj)
    rw [Nat.zero_add]
    exact this
/-- so far alike -/
theorem tsame_step {xs ys : List El} {k : Nat} {a b : El} (h : (xs.take k).map El.key = (ys.take k).map El.key) (ha : xs[k]? = some a) (hb : ys[k]? = some b) (e : a.key = b.key) : (xs.take (k + 1)).map El.key = (ys.take (k + 1)).map El.key := by
  rw [List.take_add_one, List.take_add_one, ha, hb, List.map_append, List.map_append, h]
  simp [e]
theorem tsame_no {xs ys : List El} {k : Nat} {a b : El} (ha : xs[k]? = some a) (hb : ys[k]? = some b) (e : a.key ≠ b.key) : xs.map El.key ≠ ys.map El.key := by
  intro h
  apply e
  have := congrArg (fun l : List (List Int) => l[k]?) h
  simpa [ha, hb] using this
theorem El.rowAt (e : El) : e.row[0]? = some (.int .i64 e.at_) ∧ e.row[1]? = some (.int .i64 e.se) ∧ e.row[2]? = some (.int .u32 e.sq) ∧ e.row[3]? = some (.int .u32 e.st) ∧ e.row[4]? = some (.slice e.v e.n e.c) := ⟨rfl, rfl, rfl, rfl, rfl⟩

set_option maxRecDepth 8000 in
set_option maxHeartbeats 4000000 in
theorem tsame_any (v u : Value) (xs ys : List El) (w : World) (hx : TlAt w v xs) (hy : TlAt w u ys) (ox : ∀ e ∈ xs, ElOk w e) (oy : ∀ e ∈ ys, ElOk w e) (hlen : xs.length ≤ 1099511627776) :
    Calls Tryz.prog 17 #[v, u] w fun e w' => e = .returned (.bool (decide (xs.map El.key = ys.map El.key))) ∧ Below w.heap.size w w' := by
  have HX := Lib.hid (And.intro hx ox)
  have HY := Lib.hid (And.intro hy oy)
  obtain ⟨A, c, rfl, hxx⟩ := hx
  obtain ⟨B, d, rfl, hyy⟩ := hy
  obtain ⟨n, hn⟩ : ∃ n, xs.length = n := ⟨_, rfl⟩
  obtain ⟨m, hm⟩ : ∃ m, ys.length = m := ⟨_, rfl⟩
  have HN := Lib.hid (And.intro hn hm)
  rw [hn] at hlen ⊢
  rw [hm]
  have HXX := Lib.hid hxx
  have HYY := Lib.hid hyy
  clear hxx hyy ox oy hn hm
  by_cases hnm : n = m
  · subst hnm
    go_enter Tryz.func17, Tryz.ntmps17
    go_wp2_with fail
    go_loopw [13] (fun iv wr => ∃ k : Nat, k ≤ n ∧ iv = .int .i64 (k : Int) ∧ Hid ((xs.take k).map El.key = (ys.take k).map El.key ∧ Below w.heap.size w wr)) (fun iv _ => n - (intOf iv).toNat)
    case atStart => exact ⟨0, by omega, rfl, Lib.hid ⟨rfl, Below.refl _ _⟩⟩
    case round =>
      obtain ⟨k, hk, rfl, hh⟩ := hrel
      by_cases hlt : k < n
      · obtain ⟨a, ha⟩ := get_some (xs := xs) (i := k) (by have := HN.out.1; omega)
        obtain ⟨b, hb⟩ := get_some (xs := ys) (i := k) (by have := HN.out.2; omega)
        rcases HXX.out with ⟨-, h0⟩ | ⟨g1, o1, rfl, q1, hc1⟩
        · rw [h0] at ha; simp at ha
        rcases HYY.out with ⟨-, h0⟩ | ⟨g2, o2, rfl, q2, hc2⟩
        · rw [h0] at hb; simp at hb
        have oa := (HX.out.2 a (List.mem_of_getElem? ha)).below hh.out.2
        have ob := (HY.out.2 b (List.mem_of_getElem? hb)).below hh.out.2
        have HAB := Lib.hid (And.intro (And.intro ha hb) (And.intro oa ob))
        have d1 := fun j hj => (hh.out.2.cell (p := ⟨g1, o1 + k * 5 + j, none⟩) q1).trans (hc1 k a ha j hj)
        have d2 := fun j hj => (hh.out.2.cell (p := ⟨g2, o2 + k * 5 + j, none⟩) q2).trans (hc2 k b hb j hj)
        have x0 := d1 0 (by omega)
        have x1 := d1 1 (by omega)
        have x2 := d1 2 (by omega)
        have x3 := d1 3 (by omega)
        have x4 := d1 4 (by omega)
        have y0 := d2 0 (by omega)
        have y1 := d2 1 (by omega)
        have y2 := d2 2 (by omega)
        have y3 := d2 3 (by omega)
        have y4 := d2 4 (by omega)
        clear d1 d2 hc1 hc2 ha hb oa ob
        have HS := Lib.hid (fun W hW => rsame_walk a.se a.sq a.st b.se b.sq b.st a.v b.v a.n b.n a.c b.c a.bs b.bs W ((HAB.out.2.1.below hW).1) ((HAB.out.2.2.below hW).1) HAB.out.2.1.2.2)
        obtain ⟨q, hq⟩ : ∃ q, sameR a b = q := ⟨_, rfl⟩
        have HQ := Lib.hid hq
        unfold sameR at hq
        rw [hq] at HS
        clear hq
        obtain ⟨at_, se, sq, st, av, an, ac, abs⟩ := a
        obtain ⟨at2, se2, sq2, st2, bv, bn, bc, bbs⟩ := b
        rw [Nat.add_zero] at x0 y0
        simp only [El.row, List.getElem?_cons_zero, List.getElem?_cons_succ] at x0 x1 x2 x3 x4 y0 y1 y2 y3 y4
        simp only at HS
        have hki : (k : Int) < (n : Int) := by omega
        have hk0 : (0 : Int) ≤ (k : Int) := by omega
        have r1 : g1 < wr.heap.size := Nat.lt_of_lt_of_le q1 hh.out.2.size
        have r2 : g2 < wr.heap.size := Nat.lt_of_lt_of_le q2 hh.out.2.size
        by_cases hat : at_ = at2
        · subst hat
          have h1 : (at_ != at_) = false := by simp
          go_wp2_with fail
          go_region_held3 (fun w' => w'.cell? ⟨g1, o1 + k * 5, none⟩ = some (.int .i64 at_) ∧ w'.cell? ⟨g1, o1 + k * 5 + 1, none⟩ = some (.int .i64 se) ∧ w'.cell? ⟨g1, o1 + k * 5 + 2, none⟩ = some (.int .u32 sq) ∧ w'.cell? ⟨g1, o1 + k * 5 + 3, none⟩ = some (.int .u32 st) ∧ w'.cell? ⟨g1, o1 + k * 5 + 4, none⟩ = some (.slice av an ac) ∧
              w'.cell? ⟨g2, o2 + k * 5, none⟩ = some (.int .i64 at_) ∧ w'.cell? ⟨g2, o2 + k * 5 + 1, none⟩ = some (.int .i64 se2) ∧ w'.cell? ⟨g2, o2 + k * 5 + 2, none⟩ = some (.int .u32 sq2) ∧ w'.cell? ⟨g2, o2 + k * 5 + 3, none⟩ = some (.int .u32 st2) ∧ w'.cell? ⟨g2, o2 + k * 5 + 4, none⟩ = some (.slice bv bn bc))
            (first | exact ⟨x0, x1, x2, x3, x4, y0, y1, y2, y3, y4⟩ | exact ⟨(hb6.cell (by exact r1)).trans x0, (hb6.cell (by exact r1)).trans x1, (hb6.cell (by exact r1)).trans x2, (hb6.cell (by exact r1)).trans x3, (hb6.cell (by exact r1)).trans x4, (hb6.cell (by exact r2)).trans y0, (hb6.cell (by exact r2)).trans y1, (hb6.cell (by exact r2)).trans y2, (hb6.cell (by exact r2)).trans y3, (hb6.cell (by exact r2)).trans y4⟩)
            (first | (go_at_call 43; refine (HS.out _ (Below.refl wr.heap.size wr).drew).mono ?_; rintro e w6 ⟨rfl, hb6⟩))
          have HB6 := Lib.hid (back_of hh.out.2 ((Below.refl wr.heap.size wr).drew.trans hb6))
          clear hb6 x0 x1 x2 x3 x4 y0 y1 y2 y3 y4 HS
          cases q
          · go_wp2_with fail
            go_ret
            refine ⟨?_, HB6.out⟩
            rw [decide_eq_false (tsame_no HAB.out.1.1 HAB.out.1.2 (fun e => by have := (same_key HAB.out.2.1 HAB.out.2.2).2 e; rw [HQ.out] at this; exact Bool.noConfusion this.2))]
            rfl
          · go_wp2_with fail
            go_roundw
            case rel => exact ⟨k + 1, by omega, by go_num, Lib.hid ⟨tsame_step hh.out.1 HAB.out.1.1 HAB.out.1.2 ((same_key HAB.out.2.1 HAB.out.2.2).1 ⟨rfl, HQ.out⟩), HB6.out⟩⟩
            case measure => simp [intOf]; omega
        · have h1 : (at_ != at2) = true := by simpa using hat
          go_wp2_with fail
          go_quiet (fail)
          clear x0 x1 x2 x3 x4 y0 y1 y2 y3 y4 HS
          go_wp2_with fail
          go_ret
          refine ⟨?_, below_drewN hh.out.2 _⟩
          rw [decide_eq_false (tsame_no HAB.out.1.1 HAB.out.1.2 (fun e => hat ((same_key HAB.out.2.1 HAB.out.2.2).2 e).1))]
          rfl
      · have hkn : k = n := by omega
        subst hkn
        go_wp2_with fail
        go_ret
        refine ⟨?_, hh.out.2⟩
        have := hh.out.1
        rw [List.take_of_length_le (by have := HN.out; omega), List.take_of_length_le (by have := HN.out; omega)] at this
        rw [decide_eq_true this]
        rfl
  · have hnb : ((n : Int) != (m : Int)) = true := bne_iff_ne.2 (by omega)
    go_enter Tryz.func17, Tryz.ntmps17
    go_wp2_with fail
    go_ret
    refine ⟨?_, Below.refl _ _⟩
    rw [decide_eq_false (fun e => hnm (by have := congrArg List.length e; simpa [HN.out.1, HN.out.2] using this))]
    rfl
end Go.Proofs.YtebacmmfjadalaaGreat

namespace Go.Proofs.YtebacmmfjadalaaGreat
open Go Go.RowKit

/-- the values lie not in that block -/
def Away (e : El) (o : Option Nat) : Prop := ∀ b f, e.v = some ⟨b, f, none⟩ → o ≠ some b
theorem ElOk.lt {w : World} {e : El} (h : ElOk w e) {b f : Nat} (hv : e.v = some ⟨b, f, none⟩) : b < w.heap.size := by
  rcases h.1.2 with ⟨h1, -⟩ | ⟨b', off, h1, h2, -⟩
  · rw [h1] at hv; cases hv
  · rw [h1] at hv
    injection hv with hv
    injection hv with hv
    subst hv
    exact h2
theorem ElOk.keep {w w' : World} {e : El} (h : ElOk w e) (hk : ∀ b f, e.v = some ⟨b, f, none⟩ → w'.heap[b]? = w.heap[b]?) : ElOk w' e := by
  refine ⟨⟨h.1.1, h.1.2.imp id ?_⟩, h.2⟩
  rintro ⟨b, off, h1, h2, h3⟩
  have he := hk b off h1
  refine ⟨b, off, h1, ?_, fun i hi => (World.cell?_of_block he).trans (h3 i hi)⟩
  rcases Nat.lt_or_ge b w'.heap.size with h4 | h4
  · exact h4
  · rw [Array.getElem?_eq_none h4, Array.getElem?_eq_getElem h2] at he
    cases he
theorem ElOk.grown {w w' : World} {e : El} {o : Option Nat} (h : ElOk w e) (hg : w.grownBy w' o) (ha : Away e o) : ElOk w' e :=
  h.keep fun b f hv => hg.block b (h.lt hv) (fun q => ha b f hv q.symm)
theorem Away.new {w : World} {e : El} (h : ElOk w e) {g : Nat} (hg : w.heap.size ≤ g) : Away e (some g) := fun b f hv q => by
  have := h.lt hv
  injection q with q
  omega
def W32 (e : El) : Prop := (0 ≤ e.sq ∧ e.sq ≤ 4294967295) ∧ 0 ≤ e.st ∧ e.st ≤ 4294967295

/-- one moved down to its place -/
def sinkL {α : Type} (C : α → α → Int) : Nat → List α → Nat → List α
  | 0, xs, _ => xs
  | f + 1, xs, j => if 0 < j ∧ ltAt C xs j (j - 1) = true then sinkL C f (sw xs j (j - 1)) (j - 1) else xs
theorem sink_go {α : Type} {C : α → α → Int} {f : Nat} {xs : List α} {j : Nat} (h : ltAt C xs (j + 1) j = true) : sinkL C (f + 1) xs (j + 1) = sinkL C f (sw xs (j + 1) j) j := by
  rw [sinkL, if_pos ⟨by omega, h⟩]; rfl
theorem sink_stop {α : Type} {C : α → α → Int} {f : Nat} {xs : List α} {j : Nat} (h : j = 0 ∨ ltAt C xs j (j - 1) = false) : sinkL C (f + 1) xs j = xs := by
  rw [sinkL, if_neg (by rintro ⟨h1, h2⟩; rcases h with h | h; omega; rw [h] at h2; cases h2)]
theorem sink_len {α : Type} (C : α → α → Int) : ∀ (f : Nat) (xs : List α) (j : Nat), (sinkL C f xs j).length = xs.length
  | 0, _, _ => rfl
  | f + 1, xs, j => by
    rw [sinkL]
    split
    · rw [sink_len, hsw_len]
    · rfl
theorem sink_perm {α : Type} (C : α → α → Int) : ∀ (f : Nat) (xs : List α) (j : Nat), (sinkL C f xs j).Perm xs
  | 0, _, _ => List.Perm.refl _
  | f + 1, xs, j => by
    rw [sinkL]
    split
    · exact (sink_perm C f _ _).trans (hsw_perm _ _ _)
    · exact List.Perm.refl _

theorem put_fin {B g cap n : Nat} {v0 : Value} {ys : List El} {w w1 wr : World} (h1 : Pl wr g cap ys) (h2 : ys.length = n + 1) (hBg : B ≤ g) (hbw : w.grownBy w1 v0.ownBlock) (h4 : w1.grownBy wr (some g)) (hgo : some g = v0.ownBlock ∨ w.heap.size + 2 ≤ g) (k : Nat) :
    ∃ v', Ending.returned (Value.slice (some ⟨g, 0, none⟩) (n + 1) cap) = .returned v' ∧ Row B (wr.drewN k) v' ys ∧ w.grownBy (wr.drewN k) v0.ownBlock ∧ (v'.ownBlock = v0.ownBlock ∨ ∃ g, v'.ownBlock = some g ∧ w.heap.size ≤ g) := by
  have hr := h1.row hBg
  rw [h2] at hr
  refine ⟨_, rfl, hr, ⟨h4.os.trans hbw.os, h4.tape.trans hbw.tape, h4.output.trans hbw.output, Nat.le_trans hbw.size h4.size, fun i hi hne => ?_⟩, ?_⟩
  · refine (h4.block i (Nat.lt_of_lt_of_le hi hbw.size) ?_).trans (hbw.block i hi hne)
    intro e
    rcases hgo with h | h
    · exact hne (e.trans h)
    · injection e with e
      omega
  · rcases hgo with h | h
    · exact .inl h
    · exact .inr ⟨g, rfl, by omega⟩

set_option maxRecDepth 8000 in
set_option maxHeartbeats 4000000 in
theorem put_any (B : Nat) (v0 : Value) (xs : List El) (e : El) (w : World) (hr : Row B w v0 xs) (hB : B ≤ w.heap.size) (hok : ∀ a ∈ xs ++ [e], ElOk w a ∧ Away a v0.ownBlock ∧ W32 a) (hlen : xs.length ≤ 1099511627776) :
    Calls Tryz.prog 41 #[v0, e.val] w fun e' w' => ∃ v', e' = .returned v' ∧ Row B w' v' (sinkL cmpK (xs.length + 1) (xs ++ [e]) xs.length) ∧ w.grownBy w' v0.ownBlock ∧ (v'.ownBlock = v0.ownBlock ∨ ∃ g, v'.ownBlock = some g ∧ w.heap.size ≤ g) := by
  obtain ⟨n, hn⟩ : ∃ n, xs.length = n := ⟨_, rfl⟩
  rw [hn] at hlen ⊢
  have HN := Lib.hid hn
  have HOK := Lib.hid hok
  have HR0 := Lib.hid hr
  obtain ⟨at_, se, sq, st, vv, vn, vc, vb⟩ := e
  have hb0 := (Below.refl w.heap.size w).alloc (Nat.le_refl _) (.cells #[.int .i64 at_, .int .i64 se, .int .u32 sq, .int .u32 st, .slice vv vn vc] 63)
  have HB := Lib.hid ((hb0.alloc (by simp) (.cells #[.int .i64 at_, .int .i64 se, .int .u32 sq, .int .u32 st, .slice vv vn vc] 63)))
  have HR := Lib.hid (hr.below HB.out)
  have hBs : B ≤ ((w.alloc (.cells #[.int .i64 at_, .int .i64 se, .int .u32 sq, .int .u32 st, .slice vv vn vc] 63)).alloc (.cells #[.int .i64 at_, .int .i64 se, .int .u32 sq, .int .u32 st, .slice vv vn vc] 63)).heap.size := Nat.le_trans hB HB.out.size
  have HNW := Lib.hid (show ∀ j, j < 5 → ((w.alloc (.cells #[.int .i64 at_, .int .i64 se, .int .u32 sq, .int .u32 st, .slice vv vn vc] 63)).alloc (.cells #[.int .i64 at_, .int .i64 se, .int .u32 sq, .int .u32 st, .slice vv vn vc] 63)).cell? ((⟨w.heap.size + 1, 0, none⟩ : Addr).add j) = (El.row ⟨at_, se, sq, st, vv, vn, vc, vb⟩)[j]? from fun j hj => by
    have h := row_new' (w.alloc (.cells #[.int .i64 at_, .int .i64 se, .int .u32 sq, .int .u32 st, .slice vv vn vc] 63)) at_ se sq st vv vn vc 63 j hj
    rw [show (w.alloc (.cells #[.int .i64 at_, .int .i64 se, .int .u32 sq, .int .u32 st, .slice vv vn vc] 63)).heap.size = w.heap.size + 1 by simp] at h
    exact h)
  have hl0 : xs.length ≤ 1099511627776 := by omega
  clear hr hok hn hb0
  unfold El.val
  simp only
  obtain ⟨ys0, hys⟩ : ∃ y, xs ++ [(⟨at_, se, sq, st, vv, vn, vc, vb⟩ : El)] = y := ⟨_, rfl⟩
  have hlen1 : ys0.length = n + 1 := by rw [← hys, List.length_append, HN.out]; rfl
  rw [hys] at HOK ⊢
  have HYS := Lib.hid (And.intro hys hlen1)
  clear hys hlen1
  go_enter Tryz.func41, Tryz.ntmps41
  go_wp2_with (at_builtin; refine wpList_append_el _ rfl _ _ 41 B rfl Tryz.underlying41 v0 xs ⟨at_, se, sq, st, vv, vn, vc, vb⟩ rfl HR.out hBs hl0 ⟨w.heap.size + 1, 0, none⟩ 1 rfl HNW.out ?_; intro v1 w1 hr1 hg1 ha1; obtain ⟨A1, k1, rfl⟩ := hr1.slice; have HR1 := Lib.hid hr1; have HG1 := Lib.hid hg1; have HA1 := Lib.hid ha1; clear hr1 hg1 ha1)
  have HR2 := HR1.out
  rw [HYS.out.1] at HR2
  obtain ⟨g, cap, hgv, hBg, hp1⟩ := HR2.pl (by have := HYS.out.2; omega)
  rw [HYS.out.2] at hgv
  clear HR2
  injection hgv with e1 e2 e3
  subst e1 e3
  have hx1 : xs.length = n := HN.out
  have hgo : some g = v0.ownBlock ∨ w.heap.size + 2 ≤ g := by
    have h := HA1.out
    rcases h with h | h
    · exact .inl h
    · right
      have h' : some g = some ((w.alloc (.cells #[.int .i64 at_, .int .i64 se, .int .u32 sq, .int .u32 st, .slice vv vn vc] 63)).alloc (.cells #[.int .i64 at_, .int .i64 se, .int .u32 sq, .int .u32 st, .slice vv vn vc] 63)).heap.size := h
      injection h' with h'
      rw [h']
      simp
  have hok1 : ∀ a ∈ ys0, ElOk w1 a ∧ Away a (some g) ∧ W32 a := by
    intro a ha
    obtain ⟨o1, o2, o3⟩ := HOK.out a ha
    refine ⟨(o1.below HB.out).grown HG1.out o2, ?_, o3⟩
    rcases hgo with h | h
    · rw [h]; exact o2
    · exact Away.new o1 (by omega)
  have hbw : w.grownBy w1 v0.ownBlock := by
    have h := HG1.out
    exact ⟨h.os.trans HB.out.os, h.tape.trans HB.out.tape, h.output.trans HB.out.output, Nat.le_trans HB.out.size h.size, fun k hk hne => (h.block k (Nat.lt_of_lt_of_le hk HB.out.size) hne).trans (HB.out.block k hk)⟩
  have HOK1 := Lib.hid hok1
  have HBW := Lib.hid hbw
  have HGO := Lib.hid hgo
  clear hok1 hbw hgo HR HR0 HR1 HG1 HA1 HB HOK HNW hBs hl0
  have HP1 := Lib.hid (And.intro hp1 HYS.out.2)
  clear hp1
  rw [hx1]
  clear HN hx1
  go_loopw [5] (fun i wr => ∃ (j : Nat) (ys : List El), j ≤ n ∧ i = .int .i64 (j : Int) ∧ Hid (Pl wr g k1 ys ∧ ys.length = n + 1 ∧ sinkL cmpK (j + 1) ys j = sinkL cmpK (n + 1) ys0 n ∧ w1.grownBy wr (some g) ∧ ∀ a ∈ ys, a ∈ ys0)) (fun i _ => (intOf i).toNat)
  case atStart => exact ⟨n, ys0, by omega, rfl, Lib.hid ⟨HP1.out.1, HP1.out.2, rfl, grown_of_below (Below.refl _ _) _, fun a h => h⟩⟩
  case round =>
    obtain ⟨j, ys, hj, rfl, hh⟩ := hrel
    by_cases hj0 : j = 0
    · have HJ := Lib.hid hj0
      have hd : decide (0 < j) = false := by simp; omega
      have hd' : ¬ (0 : Int) < (j : Int) := by omega
      clear hj0
      go_wp2_with fail
      go_quiet (fail)
      go_wp2_with fail
      go_ret
      obtain ⟨h1, h2, h3, h4, -⟩ := hh.out
      rw [sink_stop (.inl HJ.out)] at h3
      rw [← h3]
      exact put_fin h1 h2 hBg HBW.out h4 HGO.out _
    · obtain ⟨q, hq⟩ : ∃ q, j = q + 1 := ⟨j - 1, by omega⟩
      have HJ := Lib.hid (And.intro hj0 hq)
      obtain ⟨a, ha⟩ := get_some (xs := ys) (i := q) (by have := hh.out.2.1; omega)
      obtain ⟨b, hb⟩ := get_some (xs := ys) (i := j) (by have := hh.out.2.1; omega)
      have hoa := HOK1.out a (hh.out.2.2.2.2 a (List.mem_of_getElem? ha))
      have hob := HOK1.out b (hh.out.2.2.2.2 b (List.mem_of_getElem? hb))
      have HC := Lib.hid (fun W (hW : Below wr.heap.size wr W) => rorder_any a b W ((hoa.1.grown hh.out.2.2.2.1 hoa.2.1).below hW) ((hob.1.grown hh.out.2.2.2.1 hob.2.1).below hW) hoa.2.2.1 hob.2.2.1 hoa.2.2.2 hob.2.2.2)
      have hz := fun m => hh.out.1.frozen m
      have hglt := hh.out.1.lt
      have HLT := Lib.hid (show ltAt cmpK ys j q = decide (0 < cmpK a b) by
        unfold ltAt
        rw [ha, hb]
        have := lexL_neg a.key b.key
        unfold cmpK
        simp only [decide_eq_decide]
        omega)
      obtain ⟨z, hzz⟩ : ∃ z, cmpK a b = z := ⟨_, rfl⟩
      rw [hzz] at HC HLT
      have HAB := Lib.hid (And.intro ha hb)
      have HHP := Lib.hid hh.out.1
      clear hzz hoa hob
      unfold El.val at HC
      obtain ⟨a0, a1, a2, a3, a4⟩ := hh.out.1.cells ha
      obtain ⟨b0, b1, b2, b3, b4⟩ := hh.out.1.cells hb
      obtain ⟨at_, se, sq, st, v, vn, vc, vb⟩ := a
      obtain ⟨at2, se2, sq2, st2, v2, vn2, vc2, vb2⟩ := b
      simp only at a0 a1 a2 a3 a4 b0 b1 b2 b3 b4
      simp only at HC
      clear ha hb
      have hd : decide (0 < j) = true := by simp; omega
      have hd' : (0 : Int) < (j : Int) := by omega
      have hw1 : IntKind.i64.wrap ((j : Int) - 1) = (q : Int) := by rw [IntWalk.i64_in _ (by omega)]; omega
      have i0 : (0 : Int) ≤ (q : Int) := by omega
      have i1 : (q : Int) < ((n + 1 : Nat) : Int) := by omega
      have k0 : (0 : Int) ≤ (j : Int) := by omega
      have k1' : (j : Int) < ((n + 1 : Nat) : Int) := by omega
      have i2 : (q : Int) < (n : Int) + 1 := by omega
      have k2 : (j : Int) < (n : Int) + 1 := by omega
      clear hj0 hq
      go_wp2_with fail
      go_region_held3 (fun w' => w'.cell? ⟨g, q * 5, none⟩ = some (.int .i64 at_) ∧ w'.cell? ⟨g, q * 5 + 1, none⟩ = some (.int .i64 se) ∧ w'.cell? ⟨g, q * 5 + 2, none⟩ = some (.int .u32 sq) ∧ w'.cell? ⟨g, q * 5 + 3, none⟩ = some (.int .u32 st) ∧ w'.cell? ⟨g, q * 5 + 4, none⟩ = some (.slice v vn vc) ∧ w'.cell? ⟨g, j * 5, none⟩ = some (.int .i64 at2) ∧ w'.cell? ⟨g, j * 5 + 1, none⟩ = some (.int .i64 se2) ∧ w'.cell? ⟨g, j * 5 + 2, none⟩ = some (.int .u32 sq2) ∧ w'.cell? ⟨g, j * 5 + 3, none⟩ = some (.int .u32 st2) ∧ w'.cell? ⟨g, j * 5 + 4, none⟩ = some (.slice v2 vn2 vc2))
        (first | exact ⟨a0, a1, a2, a3, a4, b0, b1, b2, b3, b4⟩ | exact ⟨(hb6.cell (by exact hglt)).trans a0, (hb6.cell (by exact hglt)).trans a1, (hb6.cell (by exact hglt)).trans a2, (hb6.cell (by exact hglt)).trans a3, (hb6.cell (by exact hglt)).trans a4, (hb6.cell (by exact hglt)).trans b0, (hb6.cell (by exact hglt)).trans b1, (hb6.cell (by exact hglt)).trans b2, (hb6.cell (by exact hglt)).trans b3, (hb6.cell (by exact hglt)).trans b4⟩)
        (first | (go_at_call 61; refine (HC.out _ (Below.refl _ _).drew).mono ?_; rintro e w6 ⟨rfl, hb6⟩))
      have HB6 := Lib.hid ((Below.refl wr.heap.size wr).drew.trans hb6)
      have hp6 := HHP.out.below HB6.out
      have HG6 := Lib.hid (grown_trans hh.out.2.2.2.1 (grown_of_below HB6.out g))
      have HP6 := Lib.hid hp6
      clear hb6 a0 a1 a2 a3 a4 b0 b1 b2 b3 b4 hz
      have hz := fun m => hp6.frozen m
      obtain ⟨a0, a1, a2, a3, a4⟩ := hp6.cells HAB.out.1
      obtain ⟨b0, b1, b2, b3, b4⟩ := hp6.cells HAB.out.2
      simp only at a0 a1 a2 a3 a4 b0 b1 b2 b3 b4
      clear hp6
      by_cases hzp : 0 < z
      · have hlt := HLT.out
        rw [decide_eq_true hzp] at hlt
        have HLT2 := Lib.hid hlt
        clear hlt
        go_wp2_with fail
        obtain ⟨z00, d0⟩ := set_some ⟨g, q * 5, none⟩ (.int .i64 at2) b0
        obtain ⟨z10, f10⟩ := set_some ⟨g, q * 5, none⟩ (.int .i64 at2) b1
        obtain ⟨z11, d1⟩ := set_some ⟨g, q * 5 + 1, none⟩ (.int .i64 se2) f10
        obtain ⟨z20, f20⟩ := set_some ⟨g, q * 5, none⟩ (.int .i64 at2) b2
        obtain ⟨z21, f21⟩ := set_some ⟨g, q * 5 + 1, none⟩ (.int .i64 se2) f20
        obtain ⟨z22, d2⟩ := set_some ⟨g, q * 5 + 2, none⟩ (.int .u32 sq2) f21
        obtain ⟨z30, f30⟩ := set_some ⟨g, q * 5, none⟩ (.int .i64 at2) b3
        obtain ⟨z31, f31⟩ := set_some ⟨g, q * 5 + 1, none⟩ (.int .i64 se2) f30
        obtain ⟨z32, f32⟩ := set_some ⟨g, q * 5 + 2, none⟩ (.int .u32 sq2) f31
        obtain ⟨z33, d3⟩ := set_some ⟨g, q * 5 + 3, none⟩ (.int .u32 st2) f32
        obtain ⟨z40, f40⟩ := set_some ⟨g, q * 5, none⟩ (.int .i64 at2) b4
        obtain ⟨z41, f41⟩ := set_some ⟨g, q * 5 + 1, none⟩ (.int .i64 se2) f40
        obtain ⟨z42, f42⟩ := set_some ⟨g, q * 5 + 2, none⟩ (.int .u32 sq2) f41
        obtain ⟨z43, f43⟩ := set_some ⟨g, q * 5 + 3, none⟩ (.int .u32 st2) f42
        obtain ⟨z44, d4⟩ := set_some ⟨g, q * 5 + 4, none⟩ (.slice v2 vn2 vc2) f43
        clear f10 f20 f21 f30 f31 f32 f40 f41 f42 f43
        go_region
        all_goals go_wp2_with fail
        go_roundw
        case rel =>
          have e1 := Pl.set HP6.out (i := q) (by have := hh.out.2.1; omega) ⟨at2, se2, sq2, st2, v2, vn2, vc2, vb2⟩
          have e2 := Pl.set e1.1 (i := j) (by rw [List.length_set]; have := hh.out.2.1; omega) ⟨at_, se, sq, st, v, vn, vc, vb⟩
          have es : sw ys j q = (ys.set q ⟨at2, se2, sq2, st2, v2, vn2, vc2, vb2⟩).set j ⟨at_, se, sq, st, v, vn, vc, vb⟩ := by
            rw [sw_eq HAB.out.2 HAB.out.1, List.set_comm _ _ (by have := HJ.out.2; omega)]
          refine ⟨q, sw ys j q, by have := HJ.out.2; omega, by go_num, Lib.hid ⟨?_, by rw [sw_len]; exact hh.out.2.1, ?_, ?_, fun a ha => hh.out.2.2.2.2 a (sw_mem ha)⟩⟩
          · rw [es]; exact e2.1.drew
          · rw [← hh.out.2.2.1]
            have := HJ.out.2
            subst this
            rw [sink_go HLT2.out]
          · exact grown_trans HG6.out (grown_trans (grown_trans e1.2 e2.2) (grown_drew _ _))
        case measure =>
          have := HJ.out.2
          simp [intOf]; omega
      · have hlt := HLT.out
        rw [decide_eq_false hzp] at hlt
        have hzd : decide (0 < z) = false := by simpa using hzp
        have HLT2 := Lib.hid hlt
        clear hlt
        go_wp2_with fail
        go_ret
        rw [← hh.out.2.2.1, sink_stop (.inr (by have := HJ.out.2; rw [show j - 1 = q by omega]; exact HLT2.out))]
        exact put_fin HP6.out hh.out.2.1 hBg HBW.out HG6.out HGO.out 0
end Go.Proofs.YtebacmmfjadalaaGreat
