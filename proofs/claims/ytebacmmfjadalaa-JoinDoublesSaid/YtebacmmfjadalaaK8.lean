/- Contracts of the reference's Same: of two readings, of two lists of timed readings. -/
import Derived.Test.YtebacmmfjadalaaK7
namespace Go.Proofs.Ytebacmmfjadalaa
open Go Go.RowKit

theorem map_key {a b : List Nat} (la : Lt64 a) (lb : Lt64 b) : a.map cnN = b.map cnN ↔ a.map keyN = b.map keyN := by
  constructor
  · intro h
    apply List.ext_getElem?
    intro i
    have hi := congrArg (fun l : List Nat => l[i]?) h
    simp only [List.getElem?_map] at hi ⊢
    cases ha : a[i]? with
    | none => rw [ha] at hi; cases hb : b[i]? with
      | none => rfl
      | some y => rw [hb] at hi; cases hi
    | some x => rw [ha] at hi; cases hb : b[i]? with
      | none => rw [hb] at hi; cases hi
      | some y =>
        rw [hb] at hi
        simp only [Option.map_some, Option.some.injEq] at hi ⊢
        exact key_cn hi
  · intro h
    apply List.ext_getElem?
    intro i
    have hi := congrArg (fun l : List Int => l[i]?) h
    simp only [List.getElem?_map] at hi ⊢
    have l1 := la i
    have l2 := lb i
    rw [List.getD_eq_getElem?_getD] at l1 l2
    cases ha : a[i]? with
    | none => rw [ha] at hi; cases hb : b[i]? with
      | none => rfl
      | some y => rw [hb] at hi; cases hi
    | some x => rw [ha] at hi l1; cases hb : b[i]? with
      | none => rw [hb] at hi; cases hi
      | some y =>
        rw [hb] at hi l2
        simp only [Option.map_some, Option.some.injEq, Option.getD_some] at hi l1 l2 ⊢
        exact key_inj l1 l2 hi

/-- two readings alike -/
def sameR (a b : El) : Bool := decide (a.se = b.se ∧ a.sq = b.sq ∧ a.st = b.st ∧ sameL a.bs b.bs = true)
theorem same_key {w w' : World} {a b : El} (ha : ElOk w a) (hb : ElOk w' b) : (a.at_ = b.at_ ∧ sameR a b = true) ↔ a.key = b.key := by
  have la := ha.1.1
  have lb := hb.1.1
  unfold sameR sameL El.key
  simp only [decide_eq_true_eq, List.cons.injEq]
  rw [map_key ha.2.1 hb.2.1]
  constructor
  · rintro ⟨h1, h2, h3, h4, h5⟩
    have := congrArg List.length h5
    simp only [List.length_map] at this
    exact ⟨h1, h2, h3, h4, by omega, h5⟩
  · rintro ⟨h1, h2, h3, h4, -, h5⟩
    exact ⟨h1, h2, h3, h4, h5⟩

set_option maxRecDepth 8000 in
set_option maxHeartbeats 4000000 in
theorem rsame_walk (a2 a3 a4 b2 b3 b4 : Int) (A B : Option Addr) (n m c d : Nat) (xa xb : List Nat) (w : World) (fa : FlAt w A n xa) (fb : FlAt w B m xb) (hl : n * 8 ≤ 140737488355328) :
    Calls Try.prog 30 #[.agg #[.int .i64 a2, .int .u32 a3, .int .u32 a4, .slice A n c], .agg #[.int .i64 b2, .int .u32 b3, .int .u32 b4, .slice B m d]] w fun e w' =>
      e = .returned (.bool (decide (a2 = b2 ∧ a3 = b3 ∧ a4 = b4 ∧ sameL xa xb = true))) ∧ Below w.heap.size w w' := by
  have hb := ((Below.refl w.heap.size w).alloc (Nat.le_refl _) (.cells #[.int .i64 a2, .int .u32 a3, .int .u32 a4, .slice A n c] 30)).alloc (by simp) (.cells #[.int .i64 b2, .int .u32 b3, .int .u32 b4, .slice B m d] 30)
  have HB := Lib.hid hb
  have HS := Lib.hid (slist_any A B n m c d xa xb _ (fa.below hb) (fb.below hb) hl)
  obtain ⟨q, hq⟩ : ∃ q, sameL xa xb = q := ⟨_, rfl⟩
  rw [hq] at HS ⊢
  clear hq hb fa fb
  by_cases c2 : a2 = b2
  · subst c2
    by_cases c3 : a3 = b3
    · subst c3
      by_cases c4 : a4 = b4
      · subst c4
        go_enter Try.func30, Try.ntmps30
        go_wp2_with fail
        refine HS.out.mono ?_
        rintro e w1 ⟨rfl, hb1⟩
        go_wp2_with fail
        go_ret
        exact ⟨by cases q <;> simp, back_of HB.out hb1⟩
      · have h1 : (a4 == b4) = false := by simpa using c4
        go_enter Try.func30, Try.ntmps30
        go_wp2_with fail
        go_ret
        exact ⟨by rw [decide_eq_false (fun h => c4 h.2.2.1)]; rfl, HB.out⟩
    · have h1 : (a3 == b3) = false := by simpa using c3
      go_enter Try.func30, Try.ntmps30
      go_wp2_with fail
      go_ret
      exact ⟨by rw [decide_eq_false (fun h => c3 h.2.1)]; rfl, HB.out⟩
  · have h1 : (a2 == b2) = false := by simpa using c2
    go_enter Try.func30, Try.ntmps30
    go_wp2_with fail
    go_ret
    exact ⟨by rw [decide_eq_false (fun h => c2 h.1)]; rfl, HB.out⟩

/-- timed readings lie behind a slice -/
def TlAt (w : World) (v : Value) (xs : List El) : Prop := ∃ A c, v = .slice A xs.length c ∧ ((A = none ∧ xs = []) ∨ ∃ b off, A = some ⟨b, off, none⟩ ∧ b < w.heap.size ∧ ∀ i e, xs[i]? = some e → ∀ j, j < 5 → w.cell? ⟨b, off + i * 5 + j, none⟩ = e.row[j]?)
theorem TlAt.below {w w' : World} {v : Value} {xs : List El} (h : TlAt w v xs) (hb : Below w.heap.size w w') : TlAt w' v xs := by
  obtain ⟨A, c, h1, h2⟩ := h
  refine ⟨A, c, h1, h2.imp id ?_⟩
  rintro ⟨b, off, h3, h4, h5⟩
  exact ⟨b, off, h3, Nat.lt_of_lt_of_le h4 hb.size, fun i e he j hj => (hb.cell (p := ⟨b, off + i * 5 + j, none⟩) h4).trans (h5 i e he j hj)⟩
theorem Row.tl {B : Nat} {w : World} {v : Value} {xs : List El} (h : Row B w v xs) : TlAt w v xs := by
  rcases h.2 with ⟨hn, h0⟩ | ⟨g, cap, cur, hv, h1, h2, -⟩
  · have hx : xs = [] := by
      cases xs with
      | nil => rfl
      | cons a l => simp at h0
    subst hx
    exact ⟨none, 0, hn, .inl ⟨rfl, rfl⟩⟩
  · have hg := (Array.getElem?_eq_some_iff.1 h2).1
    subst hv
    refine ⟨_, _, rfl, .inr ⟨g, 0, rfl, hg, fun i e he j hj => ?_⟩⟩
    have hi : i < xs.length := (List.getElem?_eq_some_iff.1 he).1
    have := (World.ownsRow.cellAt h (i * 5 + j) (by omega)).trans (flat_get xs i j e he hj)
    rw [Nat.zero_add]
    exact this
/-- so far alike -/
theorem tsame_step {xs ys : List El} {k : Nat} {a b : El} (h : (xs.take k).map El.key = (ys.take k).map El.key) (ha : xs[k]? = some a) (hb : ys[k]? = some b) (e : a.key = b.key) : (xs.take (k + 1)).map El.key = (ys.take (k + 1)).map El.key := by
  rw [List.take_add_one, List.take_add_one, ha, hb, List.map_append, List.map_append, h]
  simp [e]
theorem tsame_no {xs ys : List El} {k : Nat} {a b : El} (ha : xs[k]? = some a) (hb : ys[k]? = some b) (e : a.key ≠ b.key) : xs.map El.key ≠ ys.map El.key := by
  intro h
  apply e
  have := congrArg (fun l : List (List Int) => l[k]?) h
  simpa [ha, hb] using this
theorem El.rowAt (e : El) : e.row[0]? = some (.int .i64 e.at_) ∧ e.row[1]? = some (.int .i64 e.se) ∧ e.row[2]? = some (.int .u32 e.sq) ∧ e.row[3]? = some (.int .u32 e.st) ∧ e.row[4]? = some (.slice e.v e.n e.c) := ⟨rfl, rfl, rfl, rfl, rfl⟩

set_option maxRecDepth 8000 in
set_option maxHeartbeats 4000000 in
theorem tsame_any (v u : Value) (xs ys : List El) (w : World) (hx : TlAt w v xs) (hy : TlAt w u ys) (ox : ∀ e ∈ xs, ElOk w e) (oy : ∀ e ∈ ys, ElOk w e) (hlen : xs.length ≤ 1099511627776) :
    Calls Try.prog 11 #[v, u] w fun e w' => e = .returned (.bool (decide (xs.map El.key = ys.map El.key))) ∧ Below w.heap.size w w' := by
  have HX := Lib.hid (And.intro hx ox)
  have HY := Lib.hid (And.intro hy oy)
  obtain ⟨A, c, rfl, hxx⟩ := hx
  obtain ⟨B, d, rfl, hyy⟩ := hy
  obtain ⟨n, hn⟩ : ∃ n, xs.length = n := ⟨_, rfl⟩
  obtain ⟨m, hm⟩ : ∃ m, ys.length = m := ⟨_, rfl⟩
  have HN := Lib.hid (And.intro hn hm)
  rw [hn] at hlen ⊢
  rw [hm]
  have HXX := Lib.hid hxx
  have HYY := Lib.hid hyy
  clear hxx hyy ox oy hn hm
  by_cases hnm : n = m
  · subst hnm
    go_enter Try.func11, Try.ntmps11
    go_wp2_with fail
    go_loopw [13] (fun iv wr => ∃ k : Nat, k ≤ n ∧ iv = .int .i64 (k : Int) ∧ Hid ((xs.take k).map El.key = (ys.take k).map El.key ∧ Below w.heap.size w wr)) (fun iv _ => n - (intOf iv).toNat)
    case atStart => exact ⟨0, by omega, rfl, Lib.hid ⟨rfl, Below.refl _ _⟩⟩
    case round =>
      obtain ⟨k, hk, rfl, hh⟩ := hrel
      by_cases hlt : k < n
      · obtain ⟨a, ha⟩ := get_some (xs := xs) (i := k) (by have := HN.out.1; omega)
        obtain ⟨b, hb⟩ := get_some (xs := ys) (i := k) (by have := HN.out.2; omega)
        rcases HXX.out with ⟨-, h0⟩ | ⟨g1, o1, rfl, q1, hc1⟩
        · rw [h0] at ha; simp at ha
        rcases HYY.out with ⟨-, h0⟩ | ⟨g2, o2, rfl, q2, hc2⟩
        · rw [h0] at hb; simp at hb
        have oa := (HX.out.2 a (List.mem_of_getElem? ha)).below hh.out.2
        have ob := (HY.out.2 b (List.mem_of_getElem? hb)).below hh.out.2
        have HAB := Lib.hid (And.intro (And.intro ha hb) (And.intro oa ob))
        have d1 := fun j hj => (hh.out.2.cell (p := ⟨g1, o1 + k * 5 + j, none⟩) q1).trans (hc1 k a ha j hj)
        have d2 := fun j hj => (hh.out.2.cell (p := ⟨g2, o2 + k * 5 + j, none⟩) q2).trans (hc2 k b hb j hj)
        have x0 := d1 0 (by omega)
        have x1 := d1 1 (by omega)
        have x2 := d1 2 (by omega)
        have x3 := d1 3 (by omega)
        have x4 := d1 4 (by omega)
        have y0 := d2 0 (by omega)
        have y1 := d2 1 (by omega)
        have y2 := d2 2 (by omega)
        have y3 := d2 3 (by omega)
        have y4 := d2 4 (by omega)
        clear d1 d2 hc1 hc2 ha hb oa ob
        have HS := Lib.hid (fun W hW => rsame_walk a.se a.sq a.st b.se b.sq b.st a.v b.v a.n b.n a.c b.c a.bs b.bs W ((HAB.out.2.1.below hW).1) ((HAB.out.2.2.below hW).1) HAB.out.2.1.2.2)
        obtain ⟨q, hq⟩ : ∃ q, sameR a b = q := ⟨_, rfl⟩
        have HQ := Lib.hid hq
        unfold sameR at hq
        rw [hq] at HS
        clear hq
        obtain ⟨at_, se, sq, st, av, an, ac, abs⟩ := a
        obtain ⟨at2, se2, sq2, st2, bv, bn, bc, bbs⟩ := b
        rw [Nat.add_zero] at x0 y0
        simp only [El.row, List.getElem?_cons_zero, List.getElem?_cons_succ] at x0 x1 x2 x3 x4 y0 y1 y2 y3 y4
        simp only at HS
        have hki : (k : Int) < (n : Int) := by omega
        have hk0 : (0 : Int) ≤ (k : Int) := by omega
        have r1 : g1 < wr.heap.size := Nat.lt_of_lt_of_le q1 hh.out.2.size
        have r2 : g2 < wr.heap.size := Nat.lt_of_lt_of_le q2 hh.out.2.size
        by_cases hat : at_ = at2
        · subst hat
          have h1 : (at_ != at_) = false := by simp
          go_wp2_with fail
          go_region_held3 (fun w' => w'.cell? ⟨g1, o1 + k * 5, none⟩ = some (.int .i64 at_) ∧ w'.cell? ⟨g1, o1 + k * 5 + 1, none⟩ = some (.int .i64 se) ∧ w'.cell? ⟨g1, o1 + k * 5 + 2, none⟩ = some (.int .u32 sq) ∧ w'.cell? ⟨g1, o1 + k * 5 + 3, none⟩ = some (.int .u32 st) ∧ w'.cell? ⟨g1, o1 + k * 5 + 4, none⟩ = some (.slice av an ac) ∧
              w'.cell? ⟨g2, o2 + k * 5, none⟩ = some (.int .i64 at_) ∧ w'.cell? ⟨g2, o2 + k * 5 + 1, none⟩ = some (.int .i64 se2) ∧ w'.cell? ⟨g2, o2 + k * 5 + 2, none⟩ = some (.int .u32 sq2) ∧ w'.cell? ⟨g2, o2 + k * 5 + 3, none⟩ = some (.int .u32 st2) ∧ w'.cell? ⟨g2, o2 + k * 5 + 4, none⟩ = some (.slice bv bn bc))
            (first | exact ⟨x0, x1, x2, x3, x4, y0, y1, y2, y3, y4⟩ | exact ⟨(hb6.cell (by exact r1)).trans x0, (hb6.cell (by exact r1)).trans x1, (hb6.cell (by exact r1)).trans x2, (hb6.cell (by exact r1)).trans x3, (hb6.cell (by exact r1)).trans x4, (hb6.cell (by exact r2)).trans y0, (hb6.cell (by exact r2)).trans y1, (hb6.cell (by exact r2)).trans y2, (hb6.cell (by exact r2)).trans y3, (hb6.cell (by exact r2)).trans y4⟩)
            (first | (go_at_call 30; refine (HS.out _ (Below.refl wr.heap.size wr).drew).mono ?_; rintro e w6 ⟨rfl, hb6⟩))
          have HB6 := Lib.hid (back_of hh.out.2 ((Below.refl wr.heap.size wr).drew.trans hb6))
          clear hb6 x0 x1 x2 x3 x4 y0 y1 y2 y3 y4 HS
          cases q
          · go_wp2_with fail
            go_ret
            refine ⟨?_, HB6.out⟩
            rw [decide_eq_false (tsame_no HAB.out.1.1 HAB.out.1.2 (fun e => by have := (same_key HAB.out.2.1 HAB.out.2.2).2 e; rw [HQ.out] at this; exact Bool.noConfusion this.2))]
            rfl
          · go_wp2_with fail
            go_roundw
            case rel => exact ⟨k + 1, by omega, by go_num, Lib.hid ⟨tsame_step hh.out.1 HAB.out.1.1 HAB.out.1.2 ((same_key HAB.out.2.1 HAB.out.2.2).1 ⟨rfl, HQ.out⟩), HB6.out⟩⟩
            case measure => simp [intOf]; omega
        · have h1 : (at_ != at2) = true := by simpa using hat
          go_wp2_with fail
          go_quiet (fail)
          clear x0 x1 x2 x3 x4 y0 y1 y2 y3 y4 HS
          go_wp2_with fail
          go_ret
          refine ⟨?_, below_drewN hh.out.2 _⟩
          rw [decide_eq_false (tsame_no HAB.out.1.1 HAB.out.1.2 (fun e => hat ((same_key HAB.out.2.1 HAB.out.2.2).2 e).1))]
          rfl
      · have hkn : k = n := by omega
        subst hkn
        go_wp2_with fail
        go_ret
        refine ⟨?_, hh.out.2⟩
        have := hh.out.1
        rw [List.take_of_length_le (by have := HN.out; omega), List.take_of_length_le (by have := HN.out; omega)] at this
        rw [decide_eq_true this]
        rfl
  · have hnb : ((n : Int) != (m : Int)) = true := bne_iff_ne.2 (by omega)
    go_enter Try.func11, Try.ntmps11
    go_wp2_with fail
    go_ret
    refine ⟨?_, Below.refl _ _⟩
    rw [decide_eq_false (fun e => hnm (by have := congrArg List.length e; simpa [HN.out.1, HN.out.2] using this))]
    rfl
end Go.Proofs.Ytebacmmfjadalaa
