/- T4 in one text. -/
import Derived.Test.YtebacmmfjadalaaGreatP32
import Derived.Test.YtebacmmfjadalaaGreatP15

namespace Go.Proofs.YtebacmmfjadalaaGreat
open Go Go.RowKit

/-- a joiner, and all that it told in a row apart -/
structure TR (w W : World) (x B : Nat) (j : Jn) (sns : List Sn) (xs told : List El) (k : Nat) (tv : Value) : Prop where
  jr : JR W x B j sns xs told k
  row : Row w.heap.size W tv told
  apart : ∀ g, tv.ownBlock = some g → Out x j xs g
  bel : Below w.heap.size w W
  wx : w.heap.size ≤ x
/-- the same ahead of the append of what was just told -/
structure TQ (w W : World) (x B : Nat) (j : Jn) (sns : List Sn) (xs told mid : List El) (k : Nat) (tv : Value) : Prop where
  jr : JR W x B j sns xs (told ++ mid) k
  row : Row w.heap.size W tv told
  apart : ∀ g, tv.ownBlock = some g → Out x j xs g
  bel : Below w.heap.size w W
  wx : w.heap.size ≤ x
theorem TR.below {w W W' : World} {x B : Nat} {j : Jn} {sns : List Sn} {xs told : List El} {k : Nat} {tv : Value} (h : TR w W x B j sns xs told k tv) (hb : Below W.heap.size W W') : TR w W' x B j sns xs told k tv :=
  ⟨h.jr.below hb, h.row.below hb, h.apart, h.bel.trans (hb.mono h.bel.size), h.wx⟩
theorem TR.mono {w W : World} {x B : Nat} {j : Jn} {sns : List Sn} {xs told : List El} {k m : Nat} {tv : Value} (h : TR w W x B j sns xs told k tv) (hm : k ≤ m) : TR w W x B j sns xs told m tv :=
  ⟨h.jr.mono hm, h.row, h.apart, h.bel, h.wx⟩
theorem TQ.none {w W : World} {x B : Nat} {j : Jn} {sns : List Sn} {xs told mid : List El} {k : Nat} {tv : Value} (h : TQ w W x B j sns xs told mid k tv) (hm : mid = []) : TR w W x B j sns xs told k tv := by
  subst hm
  have := h.jr
  rw [List.append_nil] at this
  exact ⟨this, h.row, h.apart, h.bel, h.wx⟩
theorem newE_zero {cs : List (Int × Int × Int)} {win : Int} (h : newE cs win = 0) : 0 ≤ win ∧ win ≤ 1125899906842624 := by
  unfold newE at h
  split at h
  · cases h
  · omega
theorem JR.start {w1 w2 : World} {cs : List (Int × Int × Int)} {win : Int} {sv : Value} (hE : newE cs win = 0) (hs : SRow (w1.heap.size + 1) w2 sv (cs.map sn0)) (hj : JnAt w2 w1.heap.size ⟨sv, win, .slice none 0 0, false, 0, 0, 0, 0, 0, 0, 0⟩) (hz : ∀ i, w2.frozen? ⟨w1.heap.size, i, none⟩ = false) (hl : w1.heap.size < w2.heap.size) :
    JR w2 w1.heap.size w2.heap.size ⟨sv, win, .slice none 0 0, false, 0, 0, 0, 0, 0, 0, 0⟩ (cs.map sn0) [] [] 0 := by
  obtain ⟨e1, e2⟩ := newE_zero hE
  refine ⟨⟨hj, hs, World.ownsRow_nil _ _ _ _, hz, Nat.le_refl _, hl, Below.refl _ _⟩, fun e he => by simp at he, fun g hg => ?_, ⟨fun s hs => ?_, fun i i0 i1 => by simp at i1, fun e he => by simp at he, List.Pairwise.nil, List.Pairwise.nil, fun e he => by simp at he, fun e he => by simp at he, fun e he => by simp at he, fun _ => ⟨rfl, rfl⟩, ⟨?_, ?_, ?_, ?_, ?_, ?_, ?_, e1, e2⟩, rfl, rfl, List.Pairwise.nil⟩, (fun q => by cases q), ?_⟩
  · refine ⟨?_, ?_⟩
    · rcases Nat.lt_or_ge w1.heap.size g with q | q
      · exact q
      · exact absurd hg (hs.own (by omega))
    · rcases hs.2 with ⟨h1, -⟩ | ⟨g', cap, cur, h1, h2, h3, -⟩
      · simp only at hg
        rw [h1] at hg
        simp [Value.ownBlock] at hg
      · simp only at hg
        rw [h1] at hg
        simp only [Value.ownBlock] at hg
        injection hg with hg
        subst hg
        exact (Array.getElem?_eq_some_iff.1 h3).1
  · obtain ⟨c, -, rfl⟩ := List.mem_map.1 hs
    refine ⟨?_, ?_, ?_, ?_⟩ <;> simp [sn0]
  all_goals simp
theorem TR.start {w w1 w2 : World} {cs : List (Int × Int × Int)} {win : Int} {sv : Value} (hE : newE cs win = 0) (h1 : Below w.heap.size w w1) (hs : SRow (w1.heap.size + 1) w2 sv (cs.map sn0)) (hj : JnAt w2 w1.heap.size ⟨sv, win, .slice none 0 0, false, 0, 0, 0, 0, 0, 0, 0⟩) (hz : ∀ i, w2.frozen? ⟨w1.heap.size, i, none⟩ = false) (hl : w1.heap.size < w2.heap.size) (hb : Below w1.heap.size w1 w2) :
    TR w w2 w1.heap.size w2.heap.size ⟨sv, win, .slice none 0 0, false, 0, 0, 0, 0, 0, 0, 0⟩ (cs.map sn0) [] [] 0 (.slice none 0 0) :=
  ⟨JR.start hE hs hj hz hl, World.ownsRow_nil _ _ _ _, fun g hg => by simp [Value.ownBlock] at hg, h1.trans (hb.mono h1.size), h1.size⟩
/-- behind a push -/
theorem TR.pushed {w W W2 : World} {x B : Nat} {j : Jn} {sns : List Sn} {xs told : List El} {k : Nat} {tv : Value} {se sq st : Int} {n : Nat} {bs : List Nat} {kind er : Int} {ov : Value} {j' : Jn} {sns' : List Sn} {xs' mid : List El}
    (h : TR w W x B j sns xs told k tv) (hp : PushL W W2 x B j sns xs told k se sq st n bs kind er ov j' sns' xs' mid) : TQ w W2 x B j' sns' xs' told mid (k + 1) tv := by
  refine ⟨hp.jr, h.row.keep (fun g hg hl => hp.ft.block g hl ?_), fun g hg => hp.outs (h.apart g hg) (h.row.lt hg).2, h.bel.trans (hp.ft.below h.bel.size (fun b hb => ?_)), h.wx⟩
  · obtain ⟨o1, o2, o3, -⟩ := h.apart g hg
    rintro (q | q | q)
    · exact o1 q
    · exact o2 q
    · exact o3 q
  · have hx := h.wx
    have hB := h.jr.inv.xB
    rcases hb with q | q | q
    · omega
    · have := (h.jr.own b q).1; omega
    · have := (h.jr.inv.row.lt q).1; omega
/-- behind a flush -/
theorem TR.flushed {w W W2 : World} {x B : Nat} {j : Jn} {sns : List Sn} {xs told : List El} {k : Nat} {tv : Value} {ov : Value} {j' : Jn} {mid : List El}
    (h : TR w W x B j sns xs told k tv) (hp : FlushL W W2 x B j sns xs told k ov j' mid) : TQ w W2 x B j' sns [] told mid k tv := by
  refine ⟨hp.jr, h.row.keep (fun g hg hl => hp.ft.block g hl ?_), fun g hg => hp.outs (h.apart g hg), h.bel.trans (hp.ft.below h.bel.size (fun b hb => ?_)), h.wx⟩
  · obtain ⟨o1, o2, o3, -⟩ := h.apart g hg
    rintro (q | q)
    · exact o1 q
    · exact o3 q
  · have hx := h.wx
    have hB := h.jr.inv.xB
    rcases hb with q | q
    · omega
    · have := (h.jr.inv.row.lt q).1; omega
/-- behind the append -/
theorem TQ.append {w W W' : World} {x B : Nat} {j : Jn} {sns : List Sn} {xs told mid : List El} {k : Nat} {tv tv' : Value} (h : TQ w W x B j sns xs told mid k tv) (hr : Row w.heap.size W' tv' (told ++ mid)) (hg : W.grownBy W' tv.ownBlock) (ha : tv'.ownBlock = tv.ownBlock ∨ tv'.ownBlock = some W.heap.size) :
    TR w W' x B j sns xs (told ++ mid) k tv' := by
  have hF : Ft W W' (fun b => tv.ownBlock = some b) := ⟨hg.os, hg.tape, hg.output, hg.size, fun b hb hn => hg.block b hb (fun e => hn e.symm)⟩
  refine ⟨h.jr.ft hF (fun b hb => h.apart b hb), hr, fun g hq => ?_, h.bel.trans (hF.below h.bel.size (fun b hb => (h.row.lt hb).1)), h.wx⟩
  rcases ha with q | q
  · rw [q] at hq; exact h.apart g hq
  · rw [q] at hq
    injection hq with hq
    exact h.jr.out (by omega)
theorem pw_get {R : El → El → Prop} {l : List El} (h : l.Pairwise R) {i k : Nat} {a b : El} (hik : k < i) (ha : l[i]? = some a) (hb : l[k]? = some b) : R b a := by
  obtain ⟨h1, h2⟩ := List.getElem?_eq_some_iff.1 ha
  obtain ⟨h3, h4⟩ := List.getElem?_eq_some_iff.1 hb
  have := List.pairwise_iff_getElem.1 h k i h3 h1 hik
  rw [h2, h4] at this
  exact this
/-- a new joiner, whatever it is made of -/
theorem new_all (A : Option Addr) (cc n : Nat) (cs : List (Int × Int × Int)) (win : Int) (w : World) (hn : cs.length = n) (hc : ClRow w A cs) :
    Calls Tryz.prog 6 #[.slice A n cc, .int .i64 win] w (NewP w cs win) := by
  by_cases h : 64 < n ∨ win < 0 ∨ 1125899906842624 < win
  · exact new_long A cc n cs win w hn h
  · exact new_gen A cc n cs win w hn hc (by omega) (by omega) (by omega)
end Go.Proofs.YtebacmmfjadalaaGreat
