/- U1 in one text. -/
import Derived.Test.YtebacmmfjadalaaGreatP26
import Derived.Test.YtebacmmfjadalaaGreatP15
import Derived.Test.YtebacmmfjadalaaGreatP48

namespace Go.Proofs.YtebacmmfjadalaaGreat
open Go Go.RowKit

theorem newE_zero {cs : List (Int × Int × Int)} {win : Int} (h : newE cs win = 0) : 0 ≤ win ∧ win ≤ 1125899906842624 := by
  unfold newE at h
  split at h
  · cases h
  · omega
theorem JR.start {w1 w2 : World} {cs : List (Int × Int × Int)} {win : Int} {sv : Value} (hE : newE cs win = 0) (hs : SRow (w1.heap.size + 1) w2 sv (cs.map sn0)) (hj : JnAt w2 w1.heap.size ⟨sv, win, .slice none 0 0, false, 0, 0, 0, 0, 0, 0, 0⟩) (hz : ∀ i, w2.frozen? ⟨w1.heap.size, i, none⟩ = false) (hl : w1.heap.size < w2.heap.size) :
    JR w2 w1.heap.size w2.heap.size ⟨sv, win, .slice none 0 0, false, 0, 0, 0, 0, 0, 0, 0⟩ (cs.map sn0) [] [] 0 := by
  obtain ⟨e1, e2⟩ := newE_zero hE
  refine ⟨⟨hj, hs.lo, World.ownsRow_nil _ _ _ _, hz, Nat.le_refl _, hl, Below.refl _ _⟩, fun e he => by simp at he, fun g hg => ?_, ⟨fun s hs => ?_, fun i i0 i1 => by simp at i1, fun e he => by simp at he, List.Pairwise.nil, List.Pairwise.nil, fun e he => by simp at he, fun e he => by simp at he, fun e he => by simp at he, fun _ => ⟨rfl, rfl⟩, ⟨?_, ?_, ?_, ?_, ?_, ?_, ?_, e1, e2⟩, rfl, rfl, List.Pairwise.nil⟩, (fun q => by cases q), ?_⟩
  · refine ⟨?_, ?_⟩
    · have := hs.ge (show sv.ownBlock = some g from hg)
      omega
    · rcases hs.2 with ⟨h1, -⟩ | ⟨g', cap, cur, h1, h2, h3, -⟩
      · simp only at hg
        rw [h1] at hg
        simp [Value.ownBlock] at hg
      · simp only at hg
        rw [h1] at hg
        simp only [Value.ownBlock] at hg
        injection hg with hg
        subst hg
        exact (Array.getElem?_eq_some_iff.1 h3).1
  · obtain ⟨c, -, rfl⟩ := List.mem_map.1 hs
    refine ⟨?_, ?_, ?_, ?_⟩ <;> simp [sn0]
  all_goals simp
theorem pw_get {R : El → El → Prop} {l : List El} (h : l.Pairwise R) {i k : Nat} {a b : El} (hik : k < i) (ha : l[i]? = some a) (hb : l[k]? = some b) : R b a := by
  obtain ⟨h1, h2⟩ := List.getElem?_eq_some_iff.1 ha
  obtain ⟨h3, h4⟩ := List.getElem?_eq_some_iff.1 hb
  have := List.pairwise_iff_getElem.1 h k i h3 h1 hik
  rw [h2, h4] at this
  exact this
/-- a new joiner, whatever it is made of -/
theorem new_all (A : Option Addr) (cc n : Nat) (cs : List (Int × Int × Int)) (win : Int) (w : World) (hn : cs.length = n) (hc : ClRow w A cs) :
    Calls Tryz.prog 6 #[.slice A n cc, .int .i64 win] w (NewP w cs win) := by
  by_cases h : 64 < n ∨ win < 0 ∨ 1125899906842624 < win
  · exact new_long A cc n cs win w hn h
  · exact new_gen A cc n cs win w hn hc (by omega) (by omega) (by omega)
theorem RdAt.ft {w w' : World} {A : Option Addr} {xs : List In} {F : Nat → Prop} (h : RdAt w A xs) (k : Ft w w' F) (hF : ∀ b f, A = some ⟨b, f, none⟩ → ¬ F b) : RdAt w' A xs := by
  refine h.imp id ?_
  rintro ⟨b, off, h3, h4, h5⟩
  exact ⟨b, off, h3, Nat.lt_of_lt_of_le h4 k.size, fun i e he j hj => (World.cell?_of_block (k.block b h4 (hF b off h3))).trans (h5 i e he j hj)⟩
theorem RdAt.lt {w : World} {A : Option Addr} {xs : List In} (h : RdAt w A xs) (hx : 0 < xs.length) : ∀ b f, A = some ⟨b, f, none⟩ → b < w.heap.size := fun b f e => by
  rcases h with h | ⟨b', off, h3, h4, -⟩
  · rw [h] at hx; simp at hx
  · rw [h3] at e; injection e with e; injection e with e; omega
theorem JR.bnd {W : World} {x B : Nat} {a : Jn} {sns : List Sn} {xs tx : List El} {k : Nat} (h : JR W x B a sns xs tx k) {l : Nat} (hl : l ≤ x ∧ ∀ g, a.sen.ownBlock = some g → l ≤ g) {c : Nat} (hc : c = x ∨ a.sen.ownBlock = some c ∨ a.wait.ownBlock = some c) : l ≤ c := by
  have hB := h.inv.xB
  rcases hc with q | q | q
  · omega
  · exact hl.2 c q
  · have := (h.inv.row.lt q).1; omega
theorem Out.no {x : Nat} {a : Jn} {xs : List El} {c : Nat} (h : Out x a xs c) : ¬ (c = x ∨ a.sen.ownBlock = some c ∨ a.wait.ownBlock = some c) := by
  obtain ⟨o1, o2, o3, -⟩ := h
  rintro (q | q | q)
  · exact o1 q
  · exact o2 q
  · exact o3 q
theorem JR.other {W W2 : World} {x y By : Nat} {jx jy : Jn} {sns : List Sn} {xs ys ty : List El} {k : Nat} (hy : JR W y By jy sns ys ty k) (ap : ∀ b, Out x jx xs b ∨ Out y jy ys b) (hf : Ft W W2 (fun b => b = x ∨ jx.sen.ownBlock = some b ∨ jx.wait.ownBlock = some b)) : JR W2 y By jy sns ys ty k :=
  hy.ft hf (fun b hb => (ap b).resolve_left (fun ho => by
    rcases hb with q | q | q
    · exact ho.1 q
    · exact ho.2.1 q
    · exact ho.2.2.1 q))
end Go.Proofs.YtebacmmfjadalaaGreat
