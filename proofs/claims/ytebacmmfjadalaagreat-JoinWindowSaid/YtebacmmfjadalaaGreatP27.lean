/- V2 in one text. -/
import Derived.Test.YtebacmmfjadalaaGreatP13
import Derived.Test.YtebacmmfjadalaaGreatP21
import Derived.Test.YtebacmmfjadalaaGreatP26
import Derived.Test.YtebacmmfjadalaaGreatP24

namespace Go.Proofs.YtebacmmfjadalaaGreat
open Go Go.RowKit Go.WideShapes

/-- what the reference knows of a sensor -/
structure OS where
  last : Int
  top : Int
  any : Bool
  tv : Value
  ts : List Int
def OS.row (o : OS) : List Value := [.int .i64 o.last, .int .u32 o.top, .bool o.any, o.tv]
/-- the reference's joiner -/
structure OJ where
  cl : Value
  win : Int
  sen : Value
  wait : Value
  top : Int
  any : Bool
  bound : Int
  ct : Int
  cd : Int
  co : Int
  cl2 : Int
  cs : Int
def OJ.row (o : OJ) : List Value := [o.cl, .int .i64 o.win, o.sen, o.wait, .int .i64 o.top, .bool o.any, .int .i64 o.bound, .int .i64 o.ct, .int .i64 o.cd, .int .i64 o.co, .int .i64 o.cl2, .int .i64 o.cs]
def OJAt (w : World) (y : Nat) (o : OJ) : Prop := ∀ i, i < 12 → w.cell? ⟨y, i, none⟩ = o.row[i]?
def OSAt (w : World) (sb : Nat) (oss : List OS) : Prop := ∀ i s, oss[i]? = some s → ∀ j, j < 4 → w.cell? ⟨sb, i * 4 + j, none⟩ = s.row[j]?
/-- numbers in a row of the call's own -/
def NRow (B : Nat) (w : World) (v : Value) (ts : List Int) : Prop := w.ownsRow B 32 1 v ts.length (ts.map (fun x => .int .u32 x))
theorem NRow.keep {B : Nat} {w w' : World} {v : Value} {ts : List Int} (h : NRow B w v ts) (e : ∀ k, v.ownBlock = some k → k < w.heap.size → w'.heap[k]? = w.heap[k]?) : NRow B w' v ts := by
  refine ⟨h.1, ?_⟩
  rcases h.2 with hn | ⟨g, cap, cur, hv, h1, h2, h3⟩
  · exact .inl hn
  · exact .inr ⟨g, cap, cur, hv, h1, (e g (by rw [hv]; rfl) (Array.getElem?_eq_some_iff.1 h2).1).trans h2, h3⟩
theorem NRow.lt {B : Nat} {w : World} {v : Value} {ts : List Int} (h : NRow B w v ts) {g : Nat} (hg : v.ownBlock = some g) : B ≤ g ∧ g < w.heap.size := by
  rcases h.2 with ⟨h3, -⟩ | ⟨g', cap, cur, h3, h4, h5, -⟩
  · rw [h3] at hg; simp [Value.ownBlock] at hg
  · rw [h3] at hg
    simp only [Value.ownBlock] at hg
    injection hg with hg
    subst hg
    exact ⟨h4, (Array.getElem?_eq_some_iff.1 h5).1⟩
theorem NRow.slice {B : Nat} {w : World} {v : Value} {ts : List Int} (h : NRow B w v ts) : ∃ A c, v = .slice A ts.length c := by
  rcases h.2 with ⟨hn, h0⟩ | ⟨g, cap, cur, hv, -⟩
  · exact ⟨none, 0, by rw [hn, h0]⟩
  · exact ⟨_, _, hv⟩
theorem NRow.num {B : Nat} {w : World} {A : Option Addr} {n c : Nat} {ts : List Int} (h : NRow B w (.slice A n c) ts) : NumAt w A n ts := by
  have h0 := h
  rcases h.2 with ⟨h1, h2⟩ | ⟨g, cap, cur, h1, h2, h3, -⟩
  · injection h1 with e1 e2 e3
    subst e2
    exact ⟨h2, .inl rfl⟩
  · injection h1 with e1 e2 e3
    subst e1 e2 e3
    refine ⟨rfl, .inr ⟨g, 0, rfl, (Array.getElem?_eq_some_iff.1 h3).1, fun i hi => ?_⟩⟩
    have := World.ownsRow.cellAt h0 i (by omega)
    rw [Nat.zero_add, this, List.getElem?_map, List.getElem?_eq_getElem hi]
    simp [List.getD_eq_getElem?_getD, hi]
/-- the blocks that are the joiner's -/
def FO (y sb : Nat) (o : OJ) (oss : List OS) (b : Nat) : Prop := b = y ∨ b = sb ∨ (∃ s ∈ oss, s.tv.ownBlock = some b) ∨ o.wait.ownBlock = some b
/-- a block is none of the joiner's -/
structure OutO (y sb : Nat) (o : OJ) (oss : List OS) (ys : List El) (b : Nat) : Prop where
  own : ¬ FO y sb o oss b
  val : ∀ e ∈ ys, Away e (some b)
/-- the reference's joiner at y, its sensors in sb, all else that is its own in blocks from B on -/
structure OI (W : World) (y sb B : Nat) (o : OJ) (oss : List OS) (ys : List El) : Prop where
  at_ : OJAt W y o
  sen : ∃ A c, o.sen = .slice A oss.length c ∧ (oss.length = 0 ∨ A = some ⟨sb, 0, none⟩)
  sn : OSAt W sb oss
  row : Row B W o.wait ys
  nums : ∀ s ∈ oss, NRow B W s.tv s.ts
  two : ∀ (i k : Nat) (s t : OS) (g : Nat), oss[i]? = some s → oss[k]? = some t → s.tv.ownBlock = some g → t.tv.ownBlock = some g → i = k
  apart : ∀ s ∈ oss, ∀ g, s.tv.ownBlock = some g → o.wait.ownBlock ≠ some g
  vals : ∀ e ∈ ys, ElOk W e ∧ W32 e ∧ Away e o.wait.ownBlock ∧ (∀ s ∈ oss, Away e s.tv.ownBlock) ∧ (∀ b f, e.v = some ⟨b, f, none⟩ → B ≤ b)
  fy : ∀ i, W.frozen? ⟨y, i, none⟩ = false
  fs : ∀ i, W.frozen? ⟨sb, i, none⟩ = false
  big : B ≤ W.heap.size
  yB : y < B
  sB : sb < B
  ne : y ≠ sb
theorem OI.lt {W : World} {y sb B : Nat} {o : OJ} {oss : List OS} {ys : List El} (h : OI W y sb B o oss ys) {b : Nat} (hb : FO y sb o oss b) : b < W.heap.size := by
  rcases hb with hb | hb | ⟨s, hs, hb⟩ | hb
  · have := h.yB; have := h.big; omega
  · have := h.sB; have := h.big; omega
  · exact ((h.nums s hs).lt hb).2
  · exact (h.row.lt hb).2
/-- what turns none of its blocks keeps it -/
theorem OI.ft {W W' : World} {y sb B : Nat} {o : OJ} {oss : List OS} {ys : List El} {F : Nat → Prop} (h : OI W y sb B o oss ys) (k : Ft W W' F) (hF : ∀ b, F b → OutO y sb o oss ys b) : OI W' y sb B o oss ys := by
  have hb : ∀ b, FO y sb o oss b → W'.heap[b]? = W.heap[b]? := fun b hb => k.block b (h.lt hb) (fun hf => (hF b hf).own hb)
  have ey := hb y (.inl rfl)
  have es := hb sb (.inr (.inl rfl))
  refine ⟨fun i hi => (World.cell?_of_block ey).trans (h.at_ i hi), h.sen, fun i s hs j hj => (World.cell?_of_block es).trans (h.sn i s hs j hj), ?_, fun s hs => (h.nums s hs).keep (fun g hg _ => hb g (.inr (.inr (.inl ⟨s, hs, hg⟩)))), h.two, h.apart, fun e he => ?_, fun i => (World.frozen?_of_block ey).trans (h.fy i), fun i => (World.frozen?_of_block es).trans (h.fs i), Nat.le_trans h.big k.size, h.yB, h.sB, h.ne⟩
  · exact h.row.keep (fun g hg _ => hb g (.inr (.inr (.inr hg))))
  · obtain ⟨h1, h2⟩ := h.vals e he
    exact ⟨h1.ft k (fun b f hv hf => (hF b hf).val e he b f hv rfl), h2⟩
theorem OI.below {W W' : World} {y sb B : Nat} {o : OJ} {oss : List OS} {ys : List El} (h : OI W y sb B o oss ys) (hb : Below W.heap.size W W') : OI W' y sb B o oss ys := h.ft (Ft.of_below hb (fun _ => False)) (fun _ hb => hb.elim)
theorem OI.out {W : World} {y sb B : Nat} {o : OJ} {oss : List OS} {ys : List El} (h : OI W y sb B o oss ys) {b : Nat} (hb : W.heap.size ≤ b) : OutO y sb o oss ys b :=
  ⟨fun q => by have := h.lt q; omega, fun e he => Away.new (h.vals e he).1 hb⟩
/-- a cell of the joiner's own is set -/
theorem OI.cell {W : World} {y sb B : Nat} {o o' : OJ} {oss : List OS} {ys : List El} (h : OI W y sb B o oss ys) {i : Nat} {u : Value} (hi : i < 12) (hr : o'.row = o.row.set i u) (e1 : o'.sen = o.sen) (e2 : o'.wait = o.wait) : OI (W.setCell ⟨y, i, none⟩ u) y sb B o' oss ys := by
  have hk : Ft W (W.setCell ⟨y, i, none⟩ u) (fun b => b = y) := (Ft.of_below (Below.refl _ W) (fun b => b = y)).set (p := ⟨y, i, none⟩) rfl u
  have hb : ∀ b, b ≠ y → (W.setCell ⟨y, i, none⟩ u).heap[b]? = W.heap[b]? := fun b hb => by
    simp only [World.setCell, Array.getElem?_modify]
    rw [if_neg (by intro e; exact hb e.symm)]
  have es := hb sb (fun e => h.ne e.symm)
  have hy := h.yB
  refine ⟨fun k hk => ?_, by rw [e1]; exact h.sen, fun i s hs j hj => (World.cell?_of_block es).trans (h.sn i s hs j hj), ?_, fun s hs => (h.nums s hs).keep (fun g hg _ => hb g (by have := ((h.nums s hs).lt hg).1; omega)), h.two, by rw [e2]; exact h.apart, fun e he => ?_, fun k => ?_, fun i => (World.frozen?_of_block es).trans (h.fs i), Nat.le_trans h.big hk.size, h.yB, h.sB, h.ne⟩
  · rw [hr]
    have hl : o.row.length = 12 := rfl
    have h1 := h.at_ k hk
    by_cases e : k = i
    · subst e
      rw [List.getElem?_set_self (by omega)]
      rw [List.getElem?_eq_getElem (by omega)] at h1
      exact set_self h1
    · rw [List.getElem?_set_ne (fun q => e q.symm)]
      exact (set_ne (fun q => e q.symm)).trans h1
  · rw [e2]
    exact h.row.keep (fun g hg _ => hb g (by have := (h.row.lt hg).1; omega))
  · obtain ⟨h1, h2, h3, h4, h5⟩ := h.vals e he
    rw [e2]
    exact ⟨h1.ft hk (fun b f hv hf => by have := h5 b f hv; omega), h2, h3, h4, h5⟩
  · rw [← h.fy k]; simp [go_sem]
/-- a cell of a sensor is set -/
theorem OI.sens {W : World} {y sb B : Nat} {o : OJ} {oss : List OS} {ys : List El} (h : OI W y sb B o oss ys) {i j : Nat} {s s' : OS} {u : Value} (hs : oss[i]? = some s) (hj : j < 4) (hr : s'.row = s.row.set j u) (e1 : s'.tv = s.tv) (e2 : s'.ts = s.ts) : OI (W.setCell ⟨sb, i * 4 + j, none⟩ u) y sb B o (oss.set i s') ys := by
  have hk : Ft W (W.setCell ⟨sb, i * 4 + j, none⟩ u) (fun b => b = sb) := (Ft.of_below (Below.refl _ W) (fun b => b = sb)).set (p := ⟨sb, i * 4 + j, none⟩) rfl u
  have hb : ∀ b, b ≠ sb → (W.setCell ⟨sb, i * 4 + j, none⟩ u).heap[b]? = W.heap[b]? := fun b hb => by
    simp only [World.setCell, Array.getElem?_modify]
    rw [if_neg (by intro e; exact hb e.symm)]
  have ey := hb y h.ne
  have hsb := h.sB
  have hil : i < oss.length := (List.getElem?_eq_some_iff.1 hs).1
  have hget : ∀ (k : Nat) (t : OS), (oss.set i s')[k]? = some t → ∃ t0, oss[k]? = some t0 ∧ t.tv = t0.tv ∧ t.ts = t0.ts := fun k t hk => by
    by_cases e : k = i
    · subst e
      rw [List.getElem?_set_self hil] at hk
      injection hk with hk
      exact ⟨s, hs, by rw [← hk]; exact e1, by rw [← hk]; exact e2⟩
    · rw [List.getElem?_set_ne (fun q => e q.symm)] at hk
      exact ⟨t, hk, rfl, rfl⟩
  have hmem : ∀ t ∈ oss.set i s', ∃ t0 ∈ oss, t.tv = t0.tv ∧ t.ts = t0.ts := fun t ht => by
    obtain ⟨k, hk⟩ := List.mem_iff_getElem?.1 ht
    obtain ⟨t0, h1, h2⟩ := hget k t hk
    exact ⟨t0, List.mem_of_getElem? h1, h2⟩
  refine ⟨fun k hk => (World.cell?_of_block ey).trans (h.at_ k hk), by rw [List.length_set]; exact h.sen, fun k t ht m hm => ?_, ?_, fun t ht => ?_, fun a c t1 t2 g q1 q2 q3 q4 => ?_, fun t ht g hg => ?_, fun e he => ?_, fun k => (World.frozen?_of_block ey).trans (h.fy k), fun k => ?_, Nat.le_trans h.big hk.size, h.yB, h.sB, h.ne⟩
  · by_cases e : k = i
    · subst e
      rw [List.getElem?_set_self hil] at ht
      injection ht with ht
      rw [← ht, hr]
      have hl : s.row.length = 4 := rfl
      have h1 := h.sn k s hs m hm
      by_cases e : m = j
      · subst e
        rw [List.getElem?_set_self (by omega)]
        rw [List.getElem?_eq_getElem (by omega)] at h1
        exact set_self h1
      · rw [List.getElem?_set_ne (fun q => e q.symm)]
        exact (set_ne (by omega)).trans h1
    · rw [List.getElem?_set_ne (fun q => e q.symm)] at ht
      exact (set_ne (by omega)).trans (h.sn k t ht m hm)
  · exact h.row.keep (fun g hg _ => hb g (by have := (h.row.lt hg).1; omega))
  · obtain ⟨t0, h1, h2, h3⟩ := hmem t ht
    rw [h2, h3]
    exact (h.nums t0 h1).keep (fun g hg _ => hb g (by have := ((h.nums t0 h1).lt hg).1; omega))
  · obtain ⟨u1, p1, p2, -⟩ := hget a t1 q1
    obtain ⟨u2, p3, p4, -⟩ := hget c t2 q2
    rw [p2] at q3
    rw [p4] at q4
    exact h.two a c u1 u2 g p1 p3 q3 q4
  · obtain ⟨t0, h1, h2, -⟩ := hmem t ht
    rw [h2] at hg
    exact h.apart t0 h1 g hg
  · obtain ⟨h1, h2, h3, h4, h5⟩ := h.vals e he
    refine ⟨h1.ft hk (fun b f hv hf => by have := h5 b f hv; omega), h2, h3, fun t ht => ?_, h5⟩
    obtain ⟨t0, p1, p2, -⟩ := hmem t ht
    rw [p2]
    exact h4 t0 p1
  · rw [← h.fs k]; simp [go_sem]
end Go.Proofs.YtebacmmfjadalaaGreat
