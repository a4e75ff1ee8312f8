/- V2 U2 U3 in one text. -/
import Derived.Test.YtebacmmfjadalaaGreatP13
import Derived.Test.YtebacmmfjadalaaGreatP21
import Derived.Test.YtebacmmfjadalaaGreatP26
import Derived.Test.YtebacmmfjadalaaGreatP24
import Derived.Shelf.SlicesE.Clone
import Derived.Deep.RegionHeld3
import Derived.Deep.DeepCutAuto

namespace Go.Proofs.YtebacmmfjadalaaGreat
open Go Go.RowKit Go.WideShapes

/-- what the reference knows of a sensor -/
structure OS where
  last : Int
  top : Int
  any : Bool
  tv : Value
  ts : List Int
def OS.row (o : OS) : List Value := [.int .i64 o.last, .int .u32 o.top, .bool o.any, o.tv]
/-- the reference's joiner -/
structure OJ where
  cl : Value
  win : Int
  sen : Value
  wait : Value
  top : Int
  any : Bool
  bound : Int
  ct : Int
  cd : Int
  co : Int
  cl2 : Int
  cs : Int
def OJ.row (o : OJ) : List Value := [o.cl, .int .i64 o.win, o.sen, o.wait, .int .i64 o.top, .bool o.any, .int .i64 o.bound, .int .i64 o.ct, .int .i64 o.cd, .int .i64 o.co, .int .i64 o.cl2, .int .i64 o.cs]
def OJAt (w : World) (y : Nat) (o : OJ) : Prop := ∀ i, i < 12 → w.cell? ⟨y, i, none⟩ = o.row[i]?
def OSAt (w : World) (sb : Nat) (oss : List OS) : Prop := ∀ i s, oss[i]? = some s → ∀ j, j < 4 → w.cell? ⟨sb, i * 4 + j, none⟩ = s.row[j]?
/-- numbers in a row of the call's own -/
def NRow (B : Nat) (w : World) (v : Value) (ts : List Int) : Prop := w.ownsRow B 32 1 v ts.length (ts.map (fun x => .int .u32 x))
theorem NRow.keep {B : Nat} {w w' : World} {v : Value} {ts : List Int} (h : NRow B w v ts) (e : ∀ k, v.ownBlock = some k → k < w.heap.size → w'.heap[k]? = w.heap[k]?) : NRow B w' v ts := by
  refine ⟨h.1, ?_⟩
  rcases h.2 with hn | ⟨g, cap, cur, hv, h1, h2, h3⟩
  · exact .inl hn
  · exact .inr ⟨g, cap, cur, hv, h1, (e g (by rw [hv]; rfl) (Array.getElem?_eq_some_iff.1 h2).1).trans h2, h3⟩
theorem NRow.lt {B : Nat} {w : World} {v : Value} {ts : List Int} (h : NRow B w v ts) {g : Nat} (hg : v.ownBlock = some g) : B ≤ g ∧ g < w.heap.size := by
  rcases h.2 with ⟨h3, -⟩ | ⟨g', cap, cur, h3, h4, h5, -⟩
  · rw [h3] at hg; simp [Value.ownBlock] at hg
  · rw [h3] at hg
    simp only [Value.ownBlock] at hg
    injection hg with hg
    subst hg
    exact ⟨h4, (Array.getElem?_eq_some_iff.1 h5).1⟩
theorem NRow.slice {B : Nat} {w : World} {v : Value} {ts : List Int} (h : NRow B w v ts) : ∃ A c, v = .slice A ts.length c := by
  rcases h.2 with ⟨hn, h0⟩ | ⟨g, cap, cur, hv, -⟩
  · exact ⟨none, 0, by rw [hn, h0]⟩
  · exact ⟨_, _, hv⟩
theorem NRow.num {B : Nat} {w : World} {A : Option Addr} {n c : Nat} {ts : List Int} (h : NRow B w (.slice A n c) ts) : NumAt w A n ts := by
  have h0 := h
  rcases h.2 with ⟨h1, h2⟩ | ⟨g, cap, cur, h1, h2, h3, -⟩
  · injection h1 with e1 e2 e3
    subst e2
    exact ⟨h2, .inl rfl⟩
  · injection h1 with e1 e2 e3
    subst e1 e2 e3
    refine ⟨rfl, .inr ⟨g, 0, rfl, (Array.getElem?_eq_some_iff.1 h3).1, fun i hi => ?_⟩⟩
    have := World.ownsRow.cellAt h0 i (by omega)
    rw [Nat.zero_add, this, List.getElem?_map, List.getElem?_eq_getElem hi]
    simp [List.getD_eq_getElem?_getD, hi]
/-- the blocks that are the joiner's -/
def FO (y sb : Nat) (o : OJ) (oss : List OS) (b : Nat) : Prop := b = y ∨ b = sb ∨ (∃ s ∈ oss, s.tv.ownBlock = some b) ∨ o.wait.ownBlock = some b
/-- a block is none of the joiner's -/
structure OutO (y sb : Nat) (o : OJ) (oss : List OS) (ys : List El) (b : Nat) : Prop where
  own : ¬ FO y sb o oss b
  val : ∀ e ∈ ys, Away e (some b)
/-- the reference's joiner at y, its sensors in sb, all else that is its own in blocks from B on -/
structure OI (W : World) (y sb B : Nat) (o : OJ) (oss : List OS) (ys : List El) : Prop where
  at_ : OJAt W y o
  sen : ∃ A c, o.sen = .slice A oss.length c ∧ (oss.length = 0 ∨ A = some ⟨sb, 0, none⟩)
  sn : OSAt W sb oss
  row : Row B W o.wait ys
  nums : ∀ s ∈ oss, NRow B W s.tv s.ts
  two : ∀ (i k : Nat) (s t : OS) (g : Nat), oss[i]? = some s → oss[k]? = some t → s.tv.ownBlock = some g → t.tv.ownBlock = some g → i = k
  apart : ∀ s ∈ oss, ∀ g, s.tv.ownBlock = some g → o.wait.ownBlock ≠ some g
  vals : ∀ e ∈ ys, ElOk W e ∧ W32 e ∧ Away e o.wait.ownBlock ∧ (∀ s ∈ oss, Away e s.tv.ownBlock) ∧ (∀ b f, e.v = some ⟨b, f, none⟩ → B ≤ b)
  fy : ∀ i, W.frozen? ⟨y, i, none⟩ = false
  fs : ∀ i, W.frozen? ⟨sb, i, none⟩ = false
  big : B ≤ W.heap.size
  yB : y < B
  sB : sb < B
  ne : y ≠ sb
theorem OI.lt {W : World} {y sb B : Nat} {o : OJ} {oss : List OS} {ys : List El} (h : OI W y sb B o oss ys) {b : Nat} (hb : FO y sb o oss b) : b < W.heap.size := by
  rcases hb with hb | hb | ⟨s, hs, hb⟩ | hb
  · have := h.yB; have := h.big; omega
  · have := h.sB; have := h.big; omega
  · exact ((h.nums s hs).lt hb).2
  · exact (h.row.lt hb).2
/-- what turns none of its blocks keeps it -/
theorem OI.ft {W W' : World} {y sb B : Nat} {o : OJ} {oss : List OS} {ys : List El} {F : Nat → Prop} (h : OI W y sb B o oss ys) (k : Ft W W' F) (hF : ∀ b, F b → OutO y sb o oss ys b) : OI W' y sb B o oss ys := by
  have hb : ∀ b, FO y sb o oss b → W'.heap[b]? = W.heap[b]? := fun b hb => k.block b (h.lt hb) (fun hf => (hF b hf).own hb)
  have ey := hb y (.inl rfl)
  have es := hb sb (.inr (.inl rfl))
  refine ⟨fun i hi => (World.cell?_of_block ey).trans (h.at_ i hi), h.sen, fun i s hs j hj => (World.cell?_of_block es).trans (h.sn i s hs j hj), ?_, fun s hs => (h.nums s hs).keep (fun g hg _ => hb g (.inr (.inr (.inl ⟨s, hs, hg⟩)))), h.two, h.apart, fun e he => ?_, fun i => (World.frozen?_of_block ey).trans (h.fy i), fun i => (World.frozen?_of_block es).trans (h.fs i), Nat.le_trans h.big k.size, h.yB, h.sB, h.ne⟩
  · exact h.row.keep (fun g hg _ => hb g (.inr (.inr (.inr hg))))
  · obtain ⟨h1, h2⟩ := h.vals e he
    exact ⟨h1.ft k (fun b f hv hf => (hF b hf).val e he b f hv rfl), h2⟩
theorem OI.below {W W' : World} {y sb B : Nat} {o : OJ} {oss : List OS} {ys : List El} (h : OI W y sb B o oss ys) (hb : Below W.heap.size W W') : OI W' y sb B o oss ys := h.ft (Ft.of_below hb (fun _ => False)) (fun _ hb => hb.elim)
theorem OI.out {W : World} {y sb B : Nat} {o : OJ} {oss : List OS} {ys : List El} (h : OI W y sb B o oss ys) {b : Nat} (hb : W.heap.size ≤ b) : OutO y sb o oss ys b :=
  ⟨fun q => by have := h.lt q; omega, fun e he => Away.new (h.vals e he).1 hb⟩
/-- a cell of the joiner's own is set -/
theorem OI.cell {W : World} {y sb B : Nat} {o o' : OJ} {oss : List OS} {ys : List El} (h : OI W y sb B o oss ys) {i : Nat} {u : Value} (hi : i < 12) (hr : o'.row = o.row.set i u) (e1 : o'.sen = o.sen) (e2 : o'.wait = o.wait) : OI (W.setCell ⟨y, i, none⟩ u) y sb B o' oss ys := by
  have hk : Ft W (W.setCell ⟨y, i, none⟩ u) (fun b => b = y) := (Ft.of_below (Below.refl _ W) (fun b => b = y)).set (p := ⟨y, i, none⟩) rfl u
  have hb : ∀ b, b ≠ y → (W.setCell ⟨y, i, none⟩ u).heap[b]? = W.heap[b]? := fun b hb => by
    simp only [World.setCell, Array.getElem?_modify]
    rw [if_neg (by intro e; exact hb e.symm)]
  have es := hb sb (fun e => h.ne e.symm)
  have hy := h.yB
  refine ⟨fun k hk => ?_, by rw [e1]; exact h.sen, fun i s hs j hj => (World.cell?_of_block es).trans (h.sn i s hs j hj), ?_, fun s hs => (h.nums s hs).keep (fun g hg _ => hb g (by have := ((h.nums s hs).lt hg).1; omega)), h.two, by rw [e2]; exact h.apart, fun e he => ?_, fun k => ?_, fun i => (World.frozen?_of_block es).trans (h.fs i), Nat.le_trans h.big hk.size, h.yB, h.sB, h.ne⟩
  · rw [hr]
    have hl : o.row.length = 12 := rfl
    have h1 := h.at_ k hk
    by_cases e : k = i
    · subst e
      rw [List.getElem?_set_self (by omega)]
      rw [List.getElem?_eq_getElem (by omega)] at h1
      exact set_self h1
    · rw [List.getElem?_set_ne (fun q => e q.symm)]
      exact (set_ne (fun q => e q.symm)).trans h1
  · rw [e2]
    exact h.row.keep (fun g hg _ => hb g (by have := (h.row.lt hg).1; omega))
  · obtain ⟨h1, h2, h3, h4, h5⟩ := h.vals e he
    rw [e2]
    exact ⟨h1.ft hk (fun b f hv hf => by have := h5 b f hv; omega), h2, h3, h4, h5⟩
  · rw [← h.fy k]; simp [go_sem]
/-- a cell of a sensor is set -/
theorem OI.sens {W : World} {y sb B : Nat} {o : OJ} {oss : List OS} {ys : List El} (h : OI W y sb B o oss ys) {i j : Nat} {s s' : OS} {u : Value} (hs : oss[i]? = some s) (hj : j < 4) (hr : s'.row = s.row.set j u) (e1 : s'.tv = s.tv) (e2 : s'.ts = s.ts) : OI (W.setCell ⟨sb, i * 4 + j, none⟩ u) y sb B o (oss.set i s') ys := by
  have hk : Ft W (W.setCell ⟨sb, i * 4 + j, none⟩ u) (fun b => b = sb) := (Ft.of_below (Below.refl _ W) (fun b => b = sb)).set (p := ⟨sb, i * 4 + j, none⟩) rfl u
  have hb : ∀ b, b ≠ sb → (W.setCell ⟨sb, i * 4 + j, none⟩ u).heap[b]? = W.heap[b]? := fun b hb => by
    simp only [World.setCell, Array.getElem?_modify]
    rw [if_neg (by intro e; exact hb e.symm)]
  have ey := hb y h.ne
  have hsb := h.sB
  have hil : i < oss.length := (List.getElem?_eq_some_iff.1 hs).1
  have hget : ∀ (k : Nat) (t : OS), (oss.set i s')[k]? = some t → ∃ t0, oss[k]? = some t0 ∧ t.tv = t0.tv ∧ t.ts = t0.ts := fun k t hk => by
    by_cases e : k = i
    · subst e
      rw [List.getElem?_set_self hil] at hk
      injection hk with hk
      exact ⟨s, hs, by rw [← hk]; exact e1, by rw [← hk]; exact e2⟩
    · rw [List.getElem?_set_ne (fun q => e q.symm)] at hk
      exact ⟨t, hk, rfl, rfl⟩
  have hmem : ∀ t ∈ oss.set i s', ∃ t0 ∈ oss, t.tv = t0.tv ∧ t.ts = t0.ts := fun t ht => by
    obtain ⟨k, hk⟩ := List.mem_iff_getElem?.1 ht
    obtain ⟨t0, h1, h2⟩ := hget k t hk
    exact ⟨t0, List.mem_of_getElem? h1, h2⟩
  refine ⟨fun k hk => (World.cell?_of_block ey).trans (h.at_ k hk), by rw [List.length_set]; exact h.sen, fun k t ht m hm => ?_, ?_, fun t ht => ?_, fun a c t1 t2 g q1 q2 q3 q4 => ?_, fun t ht g hg => ?_, fun e he => ?_, fun k => (World.frozen?_of_block ey).trans (h.fy k), fun k => ?_, Nat.le_trans h.big hk.size, h.yB, h.sB, h.ne⟩
  · by_cases e : k = i
    · subst e
      rw [List.getElem?_set_self hil] at ht
      injection ht with ht
      rw [← ht, hr]
      have hl : s.row.length = 4 := rfl
      have h1 := h.sn k s hs m hm
      by_cases e : m = j
      · subst e
        rw [List.getElem?_set_self (by omega)]
        rw [List.getElem?_eq_getElem (by omega)] at h1
        exact set_self h1
      · rw [List.getElem?_set_ne (fun q => e q.symm)]
        exact (set_ne (by omega)).trans h1
    · rw [List.getElem?_set_ne (fun q => e q.symm)] at ht
      exact (set_ne (by omega)).trans (h.sn k t ht m hm)
  · exact h.row.keep (fun g hg _ => hb g (by have := (h.row.lt hg).1; omega))
  · obtain ⟨t0, h1, h2, h3⟩ := hmem t ht
    rw [h2, h3]
    exact (h.nums t0 h1).keep (fun g hg _ => hb g (by have := ((h.nums t0 h1).lt hg).1; omega))
  · obtain ⟨u1, p1, p2, -⟩ := hget a t1 q1
    obtain ⟨u2, p3, p4, -⟩ := hget c t2 q2
    rw [p2] at q3
    rw [p4] at q4
    exact h.two a c u1 u2 g p1 p3 q3 q4
  · obtain ⟨t0, h1, h2, -⟩ := hmem t ht
    rw [h2] at hg
    exact h.apart t0 h1 g hg
  · obtain ⟨h1, h2, h3, h4, h5⟩ := h.vals e he
    refine ⟨h1.ft hk (fun b f hv hf => by have := h5 b f hv; omega), h2, h3, fun t ht => ?_, h5⟩
    obtain ⟨t0, p1, p2, -⟩ := hmem t ht
    rw [p2]
    exact h4 t0 p1
  · rw [← h.fs k]; simp [go_sem]
end Go.Proofs.YtebacmmfjadalaaGreat

namespace Go.Proofs.YtebacmmfjadalaaGreat
open Go Go.RowKit Go.WideShapes

def laysSn_ren : Go.Shelf.Ren := ⟨fun | 41 => 44 | n => n, fun | 22 => 74 | 23 => 81 | 4 => 4 | n => n, fun | n => n⟩
theorem laysSn : Go.Proofs.SlLaysE0.n41 Tryz.prog laysSn_ren := {
  mixed := by kernel_rfl
  f41 := ⟨Tryz.f44.name, by decide, Tryz.func44.trans (congrArg some (by kernel_rfl))⟩
  t4 := Tryz.underlying4
  a4 := Tryz.isAgg4
  z4 := Tryz.sizeOf4
  v4 := Tryz.zeroValue4
  t22 := Tryz.underlying74
  a22 := Tryz.isAgg74
  z22 := Tryz.sizeOf74
  v22 := Tryz.zeroValue74 }
theorem sizeSn (w : World) : (Go.sizeOf 81).run Tryz.prog w = .ok 7 w := by kernel_rfl
theorem clone_sn (B : Nat) (v : Value) (xs : List Sn) (w : World) (h : SRow B w v xs) (hl : xs.length ≤ 64) :
    Calls Tryz.prog 44 #[v] w fun e w' => ∃ v', e = .returned v' ∧ SRow w.heap.size w' v' xs ∧ Below w.heap.size w w' := by
  have h0 := h
  rcases h.2 with ⟨hn, hx⟩ | ⟨g, cap, cur, hv, h1, h2, h3⟩
  · subst hn
    have hxs : xs = [] := List.length_eq_zero_iff.1 hx
    subst hxs
    refine (AnyE.slices_Clone_nil laysSn 0 0 w).mono ?_
    rintro e w1 ⟨rfl, rfl⟩
    exact ⟨_, rfl, World.ownsRow_nil _ _ _ _, Below.refl _ _⟩
  · subst hv
    obtain ⟨i0, hi0, hz0, hz1, hz2⟩ := info_parts infoSn
    refine (AnyE.slices_Clone laysSn i0 _ 7 48 hi0 hz0 hz1 hz2 rfl (by omega) sizeSn g 0 xs.length cap (flat7 xs) w (flat7_len xs) (by simp only [maxLen]; omega) (by omega) (fun j u hj => ?_) (flat7_one xs)).mono ?_
    · have hj' := (List.getElem?_eq_some_iff.1 hj).1
      rw [flat7_len] at hj'
      rw [Nat.zero_add]
      exact (World.ownsRow.cellAt h0 j (by omega)).trans hj
    · rintro e w1 ⟨v', rfl, hv, -, hb⟩
      exact ⟨v', rfl, hv, hb⟩

/-- whether a number was taken -/
def seenB (sns : List Sn) (se sq : Int) : Bool := if se < 0 then false else match sns[se.toNat]? with | none => false | some s => known s sq
set_option maxRecDepth 8000 in
set_option maxHeartbeats 4000000 in
theorem seen_any (x B : Nat) (j : Jn) (sns : List Sn) (xs : List El) (se sq : Int) (w : World) (hi : Inv w w x B j sns xs) (hok : ∀ s ∈ sns, SnOk s) (q0 : 0 ≤ sq) (q1 : sq ≤ 4294967295) :
    Calls Tryz.prog 47 #[.pointer (some ⟨x, 0, none⟩), .int .i64 se, .int .u32 sq] w fun e w' => e = .returned (.bool (seenB sns se sq)) ∧ Below w.heap.size w w' := by
  obtain ⟨S, win, V, sm, top, hor, ct, cd, co, cl, cs⟩ := j
  have g0 := hi.jn.1
  have g11 := hi.jn.2.2.2.2.2.2.2
  simp only at g0 g11
  unfold seenB
  by_cases c0 : se < 0
  · rw [if_pos c0]
    clear hi
    go_enter Tryz.func47, Tryz.ntmps47
    go_wp2_with fail
    refine (ready_any x true w g11).mono ?_
    rintro e w1 ⟨rfl, rfl⟩
    go_wp2_with fail
    go_ret
    exact ⟨rfl, Below.refl _ _⟩
  rw [if_neg c0]
  obtain ⟨sN, rfl⟩ := Int.eq_ofNat_of_zero_le (show 0 ≤ se by omega)
  rw [Int.toNat_natCast]
  obtain ⟨SA, SC, hS⟩ := hi.sn.slice
  simp only at hS
  obtain ⟨snl, hsnl⟩ : ∃ y, sns.length = y := ⟨_, rfl⟩
  cases hs : sns[sN]? with
  | none =>
    simp only
    have hle : (snl : Int) ≤ (sN : Int) := by have := List.getElem?_eq_none_iff.1 hs; omega
    subst hS
    rw [hsnl] at g0
    clear hi hs hsnl
    go_enter Tryz.func47, Tryz.ntmps47
    go_wp2_with fail
    refine (ready_any x true w g11).mono ?_
    rintro e w1 ⟨rfl, rfl⟩
    go_wp2_with fail
    go_ret
    exact ⟨rfl, Below.refl _ _⟩
  | some s =>
    simp only
    obtain ⟨sb, scap, hgv, hg1, hg2, hsa, -⟩ := hi.sn.at hs
    simp only at hgv
    subst hgv
    have hsel : sN < snl := by rw [← hsnl]; exact (List.getElem?_eq_some_iff.1 hs).1
    have hsel' : (sN : Int) < (snl : Int) := by omega
    have hse2 : ¬ (snl : Int) ≤ (sN : Int) := by omega
    have hse0 : (0 : Int) ≤ (sN : Int) := by omega
    have HOK := Lib.hid (hok s (List.mem_of_getElem? hs))
    rw [hsnl] at g0
    have HAG := Lib.hid (fun W (hW : SnAt W sb (sN * 7) s) => age_any sb (sN * 7) s sq W hW)
    have HSA := Lib.hid hsa
    have s6 := hsa.2.2.2.2.2.2
    obtain ⟨so, sn', sd, slast, ssm, smost, staken⟩ := s
    simp only at HAG s6
    unfold known below'
    simp only
    clear hi hok hs hsnl hS hsa
    obtain ⟨bE, hbE⟩ : ∃ b, (ssm && decide (sq ≤ smost)) = b := ⟨_, rfl⟩
    rw [hbE] at HAG ⊢
    have hge : bE = true → sq ≤ smost := fun e => by
      rw [e] at hbE
      simp only [Bool.and_eq_true, decide_eq_true_eq] at hbE
      exact hbE.2
    clear hbE
    cases bE
    · clear hge
      go_enter Tryz.func47, Tryz.ntmps47
      go_wp2_with fail
      refine (ready_any x true w g11).mono ?_
      rintro e w1 ⟨rfl, rfl⟩
      go_wp2_with fail
      refine (HAG.out _ HSA.out).mono ?_
      rintro e w2 ⟨rfl, rfl⟩
      go_wp2_with fail
      go_ret
      exact ⟨rfl, (Below.refl _ _).drew⟩
    · obtain ⟨dn, hdn⟩ := Int.eq_ofNat_of_zero_le (show 0 ≤ smost - sq by have := hge rfl; omega)
      have hm1 := HOK.out.m1
      simp only at hm1
      have hdm : (smost - sq) % 4294967296 = (dn : Int) := by omega
      have hdn2 : (smost - sq).toNat = dn := by omega
      rw [hdm] at HAG
      rw [hdn2]
      clear hdm hdn hdn2 hge hm1 HOK
      by_cases h64 : dn < 64
      · have d1 : decide ((dn : Int) < 64) = true := by simp; omega
        have d2 : (dn : Int) < 64 := by omega
        rw [decide_eq_true h64]
        unfold bitAt
        simp only
        obtain ⟨q, hq⟩ : ∃ q, (bits .and .u64 (staken / 2 ^ dn) 1 == 1) = q := ⟨_, rfl⟩
        rw [hq]
        cases q
        · go_enter Tryz.func47, Tryz.ntmps47
          go_wp2_with fail
          refine (ready_any x true w g11).mono ?_
          rintro e w1 ⟨rfl, rfl⟩
          go_wp2_with fail
          refine (HAG.out _ HSA.out).mono ?_
          rintro e w2 ⟨rfl, rfl⟩
          go_wp2_with fail
          go_ret
          exact ⟨rfl, (Below.refl _ _).drew⟩
        · go_enter Tryz.func47, Tryz.ntmps47
          go_wp2_with fail
          refine (ready_any x true w g11).mono ?_
          rintro e w1 ⟨rfl, rfl⟩
          go_wp2_with fail
          refine (HAG.out _ HSA.out).mono ?_
          rintro e w2 ⟨rfl, rfl⟩
          go_wp2_with fail
          go_ret
          exact ⟨rfl, (Below.refl _ _).drew⟩
      · have d1 : decide ((dn : Int) < 64) = false := by simp; omega
        have d2 : ¬ (dn : Int) < 64 := by omega
        rw [decide_eq_false h64]
        go_enter Tryz.func47, Tryz.ntmps47
        go_wp2_with fail
        refine (ready_any x true w g11).mono ?_
        rintro e w1 ⟨rfl, rfl⟩
        go_wp2_with fail
        refine (HAG.out _ HSA.out).mono ?_
        rintro e w2 ⟨rfl, rfl⟩
        go_wp2_with fail
        go_ret
        exact ⟨rfl, (Below.refl _ _).drew⟩
end Go.Proofs.YtebacmmfjadalaaGreat

namespace Go.Proofs.YtebacmmfjadalaaGreat
open Go Go.RowKit Go.WideShapes

theorem Fr.grownO {w w1 : World} {o : Option Nat} (k : w.grownBy w1 o) {pa : Addr} (ho : o ≠ some pa.block) (hpa : pa.block < w.heap.size) : Fr w w1 o pa := by
  have hb : w1.heap[pa.block]? = w.heap[pa.block]? := k.block _ hpa (fun e => ho e.symm)
  refine ⟨k.os, k.tape, k.output, k.size, fun i h1 _ h3 => k.block i h1 h3, fun a ha _ => World.cell?_of_block (by rw [ha]; exact hb), fun a ha => World.frozen?_of_block (by rw [ha]; exact hb)⟩
/-- a clone while what waits is copied -/
structure CS (W0 wr : World) (x : Nat) (v : Value) (zs : List El) (ks : List (List Int)) : Prop where
  row : Row W0.heap.size wr v zs
  keys : zs.map El.key = ks
  vi : VI wr W0.heap.size v zs
  cell : wr.cell? ⟨x, 2, none⟩ = some v
  fr : Fr W0 wr none ⟨x, 2, none⟩
  fz : wr.frozen? ⟨x, 2, none⟩ = false
theorem CS.below {W0 wr w2 : World} {x : Nat} {v : Value} {zs : List El} {ks : List (List Int)} (h : CS W0 wr x v zs ks) (hx : x < W0.heap.size) (hb : Below wr.heap.size wr w2) : CS W0 w2 x v zs ks := by
  have hxw : x < wr.heap.size := Nat.lt_of_lt_of_le hx h.fr.size
  exact ⟨h.row.below hb, h.keys, h.vi.ft (Ft.of_below hb (fun _ => False)) (fun _ hk => hk.elim), (hb.cell (p := ⟨x, 2, none⟩) hxw).trans h.cell, h.fr.trans (Fr.of_below hb _ hxw), (hb.frozen (p := ⟨x, 2, none⟩) hxw).trans h.fz⟩
theorem CS.snoc {W0 wr w3 : World} {x : Nat} {v v' : Value} {zs : List El} {ks : List (List Int)} {e : El} (h : CS W0 wr x v zs ks) (hx : x < W0.heap.size) (hr : Row W0.heap.size w3 v' (zs ++ [e])) (hg : wr.grownBy w3 v.ownBlock) (ha : v'.ownBlock = v.ownBlock ∨ v'.ownBlock = some wr.heap.size)
    (he : ElOk wr e) (h32 : W32 e) (haw : Away e v.ownBlock) (hfr : ∀ b f, e.v = some ⟨b, f, none⟩ → W0.heap.size ≤ b) : CS W0 (w3.setCell ⟨x, 2, none⟩ v') x v' (zs ++ [e]) (ks ++ [e.key]) := by
  have hxw : x < wr.heap.size := Nat.lt_of_lt_of_le hx h.fr.size
  have hne : v.ownBlock ≠ some x := h.row.own hx
  have hF := (Fr.grownO hg (pa := ⟨x, 2, none⟩) hne hxw).set v'
  have hvi : VI wr W0.heap.size v (zs ++ [e]) := h.vi.snoc ⟨he, haw, hfr, h32⟩
  have hat : At v' v wr := ha.imp id (fun q => ⟨_, q, Nat.le_refl _⟩)
  have h3c := grownO_cell hg (p := ⟨x, 2, none⟩) hxw hne
  have h3f := grownO_frozen hg (p := ⟨x, 2, none⟩) hxw hne
  refine ⟨hr.set (p := ⟨x, 2, none⟩) hx _, ?_, hvi.push hx hF hat, set_self (h3c.trans h.cell), (h.fr.grownN hg (fun g e => ?_) hx).set _, ?_⟩
  · rw [List.map_append, h.keys]; rfl
  · exact (h.row.lt e).1
  · rw [← h.fz, ← h3f]; simp [go_sem]

/-- what a clone is -/
structure CloneP (w w' : World) (j : Jn) (sns : List Sn) (xs : List El) (x' B' : Nat) (s' v' : Value) (xs' : List El) : Prop where
  inv : Inv w' w' x' B' { j with sen := s', wait := v' } sns xs'
  vi : VI w' B' v' xs'
  own : ∀ g, s'.ownBlock = some g → x' ≠ g ∧ g < B'
  wx : w.heap.size ≤ x' ∧ ∀ g, s'.ownBlock = some g → w.heap.size ≤ g
  keys : xs'.map El.key = xs.map El.key
  bel : Below w.heap.size w w'
theorem CS.done {w w2 W0 wr : World} {x' : Nat} {j : Jn} {sns : List Sn} {xs zs : List El} {s' v' : Value} (h : CS W0 wr x' v' zs (xs.map El.key)) (hb : Below w.heap.size w w2) (hs : SRow w.heap.size w2 s' sns) (hx : x' = w2.heap.size) (hb0 : Below w2.heap.size w2 W0) (hl : W0.heap.size = w2.heap.size + 1)
    (hj : JnAt W0 x' { j with sen := s', wait := .slice none 0 0 }) (hz : ∀ i, W0.frozen? ⟨x', i, none⟩ = false) : CloneP w wr j sns xs x' W0.heap.size s' v' zs := by
  have hs0 : ∀ g, s'.ownBlock = some g → w.heap.size ≤ g ∧ g < w2.heap.size := fun g hg => ⟨hs.ge hg, by
    rcases hs.2 with ⟨h1, -⟩ | ⟨g', cap, cur, h1, h2, h3, -⟩
    · rw [h1] at hg; simp [Value.ownBlock] at hg
    · rw [h1] at hg
      simp only [Value.ownBlock] at hg
      injection hg with hg
      subst hg
      exact (Array.getElem?_eq_some_iff.1 h3).1⟩
  have hsr : SRow w.heap.size wr s' sns := (hs.below hb0).heap (fun g h1 h2 h3 => h.fr.block g h3 (by have := (hs0 g h2).2; show g ≠ x'; omega) (by simp))
  have hcell : ∀ i, i ≠ 2 → wr.cell? ⟨x', i, none⟩ = W0.cell? ⟨x', i, none⟩ := fun i hi => h.fr.cell _ rfl (by intro e; injection e with _ e _; exact hi e)
  obtain ⟨g0, g1, g2, g3, g4, g5, ⟨g6, g7, g8, g9, g10⟩, g11⟩ := hj
  have hsz := hb.size
  have hsz2 := h.fr.size
  refine ⟨⟨⟨(hcell 0 (by omega)).trans g0, (hcell 1 (by omega)).trans g1, h.cell, (hcell 3 (by omega)).trans g3, (hcell 4 (by omega)).trans g4, (hcell 5 (by omega)).trans g5, ⟨(hcell 6 (by omega)).trans g6, (hcell 7 (by omega)).trans g7, (hcell 8 (by omega)).trans g8, (hcell 9 (by omega)).trans g9, (hcell 10 (by omega)).trans g10⟩, (hcell 11 (by omega)).trans g11⟩, ?_, h.row, fun i => (h.fr.frozen ⟨x', i, none⟩ rfl).trans (hz i), hsz2, by omega, Below.refl _ _⟩, h.vi, fun g hg => ?_, ⟨by omega, fun g hg => (hs0 g hg).1⟩, h.keys, ?_⟩
  · show SRow (lo x' s') wr s' sns
    refine ⟨hsr.1, ?_⟩
    rcases hsr.2 with hn | ⟨g, cap, cur, hv, h1, h2, h3⟩
    · exact .inl hn
    · have hg : s'.ownBlock = some g := by rw [hv]; rfl
      exact .inr ⟨g, cap, cur, hv, lo_sen hg (by have := (hs0 g hg).2; omega), h2, h3⟩
  · have := (hs0 g hg).2
    exact ⟨by omega, by omega⟩
  · have hb2 : Below w2.heap.size w2 wr := ⟨h.fr.os.trans hb0.os, h.fr.tape.trans hb0.tape, h.fr.output.trans hb0.output, Nat.le_trans hb0.size hsz2, fun i hi => (h.fr.block i (by omega) (by show i ≠ x'; omega) (by simp)).trans (hb0.block i hi)⟩
    exact hb.trans (hb2.mono hsz)

theorem clone_el {W0 W1 w2 : World} {x' : Nat} {v : Value} {zs : List El} {ks : List (List Int)} {at_ se sq st : Int} {av B' : Option Addr} {an ac kc : Nat} {abs : List Nat} {T : TypeId} (ha : ElOk W1 ⟨at_, se, sq, st, av, an, ac, abs⟩) (h32 : W32 ⟨at_, se, sq, st, av, an, ac, abs⟩) (hf : FlAt w2 B' an abs) (hn : NewAt w2 W1.drew.heap.size B') (hc : CS W0 W1 x' v zs ks) :
    ElOk (w2.alloc (.cells #[.int .i64 at_, .int .i64 se, .int .u32 sq, .int .u32 st, .slice B' an kc] T)) ⟨at_, se, sq, st, B', an, kc, abs⟩ ∧ W32 ⟨at_, se, sq, st, B', an, kc, abs⟩ ∧ Away ⟨at_, se, sq, st, B', an, kc, abs⟩ v.ownBlock ∧ ∀ b f, B' = some ⟨b, f, none⟩ → W0.heap.size ≤ b := by
  have hnew : ∀ b f, B' = some ⟨b, f, none⟩ → W1.heap.size ≤ b := fun b f e => by
    rcases hn with h | ⟨b', h, h2, -⟩
    · rw [h] at e; cases e
    · rw [h] at e
      injection e with e
      injection e with e
      have : W1.heap.size ≤ b' := h2
      omega
  refine ⟨ElOk.below ⟨hf, ha.2⟩ ((Below.refl _ _).alloc (Nat.le_refl _) _), h32, fun b f e q => ?_, fun b f e => ?_⟩
  · have h1 := hnew b f e
    have h2 := (hc.row.lt q).2
    omega
  · have h1 := hnew b f e
    have h2 := hc.fr.size
    omega
/-- a clone ahead of the copies -/
structure CloneI (w W0 : World) (x' : Nat) (j : Jn) (sns : List Sn) : Prop where
  jn : JnAt W0 x' j
  fz : ∀ i, W0.frozen? ⟨x', i, none⟩ = false
  via : ∃ w2, Below w.heap.size w w2 ∧ SRow w.heap.size w2 j.sen sns ∧ x' = w2.heap.size ∧ Below w2.heap.size w2 W0 ∧ W0.heap.size = w2.heap.size + 1
theorem CloneI.make {w w2 : World} {v : Value} {sns : List Sn} {win top hor ct cd co cl cs : Int} {sm : Bool} {t : TypeId} (hb : Below w.heap.size w w2) (hs : SRow w.heap.size w2 v sns) :
    CloneI w (w2.alloc (.cells #[v, .int .i64 win, .slice none 0 0, .bool sm, .int .i64 top, .int .i64 hor, .int .i64 ct, .int .i64 cd, .int .i64 co, .int .i64 cl, .int .i64 cs, .bool true] t)) w2.heap.size ⟨v, win, .slice none 0 0, sm, top, hor, ct, cd, co, cl, cs⟩ sns :=
  ⟨by unfold JnAt; simp [go_sem], fun i => by simp [go_sem], w2, hb, hs, rfl, (Below.refl _ _).alloc (Nat.le_refl _) _, by simp⟩

set_option maxRecDepth 8000 in
set_option maxHeartbeats 4000000 in
theorem clone_any (x B : Nat) (j : Jn) (sns : List Sn) (xs : List El) (w : World) (hi : Inv w w x B j sns xs) (hvi : VI w B j.wait xs) (hl : sns.length ≤ 64) (hm : xs.length ≤ 1099511627776) :
    Calls Tryz.prog 19 #[.pointer (some ⟨x, 0, none⟩)] w fun e w' => ∃ x' B' s' v' xs', e = .returned (.pointer (some ⟨x', 0, none⟩)) ∧ Hid (CloneP w w' j sns xs x' B' s' v' xs') := by
  have HI := Lib.hid (And.intro hi hvi)
  have hxw : x < w.heap.size := by have := hi.big; have := hi.xB; omega
  obtain ⟨n, hn⟩ : ∃ n, xs.length = n := ⟨_, rfl⟩
  have HN := Lib.hid hn
  obtain ⟨S, win, V, sm, top, hor, ct, cd, co, cl, cs⟩ := j
  obtain ⟨WA, WC, hV⟩ := hi.row.slice
  simp only at hV
  subst hV
  rw [hn] at hi hm hvi HI
  obtain ⟨g0, g1, g2, g3, g4, g5, ⟨g6, g7, g8, g9, g10⟩, g11⟩ := hi.jn
  simp only at g0 g1 g2 g3 g4 g5 g6 g7 g8 g9 g10 g11
  have HCL := Lib.hid (fun W (hW : Below w.heap.size w W) => clone_sn _ S sns W (hi.sn.below hW) hl)
  obtain ⟨SA, SC, hS⟩ := hi.sn.slice
  simp only at hS
  subst hS
  clear hi hvi hn
  go_enter Tryz.func19, Tryz.ntmps19
  go_wp2_with fail
  refine (ready_any x true w g11).mono ?_
  rintro e w1 ⟨rfl, rfl⟩
  go_upto_region 3 with fail
  go_cut [3] from 6 to 35 (fun v wx => ∃ x' s' A1 c1, v = .pointer (some ⟨x', 0, none⟩) ∧ s' = .slice A1 sns.length c1 ∧ Hid (CloneI w wx x' ⟨s', win, .slice none 0 0, sm, top, hor, ct, cd, co, cl, cs⟩ sns))
  case first =>
    have hcur : Below w.heap.size w w.drew := (Below.refl _ _).drew
    go_region_held3 (fun w' => w'.cell? ⟨x, 0, none⟩ = some (.slice SA sns.length SC) ∧ w'.cell? ⟨x, 1, none⟩ = some (.int .i64 win) ∧ w'.cell? ⟨x, 3, none⟩ = some (.bool sm) ∧ w'.cell? ⟨x, 4, none⟩ = some (.int .i64 top) ∧ w'.cell? ⟨x, 5, none⟩ = some (.int .i64 hor) ∧ w'.cell? ⟨x, 6, none⟩ = some (.int .i64 ct) ∧ w'.cell? ⟨x, 7, none⟩ = some (.int .i64 cd) ∧ w'.cell? ⟨x, 8, none⟩ = some (.int .i64 co) ∧ w'.cell? ⟨x, 9, none⟩ = some (.int .i64 cl) ∧ w'.cell? ⟨x, 10, none⟩ = some (.int .i64 cs))
      (first | exact ⟨(hcur.cell (by exact hxw)).trans g0, (hcur.cell (by exact hxw)).trans g1, (hcur.cell (by exact hxw)).trans g3, (hcur.cell (by exact hxw)).trans g4, (hcur.cell (by exact hxw)).trans g5, (hcur.cell (by exact hxw)).trans g6, (hcur.cell (by exact hxw)).trans g7, (hcur.cell (by exact hxw)).trans g8, (hcur.cell (by exact hxw)).trans g9, (hcur.cell (by exact hxw)).trans g10⟩ | exact ⟨((hcur.alloc hcur.size _).cell (by exact hxw)).trans g0, ((hcur.alloc hcur.size _).cell (by exact hxw)).trans g1, ((hcur.alloc hcur.size _).cell (by exact hxw)).trans g3, ((hcur.alloc hcur.size _).cell (by exact hxw)).trans g4, ((hcur.alloc hcur.size _).cell (by exact hxw)).trans g5, ((hcur.alloc hcur.size _).cell (by exact hxw)).trans g6, ((hcur.alloc hcur.size _).cell (by exact hxw)).trans g7, ((hcur.alloc hcur.size _).cell (by exact hxw)).trans g8, ((hcur.alloc hcur.size _).cell (by exact hxw)).trans g9, ((hcur.alloc hcur.size _).cell (by exact hxw)).trans g10⟩)
      (first | (go_at_call 44; refine (HCL.out _ hcur).mono ?_; rintro e w2 ⟨s', rfl, hs2, hb2⟩; obtain ⟨A1, c1, rfl⟩ := hs2.slice; replace hcur := back_of hcur hb2; clear hb2))
    have HFIN := Lib.hid (CloneI.make (win := win) (sm := sm) (top := top) (hor := hor) (ct := ct) (cd := cd) (co := co) (cl := cl) (cs := cs) (t := 77) hcur hs2)
    clear hcur hs2
    go_wp2_with fail
    go_meet
    exact ⟨w2.heap.size, _, A1, c1, rfl, rfl, HFIN⟩
  case rest =>
    obtain ⟨x', s', A1, c1, rfl, rfl, hx⟩ := hcut
    rename World => W0
    have HBW : Hid (Below w.heap.size w W0) := Lib.hid (by
      obtain ⟨w2, h1, -, -, h4, -⟩ := hx.out.via
      exact back_of h1 h4)
    have h2 := (HBW.out.cell (p := ⟨x, 2, none⟩) hxw).trans g2
    have hxp : x' < W0.heap.size := by
      obtain ⟨w2, -, -, h3, -, h5⟩ := hx.out.via
      omega
    clear HCL g0 g1 g2 g3 g4 g5 g6 g7 g8 g9 g10 g11
    go_wp2_with fail
    go_loopw [41] (fun iv wr => ∃ (k : Nat) (v : Value) (zs : List El), k ≤ n ∧ iv = .int .i64 (k : Int) ∧ Hid (CS W0 wr x' v zs ((xs.take k).map El.key))) (fun iv _ => n - (intOf iv).toNat)
    case atStart => exact ⟨0, .slice none 0 0, [], by omega, rfl, Lib.hid ⟨World.ownsRow_nil _ _ _ _, rfl, fun e he => by simp at he, hx.out.jn.2.2.1, Fr.refl _ _ _, hx.out.fz 2⟩⟩
    case round =>
      obtain ⟨k, v, zs, hk, rfl, hh⟩ := hrel
      by_cases hlt : k < n
      · obtain ⟨a, ha⟩ := get_some (xs := xs) (i := k) (by have := HN.out; omega)
        obtain ⟨g, cap, hgv, -, hpl⟩ := HI.out.1.row.pl (by have := HN.out; omega)
        simp only at hgv
        injection hgv with e1 e2 e3
        clear e2
        subst e1 e3
        have hlx := hpl.lt
        have HAO : Hid (ElOk wr a ∧ W32 a) := Lib.hid ⟨((HI.out.2 a (List.mem_of_getElem? ha)).1.below HBW.out).ft (Ft.of_fr hh.out.fr) (fun b f hv hb => by
          have h1 := (HI.out.2 a (List.mem_of_getElem? ha)).1.lt hv
          obtain ⟨w2, q1, q2, q3, -, -⟩ := hx.out.via
          have := q1.size
          rcases hb with hb | hb
          · have : b = x' := hb
            omega
          · cases hb), (HI.out.2 a (List.mem_of_getElem? ha)).2.2.2⟩
        obtain ⟨d0, d1, d2, d3, d4⟩ := hpl.cells ha
        have hcellg : ∀ i, wr.cell? ⟨g, i, none⟩ = w.cell? ⟨g, i, none⟩ := fun i => (World.cell?_of_block (hh.out.fr.block g (Nat.lt_of_lt_of_le hlx HBW.out.size) (by
          obtain ⟨w2, q1, q2, q3, -, -⟩ := hx.out.via
          have := q1.size
          show g ≠ x'
          omega) (by simp))).trans (HBW.out.cell (p := ⟨g, i, none⟩) hlx)
        have x0 := (hcellg _).trans d0
        have x1 := (hcellg _).trans d1
        have x2 := (hcellg _).trans d2
        have x3 := (hcellg _).trans d3
        have x4 := (hcellg _).trans d4
        have HA := Lib.hid ha
        have hki : (k : Int) < (n : Int) := by omega
        have hk0 : (0 : Int) ≤ (k : Int) := by omega
        clear d0 d1 d2 d3 d4 hcellg ha hpl
        obtain ⟨at_, se, sq, st, av, an, ac, abs⟩ := a
        simp only at x0 x1 x2 x3 x4
        have HB1 := Lib.hid ((Below.refl wr.heap.size wr).alloc (Nat.le_refl _) (.cells #[.int .i64 at_, .int .i64 se, .int .u32 sq, .int .u32 st, .slice av an ac] 63))
        go_upto_region 7 with fail
        have y0 : (wr.alloc (.cells #[.int .i64 at_, .int .i64 se, .int .u32 sq, .int .u32 st, .slice av an ac] 63)).cell? ⟨wr.heap.size, 0, none⟩ = some (.int .i64 at_) := by simp [go_sem]
        have y1 : (wr.alloc (.cells #[.int .i64 at_, .int .i64 se, .int .u32 sq, .int .u32 st, .slice av an ac] 63)).cell? ⟨wr.heap.size, 1, none⟩ = some (.int .i64 se) := by simp [go_sem]
        have y2 : (wr.alloc (.cells #[.int .i64 at_, .int .i64 se, .int .u32 sq, .int .u32 st, .slice av an ac] 63)).cell? ⟨wr.heap.size, 2, none⟩ = some (.int .u32 sq) := by simp [go_sem]
        have y3 : (wr.alloc (.cells #[.int .i64 at_, .int .i64 se, .int .u32 sq, .int .u32 st, .slice av an ac] 63)).cell? ⟨wr.heap.size, 3, none⟩ = some (.int .u32 st) := by simp [go_sem]
        have y4 : (wr.alloc (.cells #[.int .i64 at_, .int .i64 se, .int .u32 sq, .int .u32 st, .slice av an ac] 63)).cell? ⟨wr.heap.size, 4, none⟩ = some (.slice av an ac) := by simp [go_sem]
        have hs1 : wr.heap.size < (wr.alloc (.cells #[.int .i64 at_, .int .i64 se, .int .u32 sq, .int .u32 st, .slice av an ac] 63)).heap.size := by simp
        have HRL := Lib.hid hh.out.row
        generalize wr.alloc (.cells #[.int .i64 at_, .int .i64 se, .int .u32 sq, .int .u32 st, .slice av an ac] 63) = W1 at *
        have HC1 := Lib.hid (hh.out.below hxp HB1.out)
        have HA1 := Lib.hid (And.intro (HAO.out.1.below HB1.out) HAO.out.2)
        obtain ⟨vA, vc, hv⟩ := hh.out.row.slice
        obtain ⟨zl, hzl⟩ : ∃ m, zs.length = m := ⟨_, rfl⟩
        rw [hzl] at hv
        subst hv
        have HZL := Lib.hid hzl
        have hzl2 : zl ≤ 1099511627776 := by
          have h := congrArg List.length HC1.out.keys
          simp only [List.length_map, List.length_take] at h
          omega
        have y5 := HC1.out.cell
        have y5f := HC1.out.fz
        generalize wr.heap.size = bx at *
        have hxw1 : x' < W1.heap.size := Nat.lt_of_lt_of_le hxp HC1.out.fr.size
        have HCP := Lib.hid (fun W (hW : Below W1.heap.size W1 W) => copied_any at_ se sq st av an ac abs W (HA1.out.1.below hW).1 HA1.out.1.2.2)
        clear x0 x1 x2 x3 x4 hh hzl HAO HB1
        have hcur : Below W1.heap.size W1 W1.drew := (Below.refl _ _).drew
        have HL1 := Lib.hid (fun e : El => (show (zs ++ [e]).length = zl + 1 by rw [List.length_append, HZL.out]; rfl))
        have HXO := Lib.hid (show (Value.slice vA zl vc).ownBlock ≠ some x' from HC1.out.row.own hxp)
        go_region_law (first | (refine step_append_el rfl (.tmp 49) (.tmp 52) 75 rfl Tryz.underlying75 (.slice vA zl vc) zs ⟨at_, se, sq, st, B', an, kc, abs⟩ (by simp [Act.eval]) HQ.out.row HQ.out.fr.size (by rw [HZL.out]; exact hzl2) ⟨w2.heap.size, 0, none⟩ 1 (by simp [Act.eval]) HNW.out ?_; intro v8 w8 hr8 hg8 ha8; obtain ⟨A8, c8, hv8⟩ := hr8.slice; rw [HL1.out _] at hv8; subst hv8; have y1 := (grownO_cell hg8 (p := ⟨x', 2, none⟩) hxw3 HXO.out).trans HQ.out.cell; have y2 := (grownO_frozen hg8 (p := ⟨x', 2, none⟩) hxw3 HXO.out).trans HQ.out.fz; have HOS := Lib.hid (HQ.out.snoc hxp hr8 hg8 ha8 HE.out.1 HE.out.2.1 HE.out.2.2.1 HE.out.2.2.2); clear hr8 hg8 ha8) | (go_simp; go_at_call 36; (refine (HCP.out _ hcur).mono ?_; rintro e w2 ⟨B', kc, rfl, hf, hnw, hb2⟩; have hcur2 := back_of hcur hb2; have y6 := (hcur2.cell (p := ⟨x', 2, none⟩) hxw1).trans y5; have HNW := Lib.hid (row_new' w2 at_ se sq st B' an kc 63); have HQ := Lib.hid (HC1.out.below hxp (hcur2.alloc hcur2.size (.cells #[.int .i64 at_, .int .i64 se, .int .u32 sq, .int .u32 st, .slice B' an kc] 63))); have y7 := HQ.out.cell; have HE := Lib.hid (clone_el (T := 63) (kc := kc) HA1.out.1 HA1.out.2 hf hnw HC1.out); have hxw3 : x' < (w2.alloc (.cells #[.int .i64 at_, .int .i64 se, .int .u32 sq, .int .u32 st, .slice B' an kc] 63)).heap.size := Nat.lt_of_lt_of_le hxp HQ.out.fr.size)))
        all_goals go_wp2_with fail
        all_goals go_roundw
        all_goals first
          | exact ⟨k + 1, .slice A8 (zl + 1) c8, zs ++ [⟨at_, se, sq, st, B', an, kc, abs⟩], by omega, by go_num, Lib.hid (by
              have h := HOS.out
              rw [List.take_add_one, HA.out, List.map_append]
              exact h)⟩
          | (simp [intOf]; omega)
      · have hkn : k = n := by omega
        subst hkn
        have hki : ¬ (k : Int) < (k : Int) := by omega
        have HFIN : Hid (CloneP w wr ⟨.slice SA sns.length SC, win, .slice WA k WC, sm, top, hor, ct, cd, co, cl, cs⟩ sns xs x' W0.heap.size (.slice A1 sns.length c1) v zs) := Lib.hid (by
          have h := hh.out
          rw [List.take_of_length_le (by have := HN.out; omega)] at h
          obtain ⟨w2, h1, h2, h3, h4, h5⟩ := hx.out.via
          exact h.done h1 h2 h3 h4 h5 hx.out.jn hx.out.fz)
        go_wp2_with fail
        go_ret
        rw [HN.out]
        exact ⟨x', rfl, _, _, v, zs, HFIN⟩
end Go.Proofs.YtebacmmfjadalaaGreat
