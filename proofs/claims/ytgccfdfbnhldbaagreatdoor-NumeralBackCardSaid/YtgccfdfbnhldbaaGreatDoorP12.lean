/- Y16 Y17 Y19 Y20 E3 Y18 Y21 E1 BK2 BK3 in one text. -/
import Derived.Test.YtgccfdfbnhldbaaGreatDoorP11
import Derived.Test.YtgccfdfbnhldbaaGreatDoorP05
import Derived.Test.YtgccfdfbnhldbaaGreatDoorP06
import Derived.Lib.MakeNoZero
import Derived.Laws.Externs

namespace Go.Proofs.YtgccfdfbnhldbaaGreatDoor.Nb
open Go Go.RowKit

/-- the whole number lies in block b from place o on: its sign, its amount of one word -/
def IntN (w : World) (b o : Nat) (neg : Bool) (n : Nat) : Prop :=
  b < w.heap.size ∧ w.cell? ⟨b, o, none⟩ = some (.bool neg) ∧ ∃ A k c, w.cell? ⟨b, o + 1, none⟩ = some (.slice A k c) ∧ MagN w (.slice A k c) n 1
/-- a whole number can be written there -/
def ISlot (w : World) (b o : Nat) : Prop :=
  b < w.heap.size ∧ (∃ neg, w.cell? ⟨b, o, none⟩ = some (.bool neg)) ∧ (∃ A k c, w.cell? ⟨b, o + 1, none⟩ = some (.slice A k c)) ∧ w.frozen? ⟨b, o, none⟩ = false ∧ w.frozen? ⟨b, o + 1, none⟩ = false
theorem IntN.below {w w' : World} {b o n B : Nat} {neg : Bool} (h : IntN w b o neg n) (hb : Below B w w') (hB : w.heap.size ≤ B) : IntN w' b o neg n := by
  obtain ⟨h1, h2, A, k, c, h3, h4⟩ := h
  have hb' := hb.mono hB
  exact ⟨Nat.lt_of_lt_of_le h1 hb.size, (hb.cell (p := ⟨b, o, none⟩) (show b < B by omega)).trans h2, A, k, c, (hb.cell (p := ⟨b, o + 1, none⟩) (show b < B by omega)).trans h3, h4.below hb'⟩
theorem ISlot.below {w w' : World} {b o B : Nat} (h : ISlot w b o) (hb : Below B w w') (hB : w.heap.size ≤ B) : ISlot w' b o := by
  obtain ⟨h1, ⟨neg, h2⟩, ⟨A, k, c, h3⟩, h4, h5⟩ := h
  have q : b < B := by omega
  exact ⟨Nat.lt_of_lt_of_le h1 hb.size, ⟨neg, (hb.cell (p := ⟨b, o, none⟩) q).trans h2⟩, ⟨A, k, c, (hb.cell (p := ⟨b, o + 1, none⟩) q).trans h3⟩, (hb.frozen (p := ⟨b, o, none⟩) q).trans h4, (hb.frozen (p := ⟨b, o + 1, none⟩) q).trans h5⟩
/-- words stand where they stood, whatever is written over a cell that holds no word -/
theorem MagN.set {w : World} {v : Value} {n L : Nat} (h : MagN w v n L) {p : Addr} {x y : Value} (hp : w.cell? p = some y) (hy : ∀ k i, y ≠ .int k i) : MagN (w.setCell p x) v n L := by
  obtain ⟨ws, h1, h2⟩ := h
  refine ⟨ws, h1.keep (by simp [World.setCell]) (fun q k i _ hc => ?_), h2⟩
  rw [World.cell?_setCell_other]
  · exact hc
  · rintro rfl
    rw [hp] at hc
    injection hc with hc
    exact hy _ _ hc
def put (w : World) (b o : Nat) (neg : Bool) (v : Value) : World := (w.setCell ⟨b, o, none⟩ (.bool neg)).setCell ⟨b, o + 1, none⟩ v
theorem ISlot.magN {w : World} {b o : Nat} (h : ISlot w b o) {v : Value} {n L : Nat} (hm : MagN w v n L) (neg : Bool) (x : Value) : MagN (put w b o neg x) v n L := by
  obtain ⟨h1, ⟨neg', h2⟩, ⟨A, k, c, h3⟩, h4, h5⟩ := h
  refine (hm.set h2 (by intros; simp)).set (y := .slice A k c) ?_ (by intros; simp)
  rw [World.cell?_setCell_other _ _ _ _ (by simp)]
  exact h3
theorem ISlot.lay {w : World} {b o : Nat} (h : ISlot w b o) {A : Option Addr} {k c n : Nat} (hm : MagN w (.slice A k c) n 1) (neg : Bool) : IntN (put w b o neg (.slice A k c)) b o neg n ∧ ISlot (put w b o neg (.slice A k c)) b o := by
  have hk := h.magN hm neg (.slice A k c)
  obtain ⟨h1, ⟨neg', h2⟩, ⟨A', k', c', h3⟩, h4, h5⟩ := h
  have e0 : (put w b o neg (.slice A k c)).cell? ⟨b, o, none⟩ = some (.bool neg) := by simp [put, go_sem, h2]
  have e1 : (put w b o neg (.slice A k c)).cell? ⟨b, o + 1, none⟩ = some (.slice A k c) := by simp [put, go_sem, h3]
  have es : b < (put w b o neg (.slice A k c)).heap.size := by simpa [put, World.setCell] using h1
  exact ⟨⟨es, e0, A, k, c, e1, hk⟩, es, ⟨neg, e0⟩, ⟨A, k, c, e1⟩, by simp [put, go_sem, h4], by simp [put, go_sem, h5]⟩
theorem below_put {B : Nat} {w w' : World} (h : Below B w w') {b o : Nat} (hb : B ≤ b) (neg : Bool) (v : Value) : Below B w (put w' b o neg v) :=
  (h.setCell (p := ⟨b, o, none⟩) hb _).setCell (p := ⟨b, o + 1, none⟩) hb _
theorem put_cell {w : World} {b o b' o' : Nat} (neg : Bool) (v : Value) (h : b' ≠ b ∨ (o' ≠ o ∧ o' ≠ o + 1)) : (put w b o neg v).cell? ⟨b', o', none⟩ = w.cell? ⟨b', o', none⟩ := by
  unfold put
  rw [World.cell?_setCell_other _ _ _ _ (by intro e; injection e with e1 e2; omega), World.cell?_setCell_other _ _ _ _ (by intro e; injection e with e1 e2; omega)]

set_option maxRecDepth 8000 in
theorem made_any (b o : Nat) (neg : Bool) (A : Option Addr) (k c : Nat) (w : World) (h : ISlot w b o) :
    Calls Tryz.prog 99 #[.pointer (some ⟨b, o, none⟩), .bool neg, .slice A k c] w fun e w' => e = .returned (.pointer (some ⟨b, o, none⟩)) ∧ w' = put w b o (neg && decide (0 < k)) (.slice A k c) := by
  obtain ⟨h1, ⟨neg', h2⟩, ⟨A', k', c', h3⟩, h4, h5⟩ := h
  rcases neg with _ | _
  · go_enter Tryz.func99, Tryz.ntmps99
    go_wp2_with fail
    go_ret
    exact ⟨rfl, rfl⟩
  · go_enter Tryz.func99, Tryz.ntmps99
    go_wp2_with fail
    go_ret
    exact ⟨rfl, rfl⟩
theorem ISlot.new (w : World) (t : TypeId) : ISlot (w.alloc (.cells #[.bool false, .slice none 0 0] t)) w.heap.size 0 := by
  refine ⟨by simp, ⟨false, by simp [go_sem]⟩, ⟨none, 0, 0, by simp [go_sem]⟩, by simp [go_sem], by simp [go_sem]⟩

/-- the answer of a setter: the number is written there, nothing below its block has turned -/
def Wrote1 (w : World) (b o : Nat) (neg : Bool) (n : Nat) (e : Ending) (w' : World) : Prop :=
  e = .returned (.pointer (some ⟨b, o, none⟩)) ∧ IntN w' b o neg n ∧ ISlot w' b o ∧ Below b w w'

set_option maxRecDepth 8000 in
/-- the last step of a setter: a number in new memory is written -/
theorem made_num (b o n : Nat) (neg : Bool) (A : Option Addr) (k c : Nat) (w : World) (h : ISlot w b o) (hm : MagN w (.slice A k c) n 1) (hn : neg = true → n ≠ 0) :
    Calls Tryz.prog 99 #[.pointer (some ⟨b, o, none⟩), .bool neg, .slice A k c] w (Wrote1 w b o neg n) := by
  refine (made_any b o neg A k c w h).mono ?_
  rintro e w' ⟨rfl, rfl⟩
  have hq : (neg && decide (0 < k)) = neg := by
    rcases neg with _ | _
    · rfl
    · have h1 := hm.len.1
      have h2 : 0 < k := by
        rcases Nat.eq_zero_or_pos k with q | q
        · exact absurd (h1 q) (hn rfl)
        · exact q
      simp [h2]
  rw [hq]
  have h2 := h.lay hm neg
  exact ⟨rfl, h2.1, h2.2, below_put (Below.refl _ _) (Nat.le_refl _) _ _⟩
theorem Wrote1.after {w w1 w' : World} {b o n : Nat} {neg : Bool} {e : Ending} (h : Wrote1 w1 b o neg n e w') (hb : Below b w w1) : Wrote1 w b o neg n e w' :=
  ⟨h.1, h.2.1, h.2.2.1, hb.trans h.2.2.2⟩
set_option maxRecDepth 8000 in
theorem setUint_any (b o n : Nat) (w : World) (h : ISlot w b o) (hn : n < 18446744073709551616) :
    Calls Tryz.prog 42 #[.pointer (some ⟨b, o, none⟩), .int .u64 (n : Int)] w (Wrote1 w b o false n) := by
  have HW := Lib.hid (word_any n w hn)
  have H := Lib.hid h
  clear h
  go_enter Tryz.func42, Tryz.ntmps42
  go_wp2_with fail
  refine HW.out.mono ?_
  rintro e w1 ⟨v, rfl, hm, hb⟩
  obtain ⟨A, k, c, rfl⟩ := hm.slice
  have HM := Lib.hid (made_num b o n false A k c w1 (H.out.below hb (Nat.le_refl _)) hm (by simp))
  have HB := Lib.hid (hb.mono (Nat.le_of_lt H.out.1))
  clear hm hb
  go_wp2_with fail
  refine HM.out.mono ?_
  rintro e w2 ⟨rfl, h1, h2, h3⟩
  have HF := Lib.hid (And.intro h1 (And.intro h2 h3))
  clear h1 h2 h3
  go_wp2_with fail
  go_ret
  exact ⟨rfl, HF.out.1, HF.out.2.1, HB.out.trans HF.out.2.2⟩
set_option maxRecDepth 8000 in
theorem setInt_any (b o n : Nat) (w : World) (h : ISlot w b o) (hn : n ≤ 9223372036854775807) :
    Calls Tryz.prog 108 #[.pointer (some ⟨b, o, none⟩), .int .i64 (n : Int)] w (Wrote1 w b o false n) := by
  have HW := Lib.hid (word_any n w (by omega))
  have H := Lib.hid h
  clear h
  go_enter Tryz.func108, Tryz.ntmps108
  go_wp2_with fail
  refine HW.out.mono ?_
  rintro e w1 ⟨v, rfl, hm, hb⟩
  obtain ⟨A, k, c, rfl⟩ := hm.slice
  have HM := Lib.hid (made_num b o n false A k c w1 (H.out.below hb (Nat.le_refl _)) hm (by simp))
  have HB := Lib.hid (hb.mono (Nat.le_of_lt H.out.1))
  clear hm hb
  go_wp2_with fail
  refine HM.out.mono ?_
  rintro e w2 ⟨rfl, h1, h2, h3⟩
  have HF := Lib.hid (And.intro h1 (And.intro h2 h3))
  clear h1 h2 h3
  go_wp2_with fail
  go_ret
  exact ⟨rfl, HF.out.1, HF.out.2.1, HB.out.trans HF.out.2.2⟩
/-- an answer that is a number in new memory -/
def New1 (w : World) (neg : Bool) (n : Nat) (e : Ending) (w' : World) : Prop :=
  ∃ b, e = .returned (.pointer (some ⟨b, 0, none⟩)) ∧ w.heap.size ≤ b ∧ IntN w' b 0 neg n ∧ ISlot w' b 0 ∧ Below w.heap.size w w'
set_option maxRecDepth 8000 in
theorem newInt_any (n : Nat) (w : World) (hn : n ≤ 9223372036854775807) : Calls Tryz.prog 47 #[.int .i64 (n : Int)] w (New1 w false n) := by
  have HS := Lib.hid (setInt_any w.heap.size 0 n _ (ISlot.new w 90) hn)
  have HA := Lib.hid ((Below.refl w.heap.size w).alloc (Nat.le_refl _) (.cells #[.bool false, .slice none 0 0] 90))
  go_enter Tryz.func47, Tryz.ntmps47
  go_wp2_with fail
  refine HS.out.mono ?_
  rintro e w1 ⟨rfl, h1, h2, h3⟩
  have HF := Lib.hid (And.intro h1 (And.intro h2 h3))
  clear h1 h2 h3
  go_wp2_with fail
  go_ret
  exact ⟨_, rfl, Nat.le_refl _, HF.out.1, HF.out.2.1, HA.out.trans HF.out.2.2⟩
end Go.Proofs.YtgccfdfbnhldbaaGreatDoor.Nb

namespace Go.Proofs.YtgccfdfbnhldbaaGreatDoor.Nb
open Go Go.RowKit

set_option maxRecDepth 8000 in
theorem sign_pos (b o n : Nat) (w : World) (hx : IntN w b o false n) (hn : 0 < n) :
    Calls Tryz.prog 92 #[.pointer (some ⟨b, o, none⟩)] w fun e w' => e = .returned (.int .i64 1) ∧ w' = w := by
  obtain ⟨hb, h2, A, k, c, h3, h4⟩ := hx
  have hk := h4.one_len hn
  subst hk
  clear h4
  go_enter Tryz.func92, Tryz.ntmps92
  go_wp2_with fail
  go_ret
  exact ⟨rfl, rfl⟩
end Go.Proofs.YtgccfdfbnhldbaaGreatDoor.Nb

namespace Go.Proofs.YtgccfdfbnhldbaaGreatDoor.Nb
open Go Go.RowKit

/-- the fraction lies in block b: a whole number, and an amount above 0 -/
def RatN (w : World) (b : Nat) (neg : Bool) (p q : Nat) : Prop := IntN w b 0 neg p ∧ IntN w b 2 false q ∧ 0 < q
def RSlot (w : World) (b : Nat) : Prop := ISlot w b 0 ∧ ISlot w b 2
theorem RSlot.below {w w' : World} {b B : Nat} (h : RSlot w b) (hb : Below B w w') (hB : w.heap.size ≤ B) : RSlot w' b := ⟨h.1.below hb hB, h.2.below hb hB⟩
theorem RSlot.new (w : World) (t : TypeId) : RSlot (w.alloc (.cells #[.bool false, .slice none 0 0, .bool false, .slice none 0 0] t)) w.heap.size :=
  ⟨⟨by simp, ⟨false, by simp [go_sem]⟩, ⟨none, 0, 0, by simp [go_sem]⟩, by simp [go_sem], by simp [go_sem]⟩, ⟨by simp, ⟨false, by simp [go_sem]⟩, ⟨none, 0, 0, by simp [go_sem]⟩, by simp [go_sem], by simp [go_sem]⟩⟩
/-- the answer of a setter of a fraction -/
def WroteR (w : World) (b : Nat) (neg : Bool) (p q : Nat) (e : Ending) (w' : World) : Prop :=
  e = .returned (.pointer (some ⟨b, 0, none⟩)) ∧ RatN w' b neg p q ∧ RSlot w' b ∧ Below b w w'
/-- an answer that is a fraction in new memory -/
def NewR (w : World) (neg : Bool) (p q : Nat) (e : Ending) (w' : World) : Prop :=
  ∃ b, e = .returned (.pointer (some ⟨b, 0, none⟩)) ∧ w.heap.size ≤ b ∧ RatN w' b neg p q ∧ RSlot w' b ∧ Below w.heap.size w w'
theorem WroteR.after {w w1 w' : World} {b p q : Nat} {neg : Bool} {e : Ending} (h : WroteR w1 b neg p q e w') (hb : Below b w w1) : WroteR w b neg p q e w' :=
  ⟨h.1, h.2.1, h.2.2.1, hb.trans h.2.2.2⟩

theorem put_frozen {w : World} (b o : Nat) (neg : Bool) (v : Value) (p : Addr) : (put w b o neg v).frozen? p = w.frozen? p := by
  unfold put; simp [go_sem]
theorem ISlot.put {w : World} {b o : Nat} (h : ISlot w b o) {b' o' : Nat} (hne : b ≠ b' ∨ (o ≠ o' ∧ o ≠ o' + 1 ∧ o + 1 ≠ o')) (neg : Bool) (v : Value) : ISlot (put w b' o' neg v) b o := by
  obtain ⟨h1, ⟨neg', h2⟩, ⟨A, k, c, h3⟩, h4, h5⟩ := h
  refine ⟨by simpa [Nb.put, World.setCell] using h1, ⟨neg', ?_⟩, ⟨A, k, c, ?_⟩, by rw [put_frozen]; exact h4, by rw [put_frozen]; exact h5⟩
  · rw [put_cell _ _ (by omega)]; exact h2
  · rw [put_cell _ _ (by omega)]; exact h3
theorem IntN.put {w : World} {b o n : Nat} {neg' : Bool} (h : IntN w b o neg' n) {b' o' : Nat} (hs : ISlot w b' o') (hne : b ≠ b' ∨ (o ≠ o' ∧ o ≠ o' + 1 ∧ o + 1 ≠ o')) (neg : Bool) (v : Value) : IntN (put w b' o' neg v) b o neg' n := by
  obtain ⟨h1, h2, A, k, c, h3, h4⟩ := h
  refine ⟨by simpa [Nb.put, World.setCell] using h1, ?_, A, k, c, ?_, hs.magN h4 neg v⟩
  · rw [put_cell _ _ (by omega)]; exact h2
  · rw [put_cell _ _ (by omega)]; exact h3

theorem neg_len {w : World} {A : Option Addr} {k c n L : Nat} {neg : Bool} (hm : MagN w (.slice A k c) n L) (hn : neg = true → n ≠ 0) : (neg && decide (0 < k)) = neg := by
  rcases neg with _ | _
  · rfl
  · have h1 := hm.len.1
    have h2 : 0 < k := by
      rcases Nat.eq_zero_or_pos k with q | q
      · exact absurd (h1 q) (hn rfl)
      · exact q
    simp [h2]
end Go.Proofs.YtgccfdfbnhldbaaGreatDoor.Nb

namespace Go.Proofs.YtgccfdfbnhldbaaGreatDoor.Nb
open Go Go.RowKit

theorem one_new (w : World) (t : TypeId) : MagN (w.alloc (.cells #[.int .u64 1] t)) (.slice (some ⟨w.heap.size, 0, none⟩) 1 1) 1 1 :=
  ⟨[1], Mag.one w 1 (by omega) t, .inr (by simp), by simp [val], by simp⟩
theorem back_of' {w w1 w2 : World} (h : Below w.heap.size w w1) (h2 : Below w1.heap.size w1 w2) : Below w.heap.size w w2 := h.trans (h2.mono h.size)
theorem below_dr {B : Nat} {a w : World} (h : Below B a w) (n : Nat) : Below B a (w.drewN n) := ⟨h.os, h.tape, h.output, h.size, h.block⟩
theorem two_put {w3 w5 : World} {z p q : Nat} {neg : Bool} {A1 A2 : Option Addr} {k1 c1 k2 c2 : Nat} (h : RSlot w3 z) (hp : MagN w3 (.slice A1 k1 c1) p 1)
    (hb : Below (put w3 z 0 neg (.slice A1 k1 c1)).heap.size (put w3 z 0 neg (.slice A1 k1 c1)) w5) (hq : MagN w5 (.slice A2 k2 c2) q 1) (h0 : 0 < q) :
    ISlot w5 z 2 ∧ RatN (put w5 z 2 false (.slice A2 k2 c2)) z neg p q ∧ RSlot (put w5 z 2 false (.slice A2 k2 c2)) z ∧ Below z w3 (put w5 z 2 false (.slice A2 k2 c2)) := by
  have l1 := h.1.lay hp neg
  have s2 := (h.2.put (b' := z) (o' := 0) (.inr (by omega)) neg (.slice A1 k1 c1)).below hb (Nat.le_refl _)
  have l2 := s2.lay hq false
  have i1 := l1.1.below hb (Nat.le_refl _)
  have s1 := l1.2.below hb (Nat.le_refl _)
  have hz : z ≤ (put w3 z 0 neg (.slice A1 k1 c1)).heap.size := Nat.le_of_lt l1.2.1
  exact ⟨s2, ⟨i1.put s2 (.inr (by omega)) _ _, l2.1, h0⟩, ⟨s1.put (.inr (by omega)) _ _, l2.2⟩, below_put ((below_put (Below.refl _ _) (Nat.le_refl _) neg (.slice A1 k1 c1)).trans (hb.mono hz)) (Nat.le_refl _) _ _⟩

set_option maxRecDepth 8000 in
set_option maxHeartbeats 1000000 in
/-- made of an amount and another one that have no common divisor -/
theorem ratmade_any (z p q : Nat) (neg : Bool) (u v : Value) (w : World) (h : RSlot w z) (hu : MagN w u p 1) (hv : MagN w v q 1) (hg : Nat.gcd p q = 1) (hn : neg = true → p ≠ 0) (h0 : 0 < q) :
    Calls Tryz.prog 195 #[.pointer (some ⟨z, 0, none⟩), .bool neg, u, v] w (WroteR w z neg p q) := by
  obtain ⟨A, k, c, rfl⟩ := hu.slice
  obtain ⟨A', k', c', rfl⟩ := hv.slice
  have HD := Lib.hid (divisor_one _ _ p q w hu hv)
  rw [hg] at HD
  have HU := Lib.hid (fun (W : World) (hW : Below w.heap.size w W) => clone_any _ p 1 W (hu.below hW) (by omega))
  have HV := Lib.hid (fun (W : World) (hW : Below w.heap.size w W) => hv.below hW)
  have H := Lib.hid h
  have HN := Lib.hid (And.intro hn h0)
  have hz : z < w.heap.size := h.1.1
  clear h hu hv hg hn h0
  go_enter Tryz.func195, Tryz.ntmps195
  go_wp2_with fail
  refine HD.out.mono ?_
  rintro e w1 ⟨g, rfl, hm, hb⟩
  have hb2 := hb.alloc hb.size (.cells #[.int .u64 1] 22)
  have HC := Lib.hid (compare_any _ _ 1 1 1 _ (hm.below ((Below.refl _ _).alloc (Nat.le_refl _) (.cells #[.int .u64 1] 22))) (one_new w1 22) (by omega))
  have HB := Lib.hid hb2
  clear hm hb hb2
  go_wp2_with fail
  refine HC.out.mono ?_
  rintro e w2 ⟨rfl, j, rfl⟩
  have hc1 : cmpN 1 1 = 0 := by unfold cmpN; simp
  go_wp2_with fail
  have hcur : Below w.heap.size w ((w1.alloc (.cells #[.int .u64 1] 22)).drewN j).drew := (below_dr HB.out j).drew
  go_region_held3 (fun _ => True) (trivial) (first | (go_at_call 141; refine (HU.out _ hcur).mono ?_; rintro e w3 ⟨x, rfl, hm, hb3⟩; obtain ⟨A1, k1, c1, rfl⟩ := hm.slice; have hcur3 := back_of' hcur hb3; have s1 := H.out.below hcur3 (Nat.le_refl _); have HW := Lib.hid (s1.1.magN (HV.out _ hcur3) neg (.slice A1 k1 c1)); have HM := Lib.hid (made_any z 0 neg A1 k1 c1 w3 s1.1); rw [neg_len hm HN.out.1] at HM; have HF := Lib.hid (And.intro hm hcur3); clear s1 hm hb3 hcur3) | (go_at_call 99; refine HM.out.mono ?_; rintro e w4 ⟨rfl, rfl⟩))
  have HX := Lib.hid (fun (W : World) (hW : Below (put w3 z 0 neg (.slice A1 k1 c1)).heap.size (put w3 z 0 neg (.slice A1 k1 c1)) W) (A2 : Option Addr) (k2 c2 : Nat) (hm : MagN W (.slice A2 k2 c2) q 1) => two_put (H.out.below HF.out.2 (Nat.le_refl _)) HF.out.1 hW hm HN.out.2)
  have HG := Lib.hid (HF.out.2.mono (Nat.le_of_lt hz))
  obtain ⟨W4, hW4⟩ : ∃ W4, put w3 z 0 neg (.slice A1 k1 c1) = W4 := ⟨_, rfl⟩
  rw [hW4] at HX HW
  rw [hW4]
  clear hcur HM HF hW4
  go_wp2_with fail
  have hcur : Below W4.heap.size W4 W4.drew := (Below.refl _ _).drew
  go_region_held3 (fun _ => True) (trivial) (first | (go_at_call 141; refine (clone_any _ q 1 _ (HW.out.below hcur) (by omega)).mono ?_; rintro e w5 ⟨x, rfl, hm, hb5⟩; obtain ⟨A2, k2, c2, rfl⟩ := hm.slice; obtain ⟨s2, r1, r2, r3⟩ := HX.out _ (back_of' hcur hb5) _ _ _ hm; have HM := Lib.hid (made_any z 2 false A2 k2 c2 w5 s2); have HF := Lib.hid (And.intro r1 (And.intro r2 r3)); clear s2 hm hb5 r1 r2 r3) | (go_at_call 99; refine HM.out.mono ?_; rintro e w4 ⟨rfl, rfl⟩))
  all_goals go_wp2_with fail
  all_goals (go_ret; exact ⟨rfl, HF.out.1, HF.out.2.1, HG.out.trans HF.out.2.2⟩)
end Go.Proofs.YtgccfdfbnhldbaaGreatDoor.Nb

namespace Go.Proofs.YtgccfdfbnhldbaaGreatDoor.Nb
open Go Go.RowKit

/-- a decimal lies in block b -/
def DecAt (w : World) (b : Nat) (v0 v1 v2 : Value) : Prop :=
  b < w.heap.size ∧ w.cell? ⟨b, 0, none⟩ = some v0 ∧ w.cell? ⟨b, 1, none⟩ = some v1 ∧ w.cell? ⟨b, 2, none⟩ = some v2 ∧ w.frozen? ⟨b, 0, none⟩ = false ∧ w.frozen? ⟨b, 1, none⟩ = false ∧ w.frozen? ⟨b, 2, none⟩ = false
theorem DecAt.kept {w w' : World} {b c : Nat} {v0 v1 v2 : Value} (h : DecAt w b v0 v1 v2) (k : Kept w w' c) (hne : b ≠ c) : DecAt w' b v0 v1 v2 := by
  obtain ⟨h1, h2, h3, h4, h5, h6, h7⟩ := h
  exact ⟨Nat.lt_of_lt_of_le h1 k.size, (k.cell (p := ⟨b, 0, none⟩) h1 hne).trans h2, (k.cell (p := ⟨b, 1, none⟩) h1 hne).trans h3, (k.cell (p := ⟨b, 2, none⟩) h1 hne).trans h4, (k.frozen (p := ⟨b, 0, none⟩) h1 hne).trans h5, (k.frozen (p := ⟨b, 1, none⟩) h1 hne).trans h6, (k.frozen (p := ⟨b, 2, none⟩) h1 hne).trans h7⟩
theorem DecAt.set1 {w : World} {b : Nat} {v0 v1 v2 : Value} (h : DecAt w b v0 v1 v2) (v : Value) : DecAt (w.setCell ⟨b, 1, none⟩ v) b v0 v v2 := by
  obtain ⟨h1, h2, h3, h4, h5, h6, h7⟩ := h
  refine ⟨by simpa [World.setCell] using h1, ?_, ?_, ?_, ?_, ?_, ?_⟩ <;> simp [go_sem, h2, h3, h4, h5, h6, h7]
theorem DecAt.set2 {w : World} {b : Nat} {v0 v1 v2 : Value} (h : DecAt w b v0 v1 v2) (v : Value) : DecAt (w.setCell ⟨b, 2, none⟩ v) b v0 v1 v := by
  obtain ⟨h1, h2, h3, h4, h5, h6, h7⟩ := h
  refine ⟨by simpa [World.setCell] using h1, ?_, ?_, ?_, ?_, ?_, ?_⟩ <;> simp [go_sem, h2, h3, h4, h5, h6, h7]
theorem DecAt.new (w : World) (v0 v1 v2 : Value) (t : TypeId) : DecAt (w.alloc (.cells #[v0, v1, v2] t)) w.heap.size v0 v1 v2 :=
  ⟨by simp, by simp [go_sem], by simp [go_sem], by simp [go_sem], by simp [go_sem], by simp [go_sem], by simp [go_sem]⟩
theorem CurAt.kept {w w' : World} {b c k : Nat} {s : ByteArray} (h : CurAt w b s k) (q : Kept w w' c) (hne : b ≠ c) : CurAt w' b s k := by
  obtain ⟨h1, h2, h3, h4⟩ := h
  exact ⟨Nat.lt_of_lt_of_le h1 q.size, (q.cell (p := ⟨b, 0, none⟩) h1 hne).trans h2, (q.cell (p := ⟨b, 1, none⟩) h1 hne).trans h3, (q.frozen (p := ⟨b, 1, none⟩) h1 hne).trans h4⟩
theorem below_bytes (w : World) (e : TypeId) (s : ByteArray) : Below w.heap.size w (Lib.bytesWorld w e s) :=
  ⟨rfl, rfl, rfl, by rw [Lib.bytesWorld_size]; omega, fun k hk => Lib.bytesWorld_at_old w e s k hk⟩

end Go.Proofs.YtgccfdfbnhldbaaGreatDoor.Nb

namespace Go.Proofs.YtgccfdfbnhldbaaGreatDoor.Nb
open Go Go.RowKit

theorem back_of {w w1 w2 : World} (h : Below w.heap.size w w1) (h2 : Below w1.heap.size w1 w2) : Below w.heap.size w w2 := h.trans (h2.mono h.size)

end Go.Proofs.YtgccfdfbnhldbaaGreatDoor.Nb

namespace Go.Proofs.YtgccfdfbnhldbaaGreatDoor.Nb
open Go Go.RowKit

theorem below_dr2 {B : Nat} {a w : World} (h : Below B a w) (n : Nat) : Below B a (w.drewN n) := ⟨h.os, h.tape, h.output, h.size, h.block⟩

set_option maxRecDepth 8000 in
/-- the sum of numbers from 0 on -/
theorem plus_pos (z zo b o m n : Nat) (v : Value) (w : World) (hz : ISlot w z zo) (hx : IntN w b o false m) (hv : MagN w v n 1) (h : m + n < 18446744073709551616) :
    Calls Tryz.prog 146 #[.pointer (some ⟨z, zo, none⟩), .pointer (some ⟨b, o, none⟩), .bool false, v] w (Wrote1 w z zo false (m + n)) := by
  obtain ⟨hb, h2, A, k, c, h3, h4⟩ := hx
  obtain ⟨A', k', c', rfl⟩ := hv.slice
  have HS := Lib.hid (sum_one _ _ m n w h4 hv h)
  have HZ := Lib.hid hz
  clear h4 hz hv
  go_enter Tryz.func146, Tryz.ntmps146
  go_wp2_with fail
  refine HS.out.mono ?_
  rintro e w1 ⟨x, rfl, hm, hb1⟩
  obtain ⟨A1, k1, c1, rfl⟩ := hm.slice
  have HM := Lib.hid (made_num z zo _ false A1 k1 c1 w1 (HZ.out.below hb1 (Nat.le_refl _)) hm (by simp))
  have HB := Lib.hid (hb1.mono (Nat.le_of_lt HZ.out.1))
  clear hm hb1
  go_wp2_with fail
  refine HM.out.mono ?_
  rintro e w2 h
  have HF := Lib.hid (h.after HB.out)
  obtain ⟨rfl, -⟩ := h
  go_wp2_with fail
  go_ret
  exact HF.out

set_option maxRecDepth 8000 in
set_option maxHeartbeats 1000000 in
theorem add_pos (z zo b o m b' o' n : Nat) (w : World) (hz : ISlot w z zo) (hx : IntN w b o false m) (hy : IntN w b' o' false n) (h : m + n < 18446744073709551616) :
    Calls Tryz.prog 90 #[.pointer (some ⟨z, zo, none⟩), .pointer (some ⟨b, o, none⟩), .pointer (some ⟨b', o', none⟩)] w (Wrote1 w z zo false (m + n)) := by
  obtain ⟨hb', h2', A', k', c', h3', h4'⟩ := hy
  have HP := Lib.hid (fun (W : World) (hW : Below w.heap.size w W) => plus_pos z zo b o m n (.slice A' k' c') W (hz.below hW (Nat.le_refl _)) (hx.below hW (Nat.le_refl _)) (h4'.below hW) h)
  have hZ : z ≤ w.heap.size := Nat.le_of_lt hz.1
  clear h4' hz hx
  go_enter Tryz.func90, Tryz.ntmps90
  go_wp2_with fail
  have hcur : Below w.heap.size w w.drew := (Below.refl _ _).drew
  go_region_with (first | (go_at_call 146; refine (HP.out _ hcur).mono ?_; rintro e w4 h; have HF := Lib.hid (h.after (hcur.mono hZ)); obtain ⟨rfl, -⟩ := h) | fail)
  all_goals go_wp2_with fail
  all_goals (go_ret; exact HF.out)
end Go.Proofs.YtgccfdfbnhldbaaGreatDoor.Nb

namespace Go.Proofs.YtgccfdfbnhldbaaGreatDoor.Nb
open Go Go.RowKit Go.Proofs

theorem sizeBuilder : (Tryz.prog.info? 106).map (·.size) = some 2 := by kernel_rfl
theorem liesBuilder : liesAt Tryz.prog Tryz.prog.depth 106 (2 / Tryz.prog.cellsOf 106) 0 106 1 = true := by kernel_rfl
theorem undPB : Tryz.prog.underlying 57 = some (.pointer 106) := by kernel_rfl
theorem undUP : Tryz.prog.underlying 179 = some .unsafePointer := by kernel_rfl
theorem undBS : Tryz.prog.underlying 104 = some (.slice 5) := by kernel_rfl
theorem undStr : Tryz.prog.underlying 9 = some .string := by kernel_rfl
theorem esc_run (v : Value) (w : World) : (callFunc 130 #[v]).run Tryz.prog w = .ok (.value v) w := by
  rw [run_callFunc_extern Tryz.func130 (by kernel_rfl) (by kernel_rfl) (by kernel_rfl) (e := Extern.AbiNoEscape.same) (by kernel_rfl)]
  rfl

set_option maxHeartbeats 1000000 in
set_option maxRecDepth 100000 in
theorem check_used (b : Nat) (w : World) (h0 : w.cell? ⟨b, 0, none⟩ = some (.pointer (some ⟨b, 0, none⟩))) :
    Calls Tryz.prog 75 #[.pointer (some ⟨b, 0, none⟩)] w fun e w' => e = .returned (.tuple #[]) ∧ w' = w := by
  obtain ⟨j, hj, _⟩ := Option.map_eq_some_iff.1 sizeBuilder
  have hn := Lib.run_neq_ptr_same w ⟨b, 0, none⟩ undPB hj
  go_enter Tryz.func75, Tryz.ntmps75
  go_wp2_with fail
  go_end0
  exact ⟨rfl, rfl⟩

set_option maxHeartbeats 1000000 in
set_option maxRecDepth 100000 in
theorem check_fresh (b : Nat) (w : World) (h0 : w.cell? ⟨b, 0, none⟩ = some (.pointer none)) (hsh : w.shape? b = some (106, 2)) (hfz : w.frozen? ⟨b, 0, none⟩ = false) :
    Calls Tryz.prog 75 #[.pointer (some ⟨b, 0, none⟩)] w fun e w' => e = .returned (.tuple #[]) ∧ w' = w.setCell ⟨b, 0, none⟩ (.pointer (some ⟨b, 0, none⟩)) := by
  obtain ⟨j, hj, hjs⟩ := Option.map_eq_some_iff.1 sizeBuilder
  have h1 := Lib.run_to_unsafe w ⟨b, 0, none⟩ undPB undUP hj (by rw [hjs]; decide) hsh (Nat.zero_lt_succ 1)
  have h2 := Lib.run_from_unsafe w ⟨b, 0, none⟩ undUP undPB hj hsh liesBuilder
  have h3 := esc_run (.pointer (some ⟨b, 0, none⟩)) w
  go_enter Tryz.func75, Tryz.ntmps75
  go_wp2_with fail
  go_end0
  exact ⟨rfl, rfl⟩

theorem check_any (B b : Nat) (bs : List Value) (w : World) (h : Lib.IsBuilder 106 5 B b bs w) :
    Calls Tryz.prog 75 #[.pointer (some ⟨b, 0, none⟩)] w fun e w' => e = .returned (.tuple #[]) ∧ (Lib.BuilderAt 106 5 B b (.pointer (some ⟨b, 0, none⟩)) bs w' ∧ Below B w w') := by
  rcases h with h | h
  · refine (check_fresh b w h.cell0 h.shape h.frozen0).mono ?_
    rintro e w' ⟨rfl, rfl⟩
    exact ⟨rfl, h.used _, (Below.refl B w).setCell (p := ⟨b, 0, none⟩) h.1 _⟩
  · refine (check_used b w h.cell0).mono ?_
    rintro e w' ⟨rfl, rfl⟩
    exact ⟨rfl, h, Below.refl B _⟩

set_option maxHeartbeats 2000000 in
set_option maxRecDepth 100000 in
theorem writeByte_any (B b : Nat) (bs : List Value) (c : Int) (w : World) (h : Lib.IsBuilder 106 5 B b bs w) (hlen : bs.length + 1 ≤ 140737488355328) (hBw : B ≤ w.heap.size) :
    Calls Tryz.prog 31 #[.pointer (some ⟨b, 0, none⟩), .int .u8 c] w fun e w' => e = .returned .nilIface ∧ (Lib.BuilderAt 106 5 B b (.pointer (some ⟨b, 0, none⟩)) (bs ++ [.int .u8 c]) w' ∧ Below B w w') := by
  obtain ⟨i0, hi, hz0, hz1, hz2⟩ := info_parts infoU
  have HK := Lib.hid (check_any B b bs w h)
  clear h
  go_enter Tryz.func31, Tryz.ntmps31
  go_wp2_with fail
  refine HK.out.mono ?_
  rintro e w1 ⟨rfl, h1, hb1⟩
  obtain ⟨hB, v, hbk, hown, hne⟩ := h1
  have c0 : w1.cell? ⟨b, 0, none⟩ = some (.pointer (some ⟨b, 0, none⟩)) := by rw [Lib.cell_of_heap hbk]; rfl
  have c1 : w1.cell? ⟨b, 1, none⟩ = some v := by rw [Lib.cell_of_heap hbk]; rfl
  go_wp2_with (at_builtin; refine wpList_append_own _ rfl _ _ 104 rfl B 5 i0 (.int .u8 0) 1 1 undBS hi hz0 hz1 hz2 rfl (by decide) _ _ _ rfl (hown.alloc _) ⟨w1.heap.size, 0, none⟩ 1 1 [.int .u8 c] rfl rfl ?c1 ?c2 ?c3 ?c4 ?c5 ?_)
  case c1 =>
    intro j u hj
    match j, hj with
    | 0, hj => simp at hj; subst hj; simp [Addr.add]
  case c2 => intro u hu; simp at hu; subst hu; rfl
  case c3 => unfold maxLen; omega
  case c4 => omega
  case c5 => have := hb1.size; simp; omega
  intro v' w2 hown' hgrow _
  have hlt : b < w1.heap.size := by
    rcases Nat.lt_or_ge b w1.heap.size with h' | h'
    · exact h'
    · simp [Array.getElem?_eq_none h'] at hbk
  have hb2 : w2.heap[b]? = some (.cells #[.pointer (some ⟨b, 0, none⟩), v] 106 (0, 0)) := by
    rw [hgrow.block b (by simp; omega) (fun e => hne e.symm), Lib.alloc_old w1 _ b hlt]
    exact hbk
  have d0 : w2.cell? ⟨b, 0, none⟩ = some (.pointer (some ⟨b, 0, none⟩)) := by rw [Lib.cell_of_heap hb2]; rfl
  have d1 : w2.cell? ⟨b, 1, none⟩ = some v := by rw [Lib.cell_of_heap hb2]; rfl
  have f1 : w2.frozen? ⟨b, 1, none⟩ = false := Lib.frozen_of_heap hb2 1
  obtain ⟨g, cap, rfl⟩ : ∃ g cap, v' = .slice (some ⟨g, 0, none⟩) (bs.length + 1) cap := by
    rcases hown'.2 with ⟨_, h0⟩ | ⟨g, cap, cur, hv, _⟩
    · omega
    · exact ⟨g, cap, hv⟩
  go_wp2_with fail
  go_ret
  refine ⟨rfl, ?_, ?_⟩
  · exact Lib.BuilderAt.put (T := 106) (e := 5) hB hb2 (bs' := bs ++ [.int .u8 c]) (by simpa using hown') (by decide)
  · exact ((hb1.alloc (by have := hb1.size; omega) _).grown hgrow (by have := hb1.size; simp; omega) (fun k hk => (hown.lt k hk).1)).setCell (p := ⟨b, 1, none⟩) hB _

set_option maxHeartbeats 2000000 in
set_option maxRecDepth 100000 in
theorem writeString_any (B b : Nat) (bs : List Value) (s : ByteArray) (w : World) (h : Lib.IsBuilder 106 5 B b bs w) (hlen : bs.length + s.size ≤ 140737488355328) (hBw : B ≤ w.heap.size) :
    Calls Tryz.prog 28 #[.pointer (some ⟨b, 0, none⟩), .string s] w fun e w' => e = .returned (.tuple #[.int .i64 s.size, .nilIface]) ∧ (Lib.BuilderAt 106 5 B b (.pointer (some ⟨b, 0, none⟩)) (bs ++ Lib.strCells s) w' ∧ Below B w w') := by
  obtain ⟨i0, hi, hz0, hz1, hz2⟩ := info_parts infoU
  have HK := Lib.hid (check_any B b bs w h)
  clear h
  go_enter Tryz.func28, Tryz.ntmps28
  go_wp2_with fail
  refine HK.out.mono ?_
  rintro e w1 ⟨rfl, h1, hb1⟩
  obtain ⟨hB, v, hbk, hown, hne⟩ := h1
  have c0 : w1.cell? ⟨b, 0, none⟩ = some (.pointer (some ⟨b, 0, none⟩)) := by rw [Lib.cell_of_heap hbk]; rfl
  have c1 : w1.cell? ⟨b, 1, none⟩ = some v := by rw [Lib.cell_of_heap hbk]; rfl
  go_wp2_with (at_builtin; refine Lib.wpList_append_own_string _ rfl _ _ 104 9 rfl B 5 i0 undBS undStr hi hz0 hz1 hz2 _ _ _ rfl hown s rfl ?c3 ?c4 ?c5 ?_)
  case c3 => unfold maxLen; omega
  case c4 => omega
  case c5 => have := hb1.size; omega
  intro v' w2 hown' hgrow _
  have hlt : b < w1.heap.size := by
    rcases Nat.lt_or_ge b w1.heap.size with h' | h'
    · exact h'
    · simp [Array.getElem?_eq_none h'] at hbk
  have hb2 : w2.heap[b]? = some (.cells #[.pointer (some ⟨b, 0, none⟩), v] 106 (0, 0)) := by
    rw [hgrow.block b hlt (fun e => hne e.symm)]
    exact hbk
  have d0 : w2.cell? ⟨b, 0, none⟩ = some (.pointer (some ⟨b, 0, none⟩)) := by rw [Lib.cell_of_heap hb2]; rfl
  have d1 : w2.cell? ⟨b, 1, none⟩ = some v := by rw [Lib.cell_of_heap hb2]; rfl
  have f1 : w2.frozen? ⟨b, 1, none⟩ = false := Lib.frozen_of_heap hb2 1
  obtain ⟨ao, n', cap, rfl⟩ : ∃ ao n' cap, v' = .slice ao n' cap := by
    rcases hown'.2 with ⟨hv, _⟩ | ⟨g, cap, cur, hv, _⟩
    · exact ⟨_, _, _, hv⟩
    · exact ⟨_, _, _, hv⟩
  go_wp2_with fail
  go_ret2
  refine ⟨rfl, ?_, ?_⟩
  · exact Lib.BuilderAt.put (T := 106) (e := 5) hB hb2 (bs' := bs ++ Lib.strCells s) (by simpa [Lib.strCells_length] using hown') (by decide)
  · exact (hb1.grown hgrow (by have := hb1.size; omega) (fun k hk => (hown.lt k hk).1)).setCell (p := ⟨b, 1, none⟩) hB _
end Go.Proofs.YtgccfdfbnhldbaaGreatDoor.Nb

namespace Go.Proofs.YtgccfdfbnhldbaaGreatDoor.Nb
open Go Go.RowKit

/-- a row os in block g, of which n + 1 digits from j on are divided by the n digits vs -/
structure KnIn (w : World) (g j n : Nat) (os vs : List Nat) (V : Option Addr) (cv : Nat) : Prop where
  blk : BlkP w g os
  wo : W64 os
  mag : Mag w (.slice V n cv) vs
  n2 : 2 ≤ n
  lt : j + n < os.length
  cl : Clear os (j + n + 1)
  dv : val os < val vs * 18446744073709551616 ^ (j + 1)
  v1 : 0 < vs.getD (n - 1) 0
  lo : os.length ≤ 1099511627776
/-- the digits that a guess looks at -/
structure KnDig (U V n x0 x1 x2 y1 y2 : Nat) : Prop where
  w : x0 < 18446744073709551616 ∧ x1 < 18446744073709551616 ∧ x2 < 18446744073709551616 ∧ y1 < 18446744073709551616 ∧ y2 < 18446744073709551616
  y0 : 0 < y1
  dv : U / V < 18446744073709551616
  top : x2 < y1 → U / V ≤ (x2 * 18446744073709551616 + x1) / y1
  next : ∀ q rest, q * y1 + rest = x2 * 18446744073709551616 + x1 → U / V ≤ q → rest * 18446744073709551616 + x0 < q * y2 → U / V ≤ q - 1
theorem KnIn.dig {w : World} {g j n : Nat} {os vs : List Nat} {V : Option Addr} {cv : Nat} (h : KnIn w g j n os vs V cv) :
    KnDig (val os / 18446744073709551616 ^ j) (val vs) n (os.getD (j + (n - 2)) 0) (os.getD (j + (n - 1)) 0) (os.getD (j + n) 0) (vs.getD (n - 1) 0) (vs.getD (n - 2) 0) := by
  have hn := h.mag.lenN
  obtain ⟨-, U0, hU, hU0⟩ := win_parts h.n2 h.lt h.cl
  have hU0 := hU0 h.wo
  obtain ⟨V0, hV⟩ := div_parts (vs := vs) (by have := h.n2; omega)
  rw [← hn] at hV
  rw [drop_div h.wo (by have := h.lt; omega)] at hU
  refine ⟨⟨h.wo.get _, h.wo.get _, h.wo.get _, h.mag.w32.get _, h.mag.w32.get _⟩, h.v1, ?_, fun _ => guess_first hU hU0 (h.wo.get _) hV h.v1, fun q rest e l d => guess_next hU hU0 hV e l d⟩
  rw [Nat.div_div_eq_div_mul]
  refine (Nat.div_lt_iff_lt_mul ?_).2 ?_
  · refine Nat.mul_pos (Nat.pow_pos (by omega)) ?_
    have := h.dv
    rcases Nat.eq_zero_or_pos (val vs) with h0 | h0
    · rw [h0] at this; omega
    · exact h0
  · have := h.dv
    rw [Nat.pow_succ] at this
    rw [Nat.mul_comm (18446744073709551616 ^ j), ← Nat.mul_assoc, Nat.mul_comm 18446744073709551616, Nat.mul_assoc, Nat.mul_comm 18446744073709551616]
    exact this

theorem mul_parts {q y p : Nat} (hq : q < 18446744073709551616) (hy : y < 18446744073709551616) (hp : q * y = p) : p / 18446744073709551616 < 18446744073709551616 := by
  have : q * y ≤ 18446744073709551615 * 18446744073709551615 := Nat.mul_le_mul (by omega) (by omega)
  omega

set_option maxRecDepth 8000 in
set_option maxHeartbeats 4000000 in
theorem guess_any (g j n cu : Nat) (os vs : List Nat) (V : Option Addr) (cv : Nat) (w : World) (h : KnIn w g j n os vs V cv) :
    Calls Tryz.prog 200 #[.slice (some ⟨g, j, none⟩) (n + 1) cu, .slice V n cv] w fun e w' => ∃ q : Nat, e = .returned (.int .u64 (q : Int)) ∧ (q < 18446744073709551616 ∧ val os / 18446744073709551616 ^ j / val vs ≤ q) ∧ ∃ k, w' = w.drewN k := by
  have hd := h.dig
  have hc2 := h.blk.cell (j := j + n) h.lt
  have hc1 := h.blk.cell (j := j + (n - 1)) (by have := h.lt; omega)
  have hc0 := h.blk.cell (j := j + (n - 2)) (by have := h.lt; omega)
  have hn := h.n2
  obtain ⟨b, o, rfl, hb, hv1⟩ := h.mag.at (j := n - 1) (by omega)
  obtain ⟨b', o', e', hb', hv2⟩ := h.mag.at (j := n - 2) (by omega)
  injection e' with e'
  injection e' with e1 e2 _
  subst e1 e2
  clear hb hb'
  have hnl : (n : Int) ≤ 1099511627776 := by have := h.lt; have := h.lo; omega
  clear h
  obtain ⟨U, hU⟩ : ∃ U, val os / 18446744073709551616 ^ j = U := ⟨_, rfl⟩
  obtain ⟨Z, hZ⟩ : ∃ Z, val vs = Z := ⟨_, rfl⟩
  obtain ⟨x0, h0⟩ : ∃ x, os.getD (j + (n - 2)) 0 = x := ⟨_, rfl⟩
  obtain ⟨x1, h1⟩ : ∃ x, os.getD (j + (n - 1)) 0 = x := ⟨_, rfl⟩
  obtain ⟨x2, h2⟩ : ∃ x, os.getD (j + n) 0 = x := ⟨_, rfl⟩
  obtain ⟨y1, h3⟩ : ∃ x, vs.getD (n - 1) 0 = x := ⟨_, rfl⟩
  obtain ⟨y2, h4⟩ : ∃ x, vs.getD (n - 2) 0 = x := ⟨_, rfl⟩
  rw [hU, hZ, h0, h1, h2, h3, h4] at hd
  rw [hU, hZ]
  rw [h2] at hc2
  rw [h1] at hc1
  rw [h0] at hc0
  rw [h3] at hv1
  rw [h4] at hv2
  clear hU hZ h0 h1 h2 h3 h4
  have HD := Lib.hid hd
  obtain ⟨⟨l0, l1, l2, l3, l4⟩, hy0, hdv, -, -⟩ := hd
  have HL := Lib.hid (And.intro l0 (And.intro l1 (And.intro l2 (And.intro l3 l4))))
  have i1 : (0 : Int) ≤ (n : Int) - 1 := by omega
  have i2 : (0 : Int) ≤ (n : Int) - 2 := by omega
  have i3 : (n : Int) - 1 < (n : Int) + 1 := by omega
  have i4 : (n : Int) - 2 < (n : Int) + 1 := by omega
  have i5 : (n : Int) - 1 < (n : Int) := by omega
  have i6 : (n : Int) - 2 < (n : Int) := by omega
  have t1 : ((n : Int) - 1).toNat = n - 1 := by omega
  have t2 : ((n : Int) - 2).toNat = n - 2 := by omega
  have HDV := Lib.hid hdv
  clear l0 l1 l2 l4 hdv
  by_cases c : y1 ≤ x2
  · go_enter Tryz.func200, Tryz.ntmps200
    go_wp2_with fail
    go_quiet (fail)
    go_wp2_with fail
    go_ret
    exact ⟨18446744073709551615, rfl, ⟨by omega, by have := HDV.out; omega⟩, _, rfl⟩
  · have hx : x2 < y1 := by omega
    have c' : ¬ (y1 : Int) ≤ (x2 : Int) := by omega
    have HR := Lib.hid (fun W => div_run x2 x1 y1 W hx l3 HL.out.2.1)
    obtain ⟨q0, hq0⟩ : ∃ q0, (x2 * 18446744073709551616 + x1) / y1 = q0 := ⟨_, rfl⟩
    obtain ⟨r0, hr0⟩ : ∃ r0, (x2 * 18446744073709551616 + x1) % y1 = r0 := ⟨_, rfl⟩
    have HI : Hid (q0 * y1 + r0 = x2 * 18446744073709551616 + x1 ∧ r0 < 18446744073709551616 ∧ U / Z ≤ q0 ∧ q0 < 18446744073709551616) := Lib.hid (by
      have e := Nat.div_add_mod (x2 * 18446744073709551616 + x1) y1
      rw [hq0, hr0, Nat.mul_comm] at e
      have hm := Nat.mod_lt (x2 * 18446744073709551616 + x1) hy0
      refine ⟨e, by omega, by rw [← hq0]; exact HD.out.top hx, ?_⟩
      rw [← hq0]
      refine (Nat.div_lt_iff_lt_mul hy0).2 ?_
      have := HL.out.2.1
      have h9 : (x2 + 1) * 18446744073709551616 ≤ y1 * 18446744073709551616 := Nat.mul_le_mul_right _ hx
      omega)
    rw [hq0, hr0] at HR
    clear hq0 hr0 hx c
    go_enter Tryz.func200, Tryz.ntmps200
    go_wp2_with fail
    go_quiet (fail)
    go_wp2_with fail
    go_quiet ((go_at_call 199; exact quiet_more (HR.out _)))
    go_wp2_with fail
    rename_i hz
    clear c' hz
    go_loopw [6, 7] (fun qv rv wr => ∃ (q rest : Nat), qv = .int .u64 (q : Int) ∧ rv = .int .u64 (rest : Int) ∧ Hid (q * y1 + rest = x2 * 18446744073709551616 + x1 ∧ rest < 18446744073709551616 ∧ U / Z ≤ q ∧ q < 18446744073709551616) ∧ ∃ k, wr = w.drewN k) (fun qv _ _ => (intOf qv).toNat)
    case atStart => exact ⟨q0, r0, rfl, rfl, HI, _, World.drewN_drewN _ _ _⟩
    case round =>
      clear HI HR
      obtain ⟨q, rest, rfl, rfl, hh, k, rfl⟩ := hrel
      have hql := hh.out.2.2.2
      have hrl := hh.out.2.1
      have HM := Lib.hid (fun W => Tryz.bits_Mul64 q y2 hql HL.out.2.2.2.2 W)
      obtain ⟨p, hp⟩ : ∃ p, q * y2 = p := ⟨_, rfl⟩
      have hpb := mul_parts hql HL.out.2.2.2.2 hp
      rw [hp] at HM
      obtain ⟨hi, hhi⟩ : ∃ x, p / 18446744073709551616 = x := ⟨_, rfl⟩
      obtain ⟨lo, hlo⟩ : ∃ x, p % 18446744073709551616 = x := ⟨_, rfl⟩
      rw [hhi, hlo] at HM
      rw [hhi] at hpb
      have HP := Lib.hid (And.intro hp (And.intro hhi hlo))
      have hx0 := HL.out.1
      clear hp hhi hlo
      by_cases c1 : hi < rest
      · have g1 : (hi : Int) < (rest : Int) := by omega
        go_wp2_with fail
        refine (HM.out _).mono ?_
        rintro e w9 ⟨rfl, rfl⟩
        go_wp2_with fail
        go_ret
        exact ⟨q, rfl, ⟨hql, hh.out.2.2.1⟩, k, rfl⟩
      by_cases c2 : hi = rest ∧ lo ≤ x0
      · obtain ⟨rfl, c3⟩ := c2
        have g1 : (lo : Int) ≤ (x0 : Int) := by omega
        clear c1
        go_wp2_with fail
        refine (HM.out _).mono ?_
        rintro e w9 ⟨rfl, rfl⟩
        go_wp2_with fail
        go_ret
        exact ⟨q, rfl, ⟨hql, hh.out.2.2.1⟩, k, rfl⟩
      have HN : Hid (U / Z ≤ q - 1 ∧ 0 < q) := Lib.hid (by
        have hlt : rest * 18446744073709551616 + x0 < q * y2 := by
          have := HP.out
          rw [this.1]
          omega
        refine ⟨HD.out.next q rest hh.out.1 hh.out.2.2.1 hlt, ?_⟩
        rcases Nat.eq_zero_or_pos q with h0 | h0
        · rw [h0] at hlt; omega
        · exact h0)
      have g1 : ¬ (hi : Int) < (rest : Int) := by omega
      have hA := add_run0 rest y1
      obtain ⟨r2, hr2⟩ : ∃ x, (rest + y1) % 18446744073709551616 = x := ⟨_, rfl⟩
      obtain ⟨cy, hcy⟩ : ∃ x, (rest + y1) / 18446744073709551616 = x := ⟨_, rfl⟩
      rw [hr2, hcy] at hA
      have HR2 := Lib.hid (And.intro hr2 hcy)
      have q1 : IntKind.u64.wrap ((q : Int) - 1) = ((q - 1 : Nat) : Int) := by
        have := HN.out.2
        rw [IntKind.wrap_u64]
        omega
      have HC2 : Hid (hi = rest → x0 < lo) := Lib.hid (fun e => by
        rcases Nat.lt_or_ge x0 lo with h | h
        · exact h
        · exact absurd ⟨e, h⟩ c2)
      clear hr2 hcy c2 c1
      by_cases c3 : cy = 0
      · subst c3
        have HZ : Hid ((q - 1) * y1 + r2 = x2 * 18446744073709551616 + x1 ∧ r2 < 18446744073709551616 ∧ U / Z ≤ q - 1 ∧ q - 1 < 18446744073709551616) := Lib.hid (by
          have a1 := HR2.out
          have a2 := hh.out.1
          have a3 := HN.out
          obtain ⟨p, rfl⟩ : ∃ p, q = p + 1 := ⟨q - 1, by omega⟩
          rw [Nat.add_sub_cancel] at a3 ⊢
          rw [Nat.add_mul] at a2
          exact ⟨by omega, by omega, a3.1, by omega⟩)
        by_cases c4 : hi = rest
        · have g2 := HC2.out c4
          subst c4
          have g3 : ¬ (lo : Int) ≤ (x0 : Int) := by omega
          go_wp2_with fail
          refine (HM.out _).mono ?_
          rintro e w9 ⟨rfl, rfl⟩
          go_wp2_with fail
          go_roundw
          case rel => exact ⟨q - 1, r2, rfl, rfl, HZ, k, rfl⟩
          case measure => have := HN.out.2; simp [intOf]; omega
        · have g2 : ((hi : Int) == (rest : Int)) = false := by simp; omega
          go_wp2_with fail
          refine (HM.out _).mono ?_
          rintro e w9 ⟨rfl, rfl⟩
          go_wp2_with fail
          go_roundw
          case rel => exact ⟨q - 1, r2, rfl, rfl, HZ, k, rfl⟩
          case measure => have := HN.out.2; simp [intOf]; omega
      · have g4 : ((cy : Int) != 0) = true := by simp; omega
        by_cases c4 : hi = rest
        · have g2 := HC2.out c4
          subst c4
          have g3 : ¬ (lo : Int) ≤ (x0 : Int) := by omega
          go_wp2_with fail
          refine (HM.out _).mono ?_
          rintro e w9 ⟨rfl, rfl⟩
          go_wp2_with fail
          go_ret
          exact ⟨q - 1, rfl, ⟨by omega, HN.out.1⟩, k, rfl⟩
        · have g2 : ((hi : Int) == (rest : Int)) = false := by simp; omega
          go_wp2_with fail
          refine (HM.out _).mono ?_
          rintro e w9 ⟨rfl, rfl⟩
          go_wp2_with fail
          go_ret
          exact ⟨q - 1, rfl, ⟨by omega, HN.out.1⟩, k, rfl⟩
end Go.Proofs.YtgccfdfbnhldbaaGreatDoor.Nb

namespace Go.Proofs.YtgccfdfbnhldbaaGreatDoor.Nb
open Go Go.RowKit

/-- a row of N words in block g that are 0 from word K on; nothing else has turned -/
structure KnW (w wr : World) (g N K : Nat) (os : List Nat) : Prop where
  blk : BlkP wr g os
  len : os.length = N
  w64 : W64 os
  cl : Clear os K
  below : Below g w wr
  kept : Kept w wr g
theorem KnW.set {w wr : World} {g N K : Nat} {os : List Nat} (h : KnW w wr g N K os) {i x : Nat} {z : Int} (hi : i < K) (hx : x < 18446744073709551616) (hz : z = (x : Int)) : KnW w (wr.setCell ⟨g, i, none⟩ (.int .u64 z)) g N K (os.set i x) :=
  ⟨h.blk.setI hz, by rw [List.length_set]; exact h.len, h.w64.set hx, h.cl.set hi, h.below.setCell (p := ⟨g, i, none⟩) (Nat.le_refl _) _, h.kept.setCell _⟩
theorem KnW.drewN {w wr : World} {g N K : Nat} {os : List Nat} (h : KnW w wr g N K os) (n : Nat) : KnW w (wr.drewN n) g N K os :=
  ⟨h.blk, h.len, h.w64, h.cl, below_dN h.below n, h.kept.drewN n⟩
theorem clear_zero : ∀ {ws : List Nat}, Clear ws 0 → val ws = 0 := by
  intro ws
  induction ws with
  | nil => intro _; rfl
  | cons a r ih =>
    intro h
    have h0 := h 0 (Nat.le_refl _)
    have ht := ih (fun k _ => by have := h (k + 1) (Nat.zero_le _); simpa using this)
    simp only [List.getD_cons_zero] at h0
    simp [val, h0, ht]
theorem clear_lt {os : List Nat} {K : Nat} (hw : W64 os) (hc : Clear os K) : val os < 18446744073709551616 ^ K := by
  by_cases h : K ≤ os.length
  · have h1 := val_take_drop os h
    have h2 := val_take_lt hw K
    have h3 : val (os.drop K) = 0 := clear_zero fun i _ => by
      rw [List.getD_eq_getElem?_getD, List.getElem?_drop, ← List.getD_eq_getElem?_getD]
      exact hc _ (by omega)
    rw [h3] at h1
    omega
  · have h1 := val_lt hw
    have h2 : 18446744073709551616 ^ os.length ≤ 18446744073709551616 ^ K := Nat.pow_le_pow_right (by omega) (by omega)
    omega

/-- taking away, as far as digit i -/
def StepA (w wr : World) (g N n j R q i c b : Nat) (vs : List Nat) : Prop := ∃ os, KnW w wr g N (j + n + 1) os ∧ SubSt vs os R q j i c b
/-- behind a taking away -/
def StepB (w wr : World) (g N n j R V q b : Nat) : Prop := ∃ os, KnW w wr g N (j + n + 1) os ∧ BackSt os R V (18446744073709551616 ^ (j + n + 1)) q b
/-- adding back, as far as digit i -/
def StepC (w wr : World) (g N n j S i c : Nat) (vs : List Nat) : Prop := ∃ os, KnW w wr g N (j + n + 1) os ∧ AddSt vs os S j i c

theorem sub_eq {x lo b d b' : Nat} (hb : b ≤ 1) (hx : x < 18446744073709551616) (hlo : lo < 18446744073709551616) (hd : (x + 18446744073709551616 - lo - b) % 18446744073709551616 = d) (hb' : (if x < lo + b then 1 else 0 : Nat) = b') :
    d + lo + b = x + b' * 18446744073709551616 ∧ d < 18446744073709551616 ∧ b' ≤ 1 := by
  subst hd hb'
  split <;> omega

set_option maxRecDepth 8000 in
set_option maxHeartbeats 8000000 in
theorem step_any (g j n cu : Nat) (os vs : List Nat) (b o cv : Nat) (w : World) (h : KnIn w g j n os vs (some ⟨b, o, none⟩) cv) (hg : b ≠ g) :
    Calls Tryz.prog 161 #[.slice (some ⟨g, j, none⟩) (n + 1) cu, .slice (some ⟨b, o, none⟩) n cv] w fun e w' => e = .returned (.int .u64 ((val os / (18446744073709551616 ^ j * val vs) : Nat) : Int)) ∧ ∃ os', KnW w w' g os.length (j + n + 1) os' ∧ val os' = val os % (18446744073709551616 ^ j * val vs) := by
  have HG := Lib.hid (guess_any g j n cu os vs _ cv w h)
  obtain ⟨R, hR⟩ : ∃ R, val os = R := ⟨_, rfl⟩
  obtain ⟨N, hN⟩ : ∃ N, os.length = N := ⟨_, rfl⟩
  obtain ⟨V, hV⟩ : ∃ V, 18446744073709551616 ^ j * val vs = V := ⟨_, rfl⟩
  have hV0 : 0 < V := by
    rw [← hV]
    refine Nat.mul_pos (Nat.pow_pos (by omega)) ?_
    have := h.dv
    rcases Nat.eq_zero_or_pos (val vs) with h0 | h0
    · rw [h0] at this; omega
    · exact h0
  have HA : Hid (∀ q, StepA w w g N n j R q 0 0 0 vs) := Lib.hid fun q => ⟨os, ⟨h.blk, hN, h.wo, h.cl, Below.refl _ _, Kept.refl _ _⟩, by rw [← hR]; exact sub_start vs os q j⟩
  have HM := Lib.hid h.mag
  have hn := h.mag.lenN
  have hnl : (n : Int) ≤ 1099511627776 := by have := h.lt; have := h.lo; omega
  have hjl : (j : Int) ≤ 1099511627776 := by have := h.lt; have := h.lo; omega
  have hlt : j + n < N := by rw [← hN]; exact h.lt
  have HH := Lib.hid (And.intro hn (And.intro hV (And.intro hV0 (And.intro hlt hg))))
  rw [Nat.div_div_eq_div_mul, hR, hV] at HG
  rw [hR, hN, hV]
  clear h hg hR hN hV hV0 hn hlt
  go_enter Tryz.func161, Tryz.ntmps161
  go_wp2_with fail
  refine HG.out.mono ?_
  rintro e w1 ⟨q, rfl, hq, kk, rfl⟩
  have HQ := Lib.hid hq
  have hql := hq.1
  have H0 : Hid (StepA w (w.drewN kk) g N n j R q 0 0 0 vs) := Lib.hid (by obtain ⟨os, h1, h2⟩ := HA.out q; exact ⟨os, h1.drewN kk, h2⟩)
  clear hq HA HG
  go_wp2_with fail
  go_loopw [7, 8, 18] (fun cv' bv iv wr => ∃ i c b' : Nat, i ≤ n ∧ cv' = .int .u64 (c : Int) ∧ bv = .int .u64 (b' : Int) ∧ iv = .int .i64 (i : Int) ∧ (c < 18446744073709551616 ∧ b' ≤ 1) ∧ Hid (StepA w wr g N n j R q i c b' vs)) (fun _ _ iv _ => n - (intOf iv).toNat)
  case atStart => exact ⟨0, 0, 0, Nat.zero_le _, rfl, rfl, rfl, by omega, H0⟩
  case round =>
    clear H0
    obtain ⟨i, c, b', hi, rfl, rfl, rfl, ⟨hcl, hbl⟩, hh⟩ := hrel
    obtain ⟨os', hk, hs⟩ := hh.out
    by_cases hlt : i < n
    · obtain ⟨x, hx⟩ : ∃ x, os'.getD (j + i) 0 = x := ⟨_, rfl⟩
      have hco := hk.blk.cell (j := j + i) (by have := HH.out.2.2.2.1; have := hk.len; omega)
      have hfr := hk.blk.frozen (j + i)
      have hxl := hk.w64.get (j + i)
      rw [hx] at hco hxl
      obtain ⟨b1, o1, e1, hb1, hc1⟩ := HM.out.at hlt
      injection e1 with e1
      injection e1 with e1 e2 _
      subst e1 e2
      have hvc := (hk.kept.cell (p := ⟨b, o + i, none⟩) hb1 HH.out.2.2.2.2).trans hc1
      obtain ⟨y, hy⟩ : ∃ y, vs.getD i 0 = y := ⟨_, rfl⟩
      have hyl := HM.out.w32.get i
      rw [hy] at hvc hyl
      have HFO : Hid (∀ W, Calls Tryz.prog 157 #[.int .u64 (q : Int), .int .u64 (y : Int), .int .u64 0, .int .u64 (c : Int)] W fun e w' => e = .returned (.tuple #[.int .u64 (((q * y + 0 + c) / 18446744073709551616 : Nat) : Int), .int .u64 (((q * y + 0 + c) % 18446744073709551616 : Nat) : Int)]) ∧ w' = W) := Lib.hid (fun W => fold_any q y 0 c W hql hyl (by omega) hcl)
      obtain ⟨c2, hc2⟩ : ∃ x, (q * y + 0 + c) / 18446744073709551616 = x := ⟨_, rfl⟩
      obtain ⟨lo, hlo⟩ : ∃ x, (q * y + 0 + c) % 18446744073709551616 = x := ⟨_, rfl⟩
      rw [hc2, hlo] at HFO
      have hf : q * y + c = c2 * 18446744073709551616 + lo ∧ lo < 18446744073709551616 ∧ c2 < 18446744073709551616 := by
        have : q * y ≤ 18446744073709551615 * 18446744073709551615 := Nat.mul_le_mul (by omega) (by omega)
        omega
      have hsub := sub_run x lo b' hbl
      obtain ⟨d, hd⟩ : ∃ h, (x + 18446744073709551616 - lo - b') % 18446744073709551616 = h := ⟨_, rfl⟩
      obtain ⟨b2, hb2⟩ : ∃ h, (if x < lo + b' then 1 else 0 : Nat) = h := ⟨_, rfl⟩
      rw [hd, hb2] at hsub
      have hse := sub_eq hbl hxl hf.2.1 hd hb2
      have HS : Hid (KnW w wr g N (j + n + 1) os' ∧ SubSt vs (os'.set (j + i) d) R q j (i + 1) c2 b2 ∧ d < 18446744073709551616 ∧ b2 ≤ 1 ∧ c2 < 18446744073709551616) := Lib.hid ⟨hk, sub_step hs (by have := HH.out.1; omega) (by have := HH.out.2.2.2.1; have := hk.len; omega) (by rw [hy]; exact hf.1) (by rw [hx]; exact hse.1), hse.2.1, hse.2.2, hf.2.2⟩
      clear hk hs hx hy hb1 hc1 hf hd hb2 hse hc2 hlo hxl hyl
      have i0 : (0 : Int) ≤ (i : Int) := by omega
      have i1 : (i : Int) < (n : Int) := by omega
      have i2 : (i : Int) < (n : Int) + 1 := by omega
      go_wp2_with fail
      refine (HFO.out _).mono ?_
      rintro e w9 ⟨rfl, rfl⟩
      go_wp2_with fail
      go_roundw
      case rel => exact ⟨i + 1, c2, b2, by omega, rfl, rfl, by go_num, ⟨HS.out.2.2.2.2, HS.out.2.2.2.1⟩, Lib.hid ⟨_, HS.out.1.set (by omega) HS.out.2.2.1 rfl, HS.out.2.1⟩⟩
      case measure => simp [intOf]; omega
    · obtain rfl : i = n := by omega
      obtain ⟨x, hx⟩ : ∃ x, os'.getD (j + i) 0 = x := ⟨_, rfl⟩
      have hco := hk.blk.cell (j := j + i) (by have := HH.out.2.2.2.1; have := hk.len; omega)
      have hfr := hk.blk.frozen (j + i)
      have hxl := hk.w64.get (j + i)
      rw [hx] at hco hxl
      have hsub := sub_run x c b' hbl
      obtain ⟨d, hd⟩ : ∃ h, (x + 18446744073709551616 - c - b') % 18446744073709551616 = h := ⟨_, rfl⟩
      obtain ⟨b2, hb2⟩ : ∃ h, (if x < c + b' then 1 else 0 : Nat) = h := ⟨_, rfl⟩
      rw [hd, hb2] at hsub
      have hse := sub_eq hbl hxl hcl hd hb2
      have HB : Hid (b2 ≤ 1 ∧ StepB w (wr.setCell ⟨g, j + i, none⟩ (.int .u64 (d : Int))) g N i j R V q b2) := Lib.hid (by
        have h1 := sub_last hs HH.out.1 (by have := HH.out.2.2.2.1; have := hk.len; omega) (by rw [hx]; exact hse.1)
        have h2 := hk.set (i := j + i) (x := d) (z := d) (by omega) hse.2.1 rfl
        rw [HH.out.2.1] at h1
        exact ⟨hse.2.2, _, h2, ⟨h1, clear_lt h2.w64 h2.cl, HQ.out.2, hse.2.2⟩⟩)
      clear hk hs hx hd hb2 hse hxl hcl hbl hh hlt
      have i2 : (i : Int) < (i : Int) + 1 := by omega
      go_wp2_with fail
      go_loopw [6, 8] (fun qv bv wr2 => ∃ q' b' : Nat, qv = .int .u64 (q' : Int) ∧ bv = .int .u64 (b' : Int) ∧ (b' ≤ 1 ∧ q' < 18446744073709551616) ∧ Hid (StepB w wr2 g N i j R V q' b')) (fun qv _ _ => (intOf qv).toNat)
      case atStart => exact ⟨q, b2, rfl, rfl, ⟨HB.out.1, hql⟩, Lib.hid HB.out.2⟩
      case round =>
        clear HB hsub hco hfr HQ hql
        obtain ⟨q', b', rfl, rfl, ⟨hbl, hql⟩, hh⟩ := hrel
        by_cases hb0 : b' = 0
        · subst hb0
          go_wp2_with fail
          go_ret
          obtain ⟨os', hk, hs⟩ := hh.out
          obtain ⟨h1, h2⟩ := back_shut hs HH.out.2.2.1
          exact ⟨congrArg (fun z : Nat => Ending.returned (.int .u64 (z : Int))) h1, os', hk, h2⟩
        · obtain rfl : b' = 1 := by omega
          obtain ⟨os', hk, hs⟩ := hh.out
          have HBK := Lib.hid hs
          obtain ⟨S, hS⟩ : ∃ S, val os' = S := ⟨_, rfl⟩
          have HSV := Lib.hid hS
          have HC0 : Hid (StepC w wr g N i j S 0 0 vs) := Lib.hid ⟨os', hk, by rw [← hS]; exact add_start vs os' j⟩
          clear hk hs hh hS hb0
          rw [show ((1 : Nat) : Int) = 1 from rfl]
          go_wp2_with fail
          go_loopw [7, 61] (fun cv' iv wr3 => ∃ k c : Nat, k ≤ i ∧ cv' = .int .u64 (c : Int) ∧ iv = .int .i64 (k : Int) ∧ c ≤ 1 ∧ Hid (StepC w wr3 g N i j S k c vs)) (fun _ iv _ => i - (intOf iv).toNat)
          case atStart => exact ⟨0, 0, Nat.zero_le _, rfl, rfl, by omega, HC0⟩
          case round =>
            clear HC0
            obtain ⟨k, c3, hk3, rfl, rfl, hc3, hh⟩ := hrel
            obtain ⟨os3, hk, hs⟩ := hh.out
            by_cases hlt : k < i
            · obtain ⟨x, hx⟩ : ∃ x, os3.getD (j + k) 0 = x := ⟨_, rfl⟩
              have hco := hk.blk.cell (j := j + k) (by have := HH.out.2.2.2.1; have := hk.len; omega)
              have hfr := hk.blk.frozen (j + k)
              have hxl := hk.w64.get (j + k)
              rw [hx] at hco hxl
              obtain ⟨b1, o1, e1, hb1, hc1⟩ := HM.out.at hlt
              injection e1 with e1
              injection e1 with e1 e2 _
              subst e1 e2
              have hvc := (hk.kept.cell (p := ⟨b, o + k, none⟩) hb1 HH.out.2.2.2.2).trans hc1
              obtain ⟨y, hy⟩ : ∃ y, vs.getD k 0 = y := ⟨_, rfl⟩
              have hyl := HM.out.w32.get k
              rw [hy] at hvc hyl
              have hadd := add_run x y c3 hc3
              obtain ⟨d3, hd⟩ : ∃ h, (x + y + c3) % 18446744073709551616 = h := ⟨_, rfl⟩
              obtain ⟨c4, hc4⟩ : ∃ h, (x + y + c3) / 18446744073709551616 = h := ⟨_, rfl⟩
              rw [hd, hc4] at hadd
              have HS : Hid (KnW w (wr.drewN 1) g N (j + i + 1) os3 ∧ AddSt vs (os3.set (j + k) d3) S j (k + 1) c4 ∧ d3 < 18446744073709551616 ∧ c4 ≤ 1) := Lib.hid ⟨hk.drewN 1, add_step hs (by have := HH.out.1; omega) (by have := HH.out.2.2.2.1; have := hk.len; omega) (by rw [hx, hy]; omega), by omega, by omega⟩
              clear hk hs hx hy hb1 hc1 hd hc4 hxl hyl hh
              have i0 : (0 : Int) ≤ (k : Int) := by omega
              have i1 : (k : Int) < (i : Int) := by omega
              have i3 : (k : Int) < (i : Int) + 1 := by omega
              go_wp2_with fail
              go_region_with (fail)
              all_goals go_wp2_with fail
              all_goals go_roundw
              all_goals first
                | (simp [intOf]; omega)
                | exact ⟨k + 1, c4, by omega, rfl, by go_num, HS.out.2.2.2, Lib.hid ⟨_, HS.out.1.set (by omega) HS.out.2.2.1 rfl, HS.out.2.1⟩⟩
            · obtain rfl : k = i := by omega
              obtain ⟨x, hx⟩ : ∃ x, os3.getD (j + k) 0 = x := ⟨_, rfl⟩
              have hco := hk.blk.cell (j := j + k) (by have := HH.out.2.2.2.1; have := hk.len; omega)
              have hfr := hk.blk.frozen (j + k)
              have hxl := hk.w64.get (j + k)
              rw [hx] at hco hxl
              have hadd : ∀ W, (callFunc 198 #[.int .u64 (x : Int), .int .u64 0, .int .u64 (c3 : Int)]).run Tryz.prog W = .ok (.value (.tuple #[.int .u64 (((x + 0 + c3) % 18446744073709551616 : Nat) : Int), .int .u64 (((x + 0 + c3) / 18446744073709551616 : Nat) : Int)])) W := fun W => add_run x 0 c3 hc3 W
              obtain ⟨d3, hd⟩ : ∃ h, (x + 0 + c3) % 18446744073709551616 = h := ⟨_, rfl⟩
              obtain ⟨c4, hc4⟩ : ∃ h, (x + 0 + c3) / 18446744073709551616 = h := ⟨_, rfl⟩
              rw [hd, hc4] at hadd
              have hc5 : c4 ≤ 1 := by omega
              have HS : Hid (StepB w (wr.setCell ⟨g, j + k, none⟩ (.int .u64 (d3 : Int))) g N k j R V (q' - 1) (1 - c4)) := Lib.hid (by
                have h1 := add_last (d := d3) (c' := c4) hs HH.out.1 (by have := HH.out.2.2.2.1; have := hk.len; omega) (by rw [hx]; omega)
                have h2 := hk.set (i := j + k) (x := d3) (z := d3) (by omega) (by omega) rfl
                rw [HH.out.2.1, ← HSV.out] at h1
                exact ⟨_, h2, back_next HBK.out HH.out.2.2.1 (clear_lt h2.w64 h2.cl) hc5 h1⟩)
              have HQ1 := Lib.hid (back_open HBK.out HH.out.2.2.1).2
              have e1 : IntKind.u64.wrap (1 - (c4 : Int)) = ((1 - c4 : Nat) : Int) := by rw [IntKind.wrap_u64]; omega
              have e2 : IntKind.u64.wrap ((q' : Int) - 1) = ((q' - 1 : Nat) : Int) := by have := HQ1.out; rw [IntKind.wrap_u64]; omega
              clear hk hs hx hd hc4 hxl hh hlt
              have i2 : (k : Int) < (k : Int) + 1 := by omega
              go_wp2_with fail
              go_roundw
              case rel => exact ⟨q' - 1, 1 - c4, rfl, rfl, by omega, HS⟩
              case measure => have := HQ1.out; simp [intOf]; omega
end Go.Proofs.YtgccfdfbnhldbaaGreatDoor.Nb
