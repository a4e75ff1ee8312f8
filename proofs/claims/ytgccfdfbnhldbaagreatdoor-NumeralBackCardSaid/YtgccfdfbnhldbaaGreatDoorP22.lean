/- BQ1 BT2 BT3 in one text. -/
import Derived.Test.YtgccfdfbnhldbaaGreatDoorP21
import Derived.Test.YtgccfdfbnhldbaaGreatDoorP12
import Derived.Test.YtgccfdfbnhldbaaGreatDoorP20
import Derived.Test.YtgccfdfbnhldbaaGreatDoorP14

namespace Go.Proofs.YtgccfdfbnhldbaaGreatDoor.Nb
open Go Go.RowKit

/-- the whole number lies in block b from place o on: its sign, its amount of at most L words -/
def IntL (w : World) (b o : Nat) (neg : Bool) (n L : Nat) : Prop :=
  b < w.heap.size ∧ w.cell? ⟨b, o, none⟩ = some (.bool neg) ∧ ∃ A k c, w.cell? ⟨b, o + 1, none⟩ = some (.slice A k c) ∧ MagN w (.slice A k c) n L
theorem IntN.any {w : World} {b o n L : Nat} {neg : Bool} (h : IntN w b o neg n) (hL : 1 ≤ L) : IntL w b o neg n L := by
  obtain ⟨h1, h2, A, k, c, h3, h4⟩ := h
  exact ⟨h1, h2, A, k, c, h3, h4.more hL⟩
theorem IntL.less {w : World} {b o n L L' : Nat} {neg : Bool} (h : IntL w b o neg n L) (hn : n < 18446744073709551616 ^ L') : IntL w b o neg n L' := by
  obtain ⟨h1, h2, A, k, c, h3, h4⟩ := h
  exact ⟨h1, h2, A, k, c, h3, h4.less hn⟩
theorem IntL.below {w w' : World} {b o n L B : Nat} {neg : Bool} (h : IntL w b o neg n L) (hb : Below B w w') (hB : w.heap.size ≤ B) : IntL w' b o neg n L := by
  obtain ⟨h1, h2, A, k, c, h3, h4⟩ := h
  have hb' := hb.mono hB
  exact ⟨Nat.lt_of_lt_of_le h1 hb.size, (hb.cell (p := ⟨b, o, none⟩) (show b < B by omega)).trans h2, A, k, c, (hb.cell (p := ⟨b, o + 1, none⟩) (show b < B by omega)).trans h3, h4.below hb'⟩
theorem ISlot.layL {w : World} {b o : Nat} (h : ISlot w b o) {A : Option Addr} {k c n L : Nat} (hm : MagN w (.slice A k c) n L) (neg : Bool) : IntL (Nb.put w b o neg (.slice A k c)) b o neg n L ∧ ISlot (Nb.put w b o neg (.slice A k c)) b o := by
  have hk := h.magN hm neg (.slice A k c)
  obtain ⟨h1, ⟨neg', h2⟩, ⟨A', k', c', h3⟩, h4, h5⟩ := h
  have e0 : (Nb.put w b o neg (.slice A k c)).cell? ⟨b, o, none⟩ = some (.bool neg) := by simp [Nb.put, go_sem, h2]
  have e1 : (Nb.put w b o neg (.slice A k c)).cell? ⟨b, o + 1, none⟩ = some (.slice A k c) := by simp [Nb.put, go_sem, h3]
  have es : b < (Nb.put w b o neg (.slice A k c)).heap.size := by simpa [Nb.put, World.setCell] using h1
  exact ⟨⟨es, e0, A, k, c, e1, hk⟩, es, ⟨neg, e0⟩, ⟨A, k, c, e1⟩, by simp [Nb.put, go_sem, h4], by simp [Nb.put, go_sem, h5]⟩
/-- the answer of a setter: the number is written there, nothing below its block has turned -/
def WroteL (w : World) (b o : Nat) (neg : Bool) (n L : Nat) (e : Ending) (w' : World) : Prop :=
  e = .returned (.pointer (some ⟨b, o, none⟩)) ∧ IntL w' b o neg n L ∧ ISlot w' b o ∧ Below b w w'
set_option maxRecDepth 8000 in
/-- the last step of a setter: a number in new memory is written -/
theorem made_numL (b o n L : Nat) (neg : Bool) (A : Option Addr) (k c : Nat) (w : World) (h : ISlot w b o) (hm : MagN w (.slice A k c) n L) (hn : neg = true → n ≠ 0) :
    Calls Tryz.prog 99 #[.pointer (some ⟨b, o, none⟩), .bool neg, .slice A k c] w (WroteL w b o neg n L) := by
  refine (made_any b o neg A k c w h).mono ?_
  rintro e w' ⟨rfl, rfl⟩
  have hq : (neg && decide (0 < k)) = neg := by
    rcases neg with _ | _
    · rfl
    · have h1 := hm.len.1
      have h2 : 0 < k := by
        rcases Nat.eq_zero_or_pos k with q | q
        · exact absurd (h1 q) (hn rfl)
        · exact q
      simp [h2]
  rw [hq]
  have h2 := h.layL hm neg
  exact ⟨rfl, h2.1, h2.2, below_put (Below.refl _ _) (Nat.le_refl _) _ _⟩
theorem WroteL.after {w w1 w' : World} {b o n L : Nat} {neg : Bool} {e : Ending} (h : WroteL w1 b o neg n L e w') (hb : Below b w w1) : WroteL w b o neg n L e w' :=
  ⟨h.1, h.2.1, h.2.2.1, hb.trans h.2.2.2⟩
set_option maxRecDepth 8000 in
set_option maxHeartbeats 1000000 in
theorem setStringL (b o : Nat) (s : ByteArray) (w : World) (h : ISlot w b o) (h0 : 0 < s.size) (hs : s.size ≤ 1000000) (hd : ∀ b ∈ s.data.toList, 48 ≤ b.toNat ∧ b.toNat ≤ 57) :
    Calls Tryz.prog 80 #[.pointer (some ⟨b, o, none⟩), .string s, .int .i64 10] w fun e w' => e = .returned (.tuple #[.pointer (some ⟨b, o, none⟩), .bool true]) ∧ IntL w' b o false (decN s.data.toList) (s.size + 1) ∧ ISlot w' b o ∧ Below b w w' := by
  have HR := Lib.hid (read_any s w h0 hs hd)
  have H := Lib.hid h
  have hne : s.toList.isEmpty = false := by
    rw [Lib.toList_data]
    have h1 : s.data.toList.length = s.size := by simp
    match hq : s.data.toList with
    | [] => rw [hq] at h1; simp at h1; omega
    | _ :: _ => rfl
  have hd0 := hd s[0] (by simp [ByteArray.getElem_eq_getElem_data])
  have hd1 : ((s[0].toNat : Int) == 45) = false := by simp; omega
  clear h hd hd0
  go_enter Tryz.func80, Tryz.ntmps80
  go_wp2_with fail
  refine HR.out.mono ?_
  rintro e w1 ⟨v, rfl, hm, hb⟩
  obtain ⟨A, k, c, rfl⟩ := hm.slice
  have HM := Lib.hid (made_numL b o _ _ false A k c w1 (H.out.below hb (Nat.le_refl _)) hm (by simp))
  have HB := Lib.hid (hb.mono (Nat.le_of_lt H.out.1))
  clear hm hb
  go_wp2_with fail
  refine HM.out.mono ?_
  rintro e w2 ⟨rfl, h1, h2, h3⟩
  have HF := Lib.hid (And.intro h1 (And.intro h2 (HB.out.trans h3)))
  clear h1 h2 h3
  go_wp2_with fail
  go_ret2
  exact ⟨rfl, HF.out⟩
set_option maxRecDepth 8000 in
set_option maxHeartbeats 1000000 in
theorem expL (z zo b o m b' o' n L : Nat) (w : World) (h : ISlot w z zo) (hx : IntL w b o false m L) (hy : IntN w b' o' false n) (hm : 0 < m) (hT : m ^ n < 18446744073709551616 ^ L) (hL : L ≤ 268435456) (hL1 : 1 ≤ L) (hz : b ≠ z) (hz' : b' ≠ z) :
    Calls Tryz.prog 46 #[.pointer (some ⟨z, zo, none⟩), .pointer (some ⟨b, o, none⟩), .pointer (some ⟨b', o', none⟩), .pointer none] w (WroteL w z zo false (m ^ n) L) := by
  obtain ⟨hb, h2, A, k, c, h3, h4⟩ := hx
  obtain ⟨hb', h2', A', k', c', h3', h4'⟩ := hy
  have HLO := Lib.hid (fun W (hW : Below w.heap.size w W) => low_one _ n W (h4'.below hW))
  have HP := Lib.hid (fun W (hW : Below w.heap.size w W) => power_any _ m n L W (h4.below hW) hm (one_lt h4') hT hL hL1)
  have H := Lib.hid h
  obtain ⟨T, hTe⟩ : ∃ T, m ^ n = T := ⟨_, rfl⟩
  rw [hTe] at HP hT ⊢
  clear h h4 h4' hTe hm hT
  go_enter Tryz.func46, Tryz.ntmps46
  go_wp2_with fail
  have hcur : Below w.heap.size w w.drew := (Below.refl _ _).drew
  have HS := Lib.hid (fun (W : World) (hW : Below w.heap.size w W) => (show W.cell? ⟨b, o, none⟩ = some (.bool false) ∧ W.cell? ⟨b, o + 1, none⟩ = some (.slice A k c) ∧ W.cell? ⟨b', o' + 1, none⟩ = some (.slice A' k' c') from ⟨(hW.cell (p := ⟨b, o, none⟩) (by exact hb)).trans h2, (hW.cell (p := ⟨b, o + 1, none⟩) (by exact hb)).trans h3, (hW.cell (p := ⟨b', o' + 1, none⟩) (by exact hb')).trans h3'⟩))
  have HS2 := Lib.hid (fun (W : World) (hW : Below w.heap.size w W) (neg : Bool) (v : Value) => (show (put W z zo neg v).cell? ⟨b, o, none⟩ = some (.bool false) ∧ (put W z zo neg v).cell? ⟨b, o + 1, none⟩ = some (.slice A k c) ∧ (put W z zo neg v).cell? ⟨b', o' + 1, none⟩ = some (.slice A' k' c') from ⟨(put_cell _ _ (.inl hz)).trans (HS.out W hW).1, (put_cell _ _ (.inl hz)).trans (HS.out W hW).2.1, (put_cell _ _ (.inl hz')).trans (HS.out W hW).2.2⟩))
  refine wp_region_held_drew (S := (fun w' => w'.cell? ⟨b, o, none⟩ = some (.bool false) ∧ w'.cell? ⟨b, o + 1, none⟩ = some (.slice A k c) ∧ w'.cell? ⟨b', o' + 1, none⟩ = some (.slice A' k' c'))) (by kernel_rfl) (HS.out _ hcur) (fun hHeld => ?_)
  show wpAnyH _ _ _ _ _ (21 + 1) _ _ _
  refine wpAnyH_take (i := 0) (oi := _) (v := ?v0) rfl (by kernel_rfl) (by kernel_rfl) (by kernel_rfl) (fun _ _ _ h => h) (Or.inl ⟨by rfl, ?hy0⟩) (by assumption) ?rest0
  case hy0 => (intro w hSw; (try dsimp only at hSw); go_simp; try with_reducible rfl)
  try simp only [Act.put, List.getElem_toArray, List.getElem_cons_zero, List.setIfInBounds_toArray, List.set_cons_zero, List.set_cons_succ]
  show wpAnyH _ _ _ _ _ (20 + 1) _ _ _
  refine wpAnyH_take (i := 1) (oi := _) (v := ?v1) rfl (by kernel_rfl) (by kernel_rfl) (by kernel_rfl) (fun _ _ _ h => h) (Or.inl ⟨by rfl, ?hy1⟩) (by assumption) ?rest1
  case hy1 => (intro w hSw; (try dsimp only at hSw); go_simp; try with_reducible rfl)
  try simp only [Act.put, List.getElem_toArray, List.getElem_cons_zero, List.getElem_cons_succ, List.setIfInBounds_toArray, List.set_cons_zero, List.set_cons_succ]
  show wpAnyH _ _ _ _ _ (19 + 1) _ _ _
  refine wpAnyH_take (i := 2) (oi := _) (v := ?v2) rfl (by kernel_rfl) (by kernel_rfl) (by kernel_rfl) (fun _ _ _ h => h) (Or.inl ⟨by rfl, ?hy2⟩) (by assumption) ?rest2
  case hy2 => (intro w hSw; (try dsimp only at hSw); go_simp; try with_reducible rfl)
  try simp only [Act.put, List.getElem_toArray, List.getElem_cons_zero, List.getElem_cons_succ, List.setIfInBounds_toArray, List.set_cons_zero, List.set_cons_succ]
  show wpAnyH _ _ _ _ _ (18 + 1) _ _ _
  refine wpAnyH_take (i := 3) (oi := _) (v := ?v3) rfl (by kernel_rfl) (by kernel_rfl) (by kernel_rfl) (fun _ _ _ h => h) (Or.inl ⟨by rfl, ?hy3⟩) (by assumption) ?rest3
  case hy3 => (intro w hSw; (try dsimp only at hSw); go_simp; try with_reducible rfl)
  try simp only [Act.put, List.getElem_toArray, List.getElem_cons_zero, List.getElem_cons_succ, List.setIfInBounds_toArray, List.set_cons_zero, List.set_cons_succ]
  show wpAnyH _ _ _ _ _ (17 + 1) _ _ _
  refine wpAnyH_take (i := 4) (oi := _) (v := ?v4) rfl (by kernel_rfl) (by kernel_rfl) (by kernel_rfl) (fun _ _ _ h => h) (Or.inl ⟨by rfl, ?hy4⟩) (by assumption) ?rest4
  case hy4 => (intro w hSw; (try dsimp only at hSw); go_simp; try with_reducible rfl)
  try simp only [Act.put, List.getElem_toArray, List.getElem_cons_zero, List.getElem_cons_succ, List.setIfInBounds_toArray, List.set_cons_zero, List.set_cons_succ]
  show wpAnyH _ _ _ _ _ (16 + 1) _ _ _
  refine wpAnyH_take (i := 5) (oi := _) (v := ?v5) rfl (by kernel_rfl) (by kernel_rfl) (by kernel_rfl) (fun _ _ _ h => h) (Or.inl ⟨by rfl, ?hy5⟩) (by assumption) ?rest5
  case hy5 => (intro w hSw; (try dsimp only at hSw); go_simp; try with_reducible rfl)
  try simp only [Act.put, List.getElem_toArray, List.getElem_cons_zero, List.getElem_cons_succ, List.setIfInBounds_toArray, List.set_cons_zero, List.set_cons_succ]
  show wpAnyH _ _ _ _ _ (15 + 1) _ _ _
  refine wpAnyH_take (i := 6) (oi := _) (v := undef) rfl (by kernel_rfl) (by kernel_rfl) (by kernel_rfl) (fun _ _ _ h => h) (Or.inr ⟨by rfl, rfl⟩) (by assumption) ?_
  try simp only [Act.put, List.getElem_toArray, List.getElem_cons_zero, List.getElem_cons_succ, List.setIfInBounds_toArray, List.set_cons_zero, List.set_cons_succ]
  show wpAnyH _ _ _ _ _ (14 + 1) _ _ _
  refine wpAnyH_take (i := 7) (oi := _) (v := undef) rfl (by kernel_rfl) (by kernel_rfl) (by kernel_rfl) (fun _ _ _ h => h) (Or.inr ⟨by rfl, rfl⟩) (by assumption) ?_
  try simp only [Act.put, List.getElem_toArray, List.getElem_cons_zero, List.getElem_cons_succ, List.setIfInBounds_toArray, List.set_cons_zero, List.set_cons_succ]
  show wpAnyH _ _ _ _ _ (13 + 1) _ _ _
  refine wpAnyH_take (i := 8) (oi := _) (v := undef) rfl (by kernel_rfl) (by kernel_rfl) (by kernel_rfl) (fun _ _ _ h => h) (Or.inr ⟨by rfl, rfl⟩) (by assumption) ?_
  try simp only [Act.put, List.getElem_toArray, List.getElem_cons_zero, List.getElem_cons_succ, List.setIfInBounds_toArray, List.set_cons_zero, List.set_cons_succ]
  show wpAnyH _ _ _ _ _ (12 + 1) _ _ _
  refine wpAnyH_take (i := 9) (oi := _) (v := ?v9) rfl (by kernel_rfl) (by kernel_rfl) (by kernel_rfl) (fun _ _ _ h => h) (Or.inl ⟨by rfl, ?hy9⟩) (by assumption) ?rest9
  case hy9 => (intro w hSw; (try dsimp only at hSw); go_simp; try with_reducible rfl)
  try simp only [Act.put, List.getElem_toArray, List.getElem_cons_zero, List.getElem_cons_succ, List.setIfInBounds_toArray, List.set_cons_zero, List.set_cons_succ]
  show wpAnyH _ _ _ _ _ (11 + 1) _ _ _
  refine wpAnyH_take (i := 10) (oi := _) (v := ?v10) rfl (by kernel_rfl) (by kernel_rfl) (by kernel_rfl) (fun _ _ _ h => h) (Or.inl ⟨by rfl, ?hy10⟩) (by assumption) ?rest10
  case hy10 => (intro w hSw; (try dsimp only at hSw); go_simp; try with_reducible rfl)
  try simp only [Act.put, List.getElem_toArray, List.getElem_cons_zero, List.getElem_cons_succ, List.setIfInBounds_toArray, List.set_cons_zero, List.set_cons_succ]
  show wpAnyH _ _ _ _ _ (10 + 1) _ _ _
  refine wpAnyH_take (i := 11) (oi := _) (v := ?v11) rfl (by kernel_rfl) (by kernel_rfl) (by kernel_rfl) (fun _ _ _ h => h) (Or.inl ⟨by rfl, ?hy11⟩) (by assumption) ?rest11
  case hy11 => (intro w hSw; (try dsimp only at hSw); go_simp; try with_reducible rfl)
  try simp only [Act.put, List.getElem_toArray, List.getElem_cons_zero, List.getElem_cons_succ, List.setIfInBounds_toArray, List.set_cons_zero, List.set_cons_succ]
  show wpAnyH _ _ _ _ _ (9 + 1) _ _ _
  refine wpAnyH_take (i := 12) (oi := _) (v := ?v12) rfl (by kernel_rfl) (by kernel_rfl) (by kernel_rfl) (fun _ _ _ h => h) (Or.inl ⟨by rfl, ?hy12⟩) (by assumption) ?rest12
  case hy12 => (intro w hSw; (try dsimp only at hSw); go_simp; try with_reducible rfl)
  try simp only [Act.put, List.getElem_toArray, List.getElem_cons_zero, List.getElem_cons_succ, List.setIfInBounds_toArray, List.set_cons_zero, List.set_cons_succ]
  show wpAnyH _ _ _ _ _ (8 + 1) _ _ _
  refine wpAnyH_take (i := 13) (oi := _) (v := ?v13) rfl (by kernel_rfl) (by kernel_rfl) (by kernel_rfl) (fun _ _ _ h => h) (Or.inl ⟨by rfl, ?hy13⟩) (by assumption) ?rest13
  case hy13 => (intro w hSw; (try dsimp only at hSw); go_simp; try with_reducible rfl)
  try simp only [Act.put, List.getElem_toArray, List.getElem_cons_zero, List.getElem_cons_succ, List.setIfInBounds_toArray, List.set_cons_zero, List.set_cons_succ]
  show wpAnyH _ _ _ _ _ (7 + 1) _ _ _
  refine wpAnyH_take (i := 14) (oi := _) (v := ?v14) rfl (by kernel_rfl) (by kernel_rfl) (by kernel_rfl) (fun _ _ _ h => h) (Or.inl ⟨by rfl, ?hy14⟩) (by assumption) ?rest14
  case hy14 => (intro w hSw; (try dsimp only at hSw); go_simp; try with_reducible rfl)
  try simp only [Act.put, List.getElem_toArray, List.getElem_cons_zero, List.getElem_cons_succ, List.setIfInBounds_toArray, List.set_cons_zero, List.set_cons_succ]
  show wpAnyH _ _ _ _ _ (6 + 1) _ _ _
  refine wpAnyH_take (i := 15) (oi := _) (v := ?v15) rfl (by kernel_rfl) (by kernel_rfl) (by kernel_rfl) (fun _ _ _ h => h) (Or.inl ⟨by rfl, ?hy15⟩) (by assumption) ?rest15
  case hy15 => (intro w hSw; (try dsimp only at hSw); go_simp; try with_reducible rfl)
  try simp only [Act.put, List.getElem_toArray, List.getElem_cons_zero, List.getElem_cons_succ, List.setIfInBounds_toArray, List.set_cons_zero, List.set_cons_succ]
  show wpAnyH _ _ _ _ _ (5 + 1) _ _ _
  refine wpAnyH_take (i := 16) (oi := _) (v := ?v16) rfl (by kernel_rfl) (by kernel_rfl) (by kernel_rfl) (fun _ _ _ h => h) (Or.inl ⟨by rfl, ?hy16⟩) (by assumption) ?rest16
  case hy16 => (intro w hSw; (try dsimp only at hSw); go_simp; try with_reducible rfl)
  try simp only [Act.put, List.getElem_toArray, List.getElem_cons_zero, List.getElem_cons_succ, List.setIfInBounds_toArray, List.set_cons_zero, List.set_cons_succ]
  show wpAnyH _ _ _ _ _ (4 + 1) _ _ _
  refine wpAnyH_take (i := 17) (oi := _) (v := ?v17) rfl (by kernel_rfl) (by kernel_rfl) (by kernel_rfl) (fun _ _ _ h => h) (Or.inl ⟨by rfl, ?hy17⟩) (by assumption) ?rest17
  case hy17 => (intro w hSw; (try dsimp only at hSw); go_simp; try with_reducible rfl)
  try simp only [Act.put, List.getElem_toArray, List.getElem_cons_zero, List.getElem_cons_succ, List.setIfInBounds_toArray, List.set_cons_zero, List.set_cons_succ]
  show wpAnyH _ _ _ _ _ (3 + 1) _ _ _
  refine wpAnyH_ready (rs := [18]) (by kernel_rfl) (by simp) ?_
  refine AllReadyH.cons (o := _) rfl (fun K hK => ?_) AllReadyH.nil
  go_simp
  refine (HLO.out _ hcur).mono ?_; rintro e w3 ⟨rfl, rfl⟩
  go_wp2_with fail
  refine hK.out _ _ (HS.out _ hcur) (fun hHeld => ?_)
  clear hK K
  try simp only [Act.put, List.getElem_toArray, List.getElem_cons_zero, List.getElem_cons_succ, List.setIfInBounds_toArray, List.set_cons_zero, List.set_cons_succ]
  show wpAnyH _ _ _ _ _ (2 + 1) _ _ _
  refine wpAnyH_ready (rs := [19]) (by kernel_rfl) (by simp) ?_
  refine AllReadyH.cons (o := _) rfl (fun K hK => ?_) AllReadyH.nil
  go_simp
  refine (HP.out _ hcur).mono ?_; rintro e w3 ⟨v, rfl, hm, hb3⟩; obtain ⟨A1, k1, c1, rfl⟩ := hm.slice; have hcur2 := back_of hcur hb3; have HM := Lib.hid (made_any z zo false A1 k1 c1 w3 (H.out.below hcur2 (Nat.le_refl _))); have HF := Lib.hid (And.intro ((H.out.below hcur2 (Nat.le_refl _)).layL hm false) (below_put (o := zo) (hcur2.mono (Nat.le_of_lt H.out.1)) (Nat.le_refl _) false (.slice A1 k1 c1))); clear hm hb3
  go_wp2_with fail
  refine hK.out _ _ (HS.out _ hcur2) (fun hHeld => ?_)
  clear hK K
  try simp only [Act.put, List.getElem_toArray, List.getElem_cons_zero, List.getElem_cons_succ, List.setIfInBounds_toArray, List.set_cons_zero, List.set_cons_succ]
  show wpAnyH _ _ _ _ _ (1 + 1) _ _ _
  refine wpAnyH_ready (rs := [20]) (by kernel_rfl) (by simp) ?_
  refine AllReadyH.cons (o := _) rfl (fun K hK => ?_) AllReadyH.nil
  go_simp
  refine HM.out.mono ?_; rintro e w4 ⟨rfl, rfl⟩
  go_wp2_with fail
  refine hK.out _ _ (HS2.out _ hcur2 _ _) (fun hHeld => ?_)
  clear hK K
  try simp only [Act.put, List.getElem_toArray, List.getElem_cons_zero, List.getElem_cons_succ, List.setIfInBounds_toArray, List.set_cons_zero, List.set_cons_succ]
  show wpAnyH _ _ _ _ _ (0 + 1) _ _ _
  refine wpAnyH_take (i := 21) (oi := _) (v := ?v21) rfl (by kernel_rfl) (by kernel_rfl) (by kernel_rfl) (fun _ _ _ h => h) (Or.inl ⟨by rfl, ?hy21⟩) (by assumption) ?rest21
  case hy21 => (intro w hSw; (try dsimp only at hSw); go_simp; try with_reducible rfl)
  try simp only [Act.put, List.getElem_toArray, List.getElem_cons_zero, List.getElem_cons_succ, List.setIfInBounds_toArray, List.set_cons_zero, List.set_cons_succ]
  refine wpAnyH_done (by kernel_rfl) ?_ _
  go_wp2_with fail
  go_ret
  exact ⟨rfl, HF.out.1.1, HF.out.1.2, HF.out.2⟩
end Go.Proofs.YtgccfdfbnhldbaaGreatDoor.Nb

namespace Go.Proofs.YtgccfdfbnhldbaaGreatDoor.Nb
open Go Go.RowKit

theorem revDig_len_le : ∀ (l n : Nat), n < 10 ^ l → (revDig n).length ≤ l
  | 0, n, h => by
    have : n = 0 := by rw [Nat.pow_zero] at h; omega
    rw [this, revDig_zero]; simp
  | l + 1, n, h => by
    by_cases h0 : n = 0
    · rw [h0, revDig_zero]; simp
    · rw [revDig_pos h0, List.length_cons]
      have := revDig_len_le l (n / 10) (by rw [Nat.pow_succ] at h; omega)
      omega
theorem revDig_len {n : Nat} (h : n < 18446744073709551616) : (revDig n).length ≤ 64 := by
  have h1 := revDig_len_le 20 n (Nat.lt_of_lt_of_le h (by decide))
  omega
theorem str_bytes (l : List UInt8) : strOfNums (l.map fun b => (b.toNat : Int)) = ⟨l.toArray⟩ := by
  unfold strOfNums
  rw [List.map_map]
  have : ((fun n : Int => UInt8.ofNat n.toNat) ∘ fun b : UInt8 => (b.toNat : Int)) = id := by
    funext b; simp
  rw [this, List.map_id]
theorem Row.bytes {w : World} {B : Nat} {v : Value} {bs : List UInt8} (h : Row w B v bs) (hn : bs ≠ []) : ∃ g c, v = .slice (some ⟨g, 0, none⟩) bs.length c ∧ ∀ i, i < bs.length → w.cell? ⟨g, 0 + i, none⟩ = some (.int .u8 ((bs.map fun b => (b.toNat : Int)).getD i 0)) := by
  have h' : w.ownsRow B 5 1 v bs.length (bs.map fun b => .int .u8 (b.toNat : Int)) := h
  rcases h'.2 with ⟨-, h0⟩ | ⟨g, cap, cur, rfl, hb, hh, -⟩
  · exact absurd (List.length_eq_zero_iff.1 h0) hn
  · refine ⟨g, cap, rfl, fun i hi => ?_⟩
    have hc := World.ownsRow.cellAt h' i (by simpa using hi)
    rw [Nat.zero_add]
    rw [hc]
    congr 1
    simp [List.getD_eq_getElem?_getD, hi]
theorem rev_step {l : List UInt8} {k : Nat} (h : k < l.length) : (l.drop k).reverse = (l.drop (k + 1)).reverse ++ [l[k]] := by
  rw [List.drop_eq_getElem_cons h, List.reverse_cons]
set_option maxRecDepth 8000 in
set_option maxHeartbeats 4000000 in
theorem spread_nil (u : Value) (N : Nat) (A : Option Addr) (nl c L : Nat) (w : World) (hu : MagN w u N L) (hL : L ≤ 1073741824) (hN : (revDig N).length ≤ 1000000000) (hf : nl = 0 ∨ L = 1) (h0 : 0 < N := by assumption) :
    Calls Tryz.prog 197 #[.slice none 0 0, u, .int .u64 10, .slice A nl c, .int .i64 0] w fun e w' => ∃ v, e = .returned v ∧ Row w' w.heap.size v (revDig N).reverse ∧ Below w.heap.size w w' := by
  have HP := Lib.hid (plain_any u N L w hu hL hN)
  obtain ⟨A0, k, c0, rfl⟩ := hu.slice
  have hk := hu.len
  obtain ⟨ds, hds⟩ : ∃ ds, revDig N = ds := ⟨_, rfl⟩
  rw [hds] at HP hN ⊢
  have hdn : ds ≠ [] := by rw [← hds, revDig_pos (by omega)]; simp
  obtain ⟨M, hM⟩ : ∃ M, ds.length = M := ⟨_, rfl⟩
  have HM := Lib.hid hM
  rw [hM] at hN
  have hM0 : 0 < M := by rw [← hM]; exact List.length_pos_iff.2 hdn
  have HD := Lib.hid hdn
  have hk5 : nl = 0 ∨ (k : Int) < 5 := by omega
  have HK5 := Lib.hid hk5
  clear hu hds hf hk hM hdn hk5
  rcases HK5.out with h5 | h5
  · subst h5
    go_enter Tryz.func197, Tryz.ntmps197
    go_wp2_with fail
    refine HP.out.mono ?_
    rintro e w1 ⟨v, rfl, hr, hb⟩
    have HR := Lib.hid hr
    obtain ⟨g, cg, rfl, hce⟩ := hr.bytes HD.out
    rw [HM.out] at hce ⊢
    have HB := Lib.hid hb
    have HCE := Lib.hid hce
    have HG : Hid (g < w1.heap.size) := Lib.hid (by
      rcases Nat.lt_or_ge g w1.heap.size with q | q
      · exact q
      · have h1 := hce 0 (by omega)
        have h2 : w1.heap[g]? = none := Array.getElem?_eq_none q
        simp [World.cell?, h2] at h1)
    clear hr hb hce
    go_wp2_with fail
    go_loop [0, 32] (fun b i => b = .slice none 0 0 ∧ i = .int .i64 0) (fun _ _ => 0)
    case atStart => exact ⟨rfl, rfl⟩
    case round =>
      obtain ⟨rfl, rfl⟩ := hrel
      have hneg : ¬ (0 : Int) < 0 - (M : Int) := by omega
      have hneg2 : ¬ (0 : Int) < - (M : Int) := by omega
      go_wp2_with fail
      clear hneg hneg2
      go_loopw [0, 12] (fun b i wr => ∃ k v, k ≤ M ∧ b = v ∧ i = .int .i64 ((k : Int) - 1) ∧ Hid (Row wr w1.heap.size v (ds.drop k).reverse ∧ Below w1.heap.size w1 wr)) (fun _ i _ => (intOf i + 1).toNat)
      case atStart => exact ⟨M, .slice none 0 0, Nat.le_refl _, rfl, rfl, Lib.hid ⟨by rw [List.drop_of_length_le (by rw [HM.out]; exact Nat.le_refl _)]; exact World.ownsRow_nil _ _ _ _, Below.refl _ _⟩⟩
      case round =>
        obtain ⟨k, v, hkM, rfl, rfl, hh⟩ := hrel
        by_cases hk0 : k = 0
        · subst hk0
          go_wp2_with fail
          go_ret
          have h := hh.out
          rw [List.drop_zero] at h
          exact ⟨_, rfl, ⟨h.1.1, by
            rcases h.1.2 with hn | ⟨g', cap, cur, hv, h1, h2⟩
            · exact .inl hn
            · exact .inr ⟨g', cap, cur, hv, Nat.le_trans HB.out.size h1, h2⟩⟩, HB.out.trans (h.2.mono HB.out.size)⟩
        · obtain ⟨j, rfl⟩ : ∃ j, k = j + 1 := ⟨k - 1, by omega⟩
          rw [show (((j + 1 : Nat) : Int) - 1) = (j : Int) by omega]
          obtain ⟨x, hx⟩ : ∃ x : Nat, (ds[j]'(by rw [HM.out]; omega)).toNat = x := ⟨_, rfl⟩
          have hcell : wr.cell? ⟨g, j, none⟩ = some (.int .u8 (x : Int)) := by
            have h1 := HCE.out j (by omega)
            rw [Nat.zero_add] at h1
            rw [hh.out.2.cell (p := ⟨g, j, none⟩) HG.out, h1, ← hx]
            congr 1
            have hj : j < ds.length := by rw [HM.out]; omega
            simp [List.getD_eq_getElem?_getD, hj]
          obtain ⟨i0, hi0, hz0, hz1, hz2⟩ := info_parts infoU
          have hA := Lib.hid ((Below.refl wr.heap.size wr).alloc (Nat.le_refl _) (.cells #[.int .u8 (x : Int)] 5))
          obtain ⟨lx, hlx⟩ : ∃ l, (ds.drop (j + 1)).reverse.length = l := ⟨_, rfl⟩
          obtain ⟨Av, cv, hvv⟩ := hh.out.1.len
          rw [hlx] at hvv
          subst hvv
          have hlxM : lx ≤ M := by rw [← hlx, List.length_reverse, List.length_drop, HM.out]; omega
          have HOWN : Hid (World.ownsRow (wr.alloc (.cells #[.int .u8 (x : Int)] 5)) w1.heap.size 5 1 (.slice Av lx cv) lx ((ds.drop (j + 1)).reverse.map fun b => .int .u8 (b.toNat : Int))) := Lib.hid (by have h := own_below hh.out.1 hA.out; rwa [hlx] at h)
          have hsz := hh.out.2.size
          have HX := Lib.hid (And.intro hx hlx)
          clear hx hlx
          go_wp2_with (at_builtin; refine wpList_append_own _ rfl _ _ 104 rfl w1.heap.size 5 i0 _ 1 1 Tryz.underlying104 hi0 hz0 hz1 hz2 rfl (by omega) (.slice Av lx cv) lx _ rfl HOWN.out ⟨wr.heap.size, 0, none⟩ 1 1 [.int .u8 (x : Int)] rfl rfl (byte_new _ _ _) (by simp [Value.oneCell']) (by simp only [maxLen]; omega) (by omega) (Nat.le_trans hsz hA.out.size) ?_; intro v' w3 hr3 hg3 ha3; obtain ⟨Av', cv', hv'⟩ := own_slice hr3; subst hv'; have HR3 := Lib.hid (And.intro hr3 hg3); clear hr3 hg3 ha3)
          go_roundw
          case rel => exact ⟨j, _, by omega, rfl, int_eq (by omega), Lib.hid ⟨by
            have h := HR3.out.1
            rw [rev_step (by rw [HM.out]; omega : j < ds.length)]
            unfold Row
            rw [List.length_append, List.map_append, HX.out.2, List.map_cons, List.map_nil, HX.out.1]
            exact h, (hh.out.2.trans (hA.out.mono hsz)).grown HR3.out.2 (Nat.le_trans hsz hA.out.size) (own_base HOWN.out)⟩⟩
          case measure => simp [intOf]
  · by_cases hnl : nl = 0
    · subst hnl
      clear h5
      go_enter Tryz.func197, Tryz.ntmps197
      go_wp2_with fail
      refine HP.out.mono ?_
      rintro e w1 ⟨v, rfl, hr, hb⟩
      have HR := Lib.hid hr
      obtain ⟨g, cg, rfl, hce⟩ := hr.bytes HD.out
      rw [HM.out] at hce ⊢
      have HB := Lib.hid hb
      have HCE := Lib.hid hce
      have HG : Hid (g < w1.heap.size) := Lib.hid (by
        rcases Nat.lt_or_ge g w1.heap.size with q | q
        · exact q
        · have h1 := hce 0 (by omega)
          have h2 : w1.heap[g]? = none := Array.getElem?_eq_none q
          simp [World.cell?, h2] at h1)
      clear hr hb hce
      go_wp2_with fail
      go_loop [0, 32] (fun b i => b = .slice none 0 0 ∧ i = .int .i64 0) (fun _ _ => 0)
      case atStart => exact ⟨rfl, rfl⟩
      case round =>
        obtain ⟨rfl, rfl⟩ := hrel
        have hneg : ¬ (0 : Int) < 0 - (M : Int) := by omega
        have hneg2 : ¬ (0 : Int) < - (M : Int) := by omega
        go_wp2_with fail
        clear hneg hneg2
        go_loopw [0, 12] (fun b i wr => ∃ k v, k ≤ M ∧ b = v ∧ i = .int .i64 ((k : Int) - 1) ∧ Hid (Row wr w1.heap.size v (ds.drop k).reverse ∧ Below w1.heap.size w1 wr)) (fun _ i _ => (intOf i + 1).toNat)
        case atStart => exact ⟨M, .slice none 0 0, Nat.le_refl _, rfl, rfl, Lib.hid ⟨by rw [List.drop_of_length_le (by rw [HM.out]; exact Nat.le_refl _)]; exact World.ownsRow_nil _ _ _ _, Below.refl _ _⟩⟩
        case round =>
          obtain ⟨k, v, hkM, rfl, rfl, hh⟩ := hrel
          by_cases hk0 : k = 0
          · subst hk0
            go_wp2_with fail
            go_ret
            have h := hh.out
            rw [List.drop_zero] at h
            exact ⟨_, rfl, ⟨h.1.1, by
              rcases h.1.2 with hn | ⟨g', cap, cur, hv, h1, h2⟩
              · exact .inl hn
              · exact .inr ⟨g', cap, cur, hv, Nat.le_trans HB.out.size h1, h2⟩⟩, HB.out.trans (h.2.mono HB.out.size)⟩
          · obtain ⟨j, rfl⟩ : ∃ j, k = j + 1 := ⟨k - 1, by omega⟩
            rw [show (((j + 1 : Nat) : Int) - 1) = (j : Int) by omega]
            obtain ⟨x, hx⟩ : ∃ x : Nat, (ds[j]'(by rw [HM.out]; omega)).toNat = x := ⟨_, rfl⟩
            have hcell : wr.cell? ⟨g, j, none⟩ = some (.int .u8 (x : Int)) := by
              have h1 := HCE.out j (by omega)
              rw [Nat.zero_add] at h1
              rw [hh.out.2.cell (p := ⟨g, j, none⟩) HG.out, h1, ← hx]
              congr 1
              have hj : j < ds.length := by rw [HM.out]; omega
              simp [List.getD_eq_getElem?_getD, hj]
            obtain ⟨i0, hi0, hz0, hz1, hz2⟩ := info_parts infoU
            have hA := Lib.hid ((Below.refl wr.heap.size wr).alloc (Nat.le_refl _) (.cells #[.int .u8 (x : Int)] 5))
            obtain ⟨lx, hlx⟩ : ∃ l, (ds.drop (j + 1)).reverse.length = l := ⟨_, rfl⟩
            obtain ⟨Av, cv, hvv⟩ := hh.out.1.len
            rw [hlx] at hvv
            subst hvv
            have hlxM : lx ≤ M := by rw [← hlx, List.length_reverse, List.length_drop, HM.out]; omega
            have HOWN : Hid (World.ownsRow (wr.alloc (.cells #[.int .u8 (x : Int)] 5)) w1.heap.size 5 1 (.slice Av lx cv) lx ((ds.drop (j + 1)).reverse.map fun b => .int .u8 (b.toNat : Int))) := Lib.hid (by have h := own_below hh.out.1 hA.out; rwa [hlx] at h)
            have hsz := hh.out.2.size
            have HX := Lib.hid (And.intro hx hlx)
            clear hx hlx
            go_wp2_with (at_builtin; refine wpList_append_own _ rfl _ _ 104 rfl w1.heap.size 5 i0 _ 1 1 Tryz.underlying104 hi0 hz0 hz1 hz2 rfl (by omega) (.slice Av lx cv) lx _ rfl HOWN.out ⟨wr.heap.size, 0, none⟩ 1 1 [.int .u8 (x : Int)] rfl rfl (byte_new _ _ _) (by simp [Value.oneCell']) (by simp only [maxLen]; omega) (by omega) (Nat.le_trans hsz hA.out.size) ?_; intro v' w3 hr3 hg3 ha3; obtain ⟨Av', cv', hv'⟩ := own_slice hr3; subst hv'; have HR3 := Lib.hid (And.intro hr3 hg3); clear hr3 hg3 ha3)
            go_roundw
            case rel => exact ⟨j, _, by omega, rfl, int_eq (by omega), Lib.hid ⟨by
              have h := HR3.out.1
              rw [rev_step (by rw [HM.out]; omega : j < ds.length)]
              unfold Row
              rw [List.length_append, List.map_append, HX.out.2, List.map_cons, List.map_nil, HX.out.1]
              exact h, (hh.out.2.trans (hA.out.mono hsz)).grown HR3.out.2 (Nat.le_trans hsz hA.out.size) (own_base HOWN.out)⟩⟩
            case measure => simp [intOf]
    · have hnli : ¬ (nl : Int) = 0 := by omega
      clear hnl
      go_enter Tryz.func197, Tryz.ntmps197
      go_wp2_with fail
      refine HP.out.mono ?_
      rintro e w1 ⟨v, rfl, hr, hb⟩
      have HR := Lib.hid hr
      obtain ⟨g, cg, rfl, hce⟩ := hr.bytes HD.out
      rw [HM.out] at hce ⊢
      have HB := Lib.hid hb
      have HCE := Lib.hid hce
      have HG : Hid (g < w1.heap.size) := Lib.hid (by
        rcases Nat.lt_or_ge g w1.heap.size with q | q
        · exact q
        · have h1 := hce 0 (by omega)
          have h2 : w1.heap[g]? = none := Array.getElem?_eq_none q
          simp [World.cell?, h2] at h1)
      clear hr hb hce
      go_wp2_with fail
      go_loop [0, 32] (fun b i => b = .slice none 0 0 ∧ i = .int .i64 0) (fun _ _ => 0)
      case atStart => exact ⟨rfl, rfl⟩
      case round =>
        obtain ⟨rfl, rfl⟩ := hrel
        have hneg : ¬ (0 : Int) < 0 - (M : Int) := by omega
        have hneg2 : ¬ (0 : Int) < - (M : Int) := by omega
        go_wp2_with fail
        clear hneg hneg2
        go_loopw [0, 12] (fun b i wr => ∃ k v, k ≤ M ∧ b = v ∧ i = .int .i64 ((k : Int) - 1) ∧ Hid (Row wr w1.heap.size v (ds.drop k).reverse ∧ Below w1.heap.size w1 wr)) (fun _ i _ => (intOf i + 1).toNat)
        case atStart => exact ⟨M, .slice none 0 0, Nat.le_refl _, rfl, rfl, Lib.hid ⟨by rw [List.drop_of_length_le (by rw [HM.out]; exact Nat.le_refl _)]; exact World.ownsRow_nil _ _ _ _, Below.refl _ _⟩⟩
        case round =>
          obtain ⟨k, v, hkM, rfl, rfl, hh⟩ := hrel
          by_cases hk0 : k = 0
          · subst hk0
            go_wp2_with fail
            go_ret
            have h := hh.out
            rw [List.drop_zero] at h
            exact ⟨_, rfl, ⟨h.1.1, by
              rcases h.1.2 with hn | ⟨g', cap, cur, hv, h1, h2⟩
              · exact .inl hn
              · exact .inr ⟨g', cap, cur, hv, Nat.le_trans HB.out.size h1, h2⟩⟩, HB.out.trans (h.2.mono HB.out.size)⟩
          · obtain ⟨j, rfl⟩ : ∃ j, k = j + 1 := ⟨k - 1, by omega⟩
            rw [show (((j + 1 : Nat) : Int) - 1) = (j : Int) by omega]
            obtain ⟨x, hx⟩ : ∃ x : Nat, (ds[j]'(by rw [HM.out]; omega)).toNat = x := ⟨_, rfl⟩
            have hcell : wr.cell? ⟨g, j, none⟩ = some (.int .u8 (x : Int)) := by
              have h1 := HCE.out j (by omega)
              rw [Nat.zero_add] at h1
              rw [hh.out.2.cell (p := ⟨g, j, none⟩) HG.out, h1, ← hx]
              congr 1
              have hj : j < ds.length := by rw [HM.out]; omega
              simp [List.getD_eq_getElem?_getD, hj]
            obtain ⟨i0, hi0, hz0, hz1, hz2⟩ := info_parts infoU
            have hA := Lib.hid ((Below.refl wr.heap.size wr).alloc (Nat.le_refl _) (.cells #[.int .u8 (x : Int)] 5))
            obtain ⟨lx, hlx⟩ : ∃ l, (ds.drop (j + 1)).reverse.length = l := ⟨_, rfl⟩
            obtain ⟨Av, cv, hvv⟩ := hh.out.1.len
            rw [hlx] at hvv
            subst hvv
            have hlxM : lx ≤ M := by rw [← hlx, List.length_reverse, List.length_drop, HM.out]; omega
            have HOWN : Hid (World.ownsRow (wr.alloc (.cells #[.int .u8 (x : Int)] 5)) w1.heap.size 5 1 (.slice Av lx cv) lx ((ds.drop (j + 1)).reverse.map fun b => .int .u8 (b.toNat : Int))) := Lib.hid (by have h := own_below hh.out.1 hA.out; rwa [hlx] at h)
            have hsz := hh.out.2.size
            have HX := Lib.hid (And.intro hx hlx)
            clear hx hlx
            go_wp2_with (at_builtin; refine wpList_append_own _ rfl _ _ 104 rfl w1.heap.size 5 i0 _ 1 1 Tryz.underlying104 hi0 hz0 hz1 hz2 rfl (by omega) (.slice Av lx cv) lx _ rfl HOWN.out ⟨wr.heap.size, 0, none⟩ 1 1 [.int .u8 (x : Int)] rfl rfl (byte_new _ _ _) (by simp [Value.oneCell']) (by simp only [maxLen]; omega) (by omega) (Nat.le_trans hsz hA.out.size) ?_; intro v' w3 hr3 hg3 ha3; obtain ⟨Av', cv', hv'⟩ := own_slice hr3; subst hv'; have HR3 := Lib.hid (And.intro hr3 hg3); clear hr3 hg3 ha3)
            go_roundw
            case rel => exact ⟨j, _, by omega, rfl, int_eq (by omega), Lib.hid ⟨by
              have h := HR3.out.1
              rw [rev_step (by rw [HM.out]; omega : j < ds.length)]
              unfold Row
              rw [List.length_append, List.map_append, HX.out.2, List.map_cons, List.map_nil, HX.out.1]
              exact h, (hh.out.2.trans (hA.out.mono hsz)).grown HR3.out.2 (Nat.le_trans hsz hA.out.size) (own_base HOWN.out)⟩⟩
            case measure => simp [intOf]
set_option maxRecDepth 8000 in
set_option maxHeartbeats 2000000 in
theorem text_word (u : Value) (N : Nat) (w : World) (hu : MagN w u N 1) (hN : 0 < N) :
    Calls Tryz.prog 156 #[u, .int .i64 10] w fun e w' => e = .returned (.string ⟨(revDig N).reverse.toArray⟩) ∧ Below w.heap.size w w' := by
  obtain ⟨S, hS⟩ : ∃ S : ByteArray, (⟨(revDig N).reverse.toArray⟩ : ByteArray) = S := ⟨_, rfl⟩
  rw [hS]
  have HSS := Lib.hid hS
  clear hS
  have HN := Lib.hid hN
  have HU := Lib.hid (unit_ten w)
  have HW := Lib.hid (word_any 10000000000000000000 w (by omega))
  have HX := Lib.hid hu
  obtain ⟨A0, k, c0, rfl⟩ := hu.slice
  have hk := hu.one_len hN
  subst hk
  clear hu hN
  go_enter Tryz.func156, Tryz.ntmps156
  go_wp2_with fail
  refine HU.out.mono ?_
  rintro e w1 ⟨rfl, rfl⟩
  go_wp2_with fail
  refine HW.out.mono ?_
  rintro e w2 ⟨v, rfl, hv, hb⟩
  obtain ⟨A1, k1, c1, rfl⟩ := hv.slice
  have hk := hv.one_len (by omega)
  subst hk
  have HB := Lib.hid (And.intro hv hb)
  clear hv hb
  go_wp2_with fail
  have HB1 := Lib.hid ((Below.refl w2.heap.size w2).alloc (Nat.le_refl _) (.cells #[.slice A1 1 c1, .int .i64 19] 241))
  go_loopw [7, 8] (fun l p wr => (l = .slice none 0 0 ∧ p = .pointer (some ⟨w2.heap.size, 0, none⟩) ∧ w2.alloc (.cells #[.slice A1 1 c1, .int .i64 19] 241) = wr) ∨ (∃ A' c' b A2 c2, l = .slice A' 1 c' ∧ p = .pointer (some ⟨b, 0, none⟩) ∧ wr.cell? ⟨b, 0, none⟩ = some (.slice A2 2 c2) ∧ Hid (MagN wr (.slice A0 1 c0) N 1 ∧ Below w1.heap.size w1 wr))) (fun l _ _ => match l with | .slice _ k _ => 1 - k | _ => 0)
  case atStart => exact .inl ⟨rfl, rfl, rfl⟩
  case round =>
    rcases hrel with ⟨rfl, rfl, rfl⟩ | ⟨A', c', b, A2, c2, rfl, rfl, hcell, hh⟩
    · obtain ⟨i0, hi0, hz0, hz1, hz2⟩ := info_parts infoSc
      obtain ⟨w3, hw3⟩ : ∃ w3, w2.alloc (.cells #[.slice A1 1 c1, .int .i64 19] 241) = w3 := ⟨_, rfl⟩
      have hc0 : w3.cell? ⟨w2.heap.size, 0, none⟩ = some (.slice A1 1 c1) := by rw [← hw3]; simp [go_sem]
      have hc1 : w3.cell? ⟨w2.heap.size, 1, none⟩ = some (.int .i64 19) := by rw [← hw3]; simp [go_sem]
      have hlt : w2.heap.size < w3.heap.size := by rw [← hw3]; simp
      rw [hw3] at HB1 ⊢
      have HBX := Lib.hid ((Below.refl w3.heap.size w3).alloc (Nat.le_refl _) (.cells #[.slice A1 1 c1, .int .i64 19] 241))
      have hsz := HB1.out.size
      clear hw3
      go_wp2_with (at_builtin; refine wpList_append_own _ rfl _ _ 239 rfl w3.heap.size 241 i0 _ 2 32 Tryz.underlying239 hi0 hz0 hz1 hz2 rfl (by omega) (.slice none 0 0) 0 [] rfl (World.ownsRow_nil _ _ _ _) ⟨w3.heap.size, 0, none⟩ 1 1 [.slice A1 1 c1, .int .i64 19] rfl rfl (two_new _ _ _ _) (by simp [Value.oneCell']) (by simp only [maxLen]; omega) (by omega) HBX.out.size ?_; intro v' w4 hr3 hg3 ha3; obtain ⟨A', c', hv'⟩ := own_slice hr3; subst hv'; have HR3 := Lib.hid (And.intro hr3 (show Below w3.heap.size w3 w4 from HBX.out.grown hg3 HBX.out.size (by simp [Value.ownBlock]))); clear hr3 hg3 ha3; have hp0 := (HR3.out.2.cell (p := ⟨w2.heap.size, 0, none⟩) hlt).trans hc0; have hp1 := (HR3.out.2.cell (p := ⟨w2.heap.size, 1, none⟩) hlt).trans hc1)
      obtain ⟨w5, hw5⟩ : ∃ w5, w4.alloc (.cells #[.slice A1 1 c1, .int .i64 19] 241) = w5 := ⟨_, rfl⟩
      obtain ⟨pb, hpb⟩ : ∃ pb, w4.heap.size = pb := ⟨_, rfl⟩
      have hq0 : w5.cell? ⟨pb, 0, none⟩ = some (.slice A1 1 c1) := by rw [← hw5, ← hpb]; simp [go_sem]
      have hq1 : w5.cell? ⟨pb, 1, none⟩ = some (.int .i64 19) := by rw [← hw5, ← hpb]; simp [go_sem]
      have hf0 : w5.frozen? ⟨pb, 0, none⟩ = false := by rw [← hw5, ← hpb]; simp [go_sem]
      have hf1 : w5.frozen? ⟨pb, 1, none⟩ = false := by rw [← hw5, ← hpb]; simp [go_sem]
      have hpl : pb < w5.heap.size := by rw [← hw5, ← hpb]; simp
      have HB5 : Hid (Below w4.heap.size w4 w5) := Lib.hid (by rw [← hw5]; exact (Below.refl _ _).alloc (Nat.le_refl _) _)
      have HBW : Hid (Below w2.heap.size w2 w5) := Lib.hid ((HB1.out.trans (HR3.out.2.mono hsz)).trans (HB5.out.mono (Nat.le_trans hsz HR3.out.2.size)))
      have HBV : Hid (Below w1.heap.size w1 w5) := Lib.hid (HB.out.2.trans (HBW.out.mono HB.out.2.size))
      have HX1 := HX
      have HPB : Hid (w1.heap.size ≤ pb) := Lib.hid (by rw [← hpb]; exact Nat.le_trans HB.out.2.size (Nat.le_trans hsz HR3.out.2.size))
      have HM5 := Lib.hid (HB.out.1.below HBW.out)
      have HTM := Lib.hid (fun j => times_mag (.slice A1 1 c1) (.slice A1 1 c1) 10000000000000000000 10000000000000000000 1 1 (w5.drewN j) (show MagN (w5.drewN j) _ _ 1 from HM5.out) (show MagN (w5.drewN j) _ _ 1 from HM5.out) (by omega) (by omega))
      rw [hw5, hpb]

      clear hp0 hp1 hw5 hc0 hc1
      go_region_with (go_at_call 103; refine (HTM.out _).mono ?_; rintro e w6 ⟨x, rfl, hx, hbx⟩; obtain ⟨A2, k2, c2, rfl⟩ := hx.slice; have hk2 := hx.two_len (by omega); subst hk2; have y0 := (hbx.cell (p := ⟨pb, 0, none⟩) hpl).trans hq0; have y1 := (hbx.cell (p := ⟨pb, 1, none⟩) hpl).trans hq1; have y2 := (hbx.frozen (p := ⟨pb, 0, none⟩) hpl).trans hf0; have y3 := (hbx.frozen (p := ⟨pb, 1, none⟩) hpl).trans hf1; have HX := Lib.hid (show Below w1.heap.size w1 w6 from HBV.out.trans ((show Below w5.heap.size w5 w6 from (below_dN (Below.refl _ _) _).trans hbx).mono HBV.out.size)); clear hx hbx)
      all_goals go_roundw
      all_goals first
        | (simp; done)
        | (have HG := Lib.hid ((HX.out.setCell (p := ⟨pb, 0, none⟩) HPB.out (.slice A2 2 c2)).setCell (p := ⟨pb, 1, none⟩) HPB.out (.int .i64 (IntKind.i64.wrap 38)))
           exact ⟨_, _, _, _, _, _, _, _, _, _, _, _, _, _, _, _, _, _, _, _, _, _, _, _, .inr ⟨_, _, pb, A2, c2, rfl, rfl, by simp [go_sem, y0], Lib.hid ⟨HX1.out.below HG.out, HG.out⟩⟩, rfl⟩)
    · have hlN : (revDig N).length ≤ 64 := revDig_len (one_lt hh.out.1) 
      have HS := Lib.hid (spread_nil (.slice A0 1 c0) N A' 1 c' 1 wr hh.out.1 (by omega) (by omega) (.inr rfl))
      go_wp2_with fail
      refine HS.out.mono ?_
      rintro e w3 ⟨v, rfl, hr, hb⟩
      obtain ⟨g, cg, rfl, hce⟩ := hr.bytes (by rw [ne_eq, List.reverse_eq_nil_iff, revDig_pos (by have := HN.out; omega)]; simp)
      have HB3 := Lib.hid hb
      have HCE := Lib.hid hce
      clear hr hb hce
      have hconv := run_convert_bytes_arg (P := Tryz.prog) w3 104 5 Tryz.underlying104 Tryz.underlying5 g 0 (revDig N).reverse.length cg ((revDig N).reverse.map fun b => (b.toNat : Int)) (by simp) HCE.out 9 Tryz.underlying9
      rw [str_bytes] at hconv
      have HCV := Lib.hid hconv
      obtain ⟨ln, hln⟩ : ∃ l, (revDig N).reverse.length = l := ⟨_, rfl⟩
      rw [HSS.out, hln] at hconv
      rw [hln]
      clear HCV HCE HS hln hlN
      go_wp2_with fail
      go_ret
      exact ⟨rfl, hh.out.2.trans (HB3.out.mono hh.out.2.size)⟩
end Go.Proofs.YtgccfdfbnhldbaaGreatDoor.Nb

namespace Go.Proofs.YtgccfdfbnhldbaaGreatDoor.Nb
open Go Go.RowKit

/-- the digits of a number are digits, and are read as the number -/
theorem revDig_dig : ∀ (l n : Nat), n < 10 ^ l → IsDig (revDig n).reverse ∧ decN (revDig n).reverse = n
  | 0, n, h => by
    have h0 : n = 0 := by rw [Nat.pow_zero] at h; omega
    rw [h0, revDig_zero]
    exact ⟨fun x hx => by simp at hx, rfl⟩
  | l + 1, n, h => by
    by_cases h0 : n = 0
    · rw [h0, revDig_zero]
      exact ⟨fun x hx => by simp at hx, rfl⟩
    · obtain ⟨h1, h2⟩ := revDig_dig l (n / 10) (by rw [Nat.pow_succ] at h; omega)
      have e : (UInt8.ofNat (48 + n % 10)).toNat = 48 + n % 10 := by rw [UInt8.toNat_ofNat_of_lt']; show _ < 256; omega
      rw [revDig_pos h0, List.reverse_cons]
      refine ⟨h1.append fun x hx => ?_, ?_⟩
      · have hx' : x = UInt8.ofNat (48 + n % 10) := by simpa using hx
        rw [hx', e]; omega
      · rw [decN_snoc, h2, e]; omega
/-- the first digit of a number is no nought -/
theorem revDig_last : ∀ (l n : Nat), n < 10 ^ l → (revDig n).reverse.head? ≠ some 48
  | 0, n, h => by
    have h0 : n = 0 := by rw [Nat.pow_zero] at h; omega
    rw [h0, revDig_zero]; simp
  | l + 1, n, h => by
    by_cases h0 : n = 0
    · rw [h0, revDig_zero]; simp
    · have ih := revDig_last l (n / 10) (by rw [Nat.pow_succ] at h; omega)
      rw [revDig_pos h0, List.reverse_cons]
      by_cases h1 : n / 10 = 0
      · rw [h1, revDig_zero]
        intro e
        have e2 : UInt8.ofNat (48 + n % 10) = 48 := by simpa using e
        have e3 : (UInt8.ofNat (48 + n % 10)).toNat = 48 + n % 10 := by rw [UInt8.toNat_ofNat_of_lt']; show _ < 256; omega
        rw [e2] at e3
        have e4 : (48 : UInt8).toNat = 48 := rfl
        omega
      · have h2 : (revDig (n / 10)).reverse ≠ [] := by rw [ne_eq, List.reverse_eq_nil_iff, revDig_pos h1]; simp
        cases hl : (revDig (n / 10)).reverse with
        | nil => exact absurd hl h2
        | cons a t => rw [hl] at ih; simpa using ih
set_option maxRecDepth 8000 in
theorem string_word (b o N : Nat) (S : ByteArray) (w : World) (hx : IntN w b o false N) (hN : 0 < N) (hS : (⟨(revDig N).reverse.toArray⟩ : ByteArray) = S) :
    Calls Tryz.prog 44 #[.pointer (some ⟨b, o, none⟩)] w fun e w' => e = .returned (.string S) ∧ Below w.heap.size w w' := by
  have HT : Hid (Calls Tryz.prog 102 #[.pointer (some ⟨b, o, none⟩), .int .i64 10] w fun e w' => e = .returned (.string S) ∧ Below w.heap.size w w') := Lib.hid (by
    obtain ⟨hb, h2, A, k, c, h3, h4⟩ := hx
    have HX := Lib.hid (text_word _ N w h4 hN)
    rw [hS] at HX
    clear h4
    go_enter Tryz.func102, Tryz.ntmps102
    go_wp2_with fail
    refine HX.out.mono ?_
    rintro e w1 ⟨rfl, hb1⟩
    have HB := Lib.hid hb1
    clear hb1
    go_wp2_with fail
    go_ret
    exact ⟨rfl, HB.out⟩)
  clear hx hS
  go_enter Tryz.func44, Tryz.ntmps44
  go_wp2_with fail
  refine HT.out.mono ?_
  rintro e w1 ⟨rfl, hb1⟩
  have HB := Lib.hid hb1
  clear hb1
  go_wp2_with fail
  go_ret
  exact ⟨rfl, HB.out⟩
end Go.Proofs.YtgccfdfbnhldbaaGreatDoor.Nb
