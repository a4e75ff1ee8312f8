/- BQ1 in one text. -/
import Derived.Test.YtbidlkmagbjllaaGreatDoorP33
import Derived.Test.YtbidlkmagbjllaaGreatDoorP13
import Derived.Test.YtbidlkmagbjllaaGreatDoorP12

namespace Go.Proofs.YtbidlkmagbjllaaGreatDoor.Nb
open Go Go.RowKit

/-- the whole number lies in block b from place o on: its sign, its amount of at most L words -/
def IntL (w : World) (b o : Nat) (neg : Bool) (n L : Nat) : Prop :=
  b < w.heap.size ∧ w.cell? ⟨b, o, none⟩ = some (.bool neg) ∧ ∃ A k c, w.cell? ⟨b, o + 1, none⟩ = some (.slice A k c) ∧ MagN w (.slice A k c) n L
theorem IntN.any {w : World} {b o n L : Nat} {neg : Bool} (h : IntN w b o neg n) (hL : 1 ≤ L) : IntL w b o neg n L := by
  obtain ⟨h1, h2, A, k, c, h3, h4⟩ := h
  exact ⟨h1, h2, A, k, c, h3, h4.more hL⟩
theorem IntL.more {w : World} {b o n L L' : Nat} {neg : Bool} (h : IntL w b o neg n L) (hL : L ≤ L') : IntL w b o neg n L' := by
  obtain ⟨h1, h2, A, k, c, h3, h4⟩ := h
  exact ⟨h1, h2, A, k, c, h3, h4.more hL⟩
theorem IntL.less {w : World} {b o n L L' : Nat} {neg : Bool} (h : IntL w b o neg n L) (hn : n < 18446744073709551616 ^ L') : IntL w b o neg n L' := by
  obtain ⟨h1, h2, A, k, c, h3, h4⟩ := h
  exact ⟨h1, h2, A, k, c, h3, h4.less hn⟩
theorem IntL.below {w w' : World} {b o n L B : Nat} {neg : Bool} (h : IntL w b o neg n L) (hb : Below B w w') (hB : w.heap.size ≤ B) : IntL w' b o neg n L := by
  obtain ⟨h1, h2, A, k, c, h3, h4⟩ := h
  have hb' := hb.mono hB
  exact ⟨Nat.lt_of_lt_of_le h1 hb.size, (hb.cell (p := ⟨b, o, none⟩) (show b < B by omega)).trans h2, A, k, c, (hb.cell (p := ⟨b, o + 1, none⟩) (show b < B by omega)).trans h3, h4.below hb'⟩
theorem ISlot.layL {w : World} {b o : Nat} (h : ISlot w b o) {A : Option Addr} {k c n L : Nat} (hm : MagN w (.slice A k c) n L) (neg : Bool) : IntL (Nb.put w b o neg (.slice A k c)) b o neg n L ∧ ISlot (Nb.put w b o neg (.slice A k c)) b o := by
  have hk := h.magN hm neg (.slice A k c)
  obtain ⟨h1, ⟨neg', h2⟩, ⟨A', k', c', h3⟩, h4, h5⟩ := h
  have e0 : (Nb.put w b o neg (.slice A k c)).cell? ⟨b, o, none⟩ = some (.bool neg) := by simp [Nb.put, go_sem, h2]
  have e1 : (Nb.put w b o neg (.slice A k c)).cell? ⟨b, o + 1, none⟩ = some (.slice A k c) := by simp [Nb.put, go_sem, h3]
  have es : b < (Nb.put w b o neg (.slice A k c)).heap.size := by simpa [Nb.put, World.setCell] using h1
  exact ⟨⟨es, e0, A, k, c, e1, hk⟩, es, ⟨neg, e0⟩, ⟨A, k, c, e1⟩, by simp [Nb.put, go_sem, h4], by simp [Nb.put, go_sem, h5]⟩
/-- the answer of a setter: the number is written there, nothing below its block has turned -/
def WroteL (w : World) (b o : Nat) (neg : Bool) (n L : Nat) (e : Ending) (w' : World) : Prop :=
  e = .returned (.pointer (some ⟨b, o, none⟩)) ∧ IntL w' b o neg n L ∧ ISlot w' b o ∧ Below b w w'
set_option maxRecDepth 8000 in
/-- the last step of a setter: a number in new memory is written -/
theorem made_numL (b o n L : Nat) (neg : Bool) (A : Option Addr) (k c : Nat) (w : World) (h : ISlot w b o) (hm : MagN w (.slice A k c) n L) (hn : neg = true → n ≠ 0) :
    Calls Tryz.prog 101 #[.pointer (some ⟨b, o, none⟩), .bool neg, .slice A k c] w (WroteL w b o neg n L) := by
  refine (made_any b o neg A k c w h).mono ?_
  rintro e w' ⟨rfl, rfl⟩
  have hq : (neg && decide (0 < k)) = neg := by
    rcases neg with _ | _
    · rfl
    · have h1 := hm.len.1
      have h2 : 0 < k := by
        rcases Nat.eq_zero_or_pos k with q | q
        · exact absurd (h1 q) (hn rfl)
        · exact q
      simp [h2]
  rw [hq]
  have h2 := h.layL hm neg
  exact ⟨rfl, h2.1, h2.2, below_put (Below.refl _ _) (Nat.le_refl _) _ _⟩
theorem WroteL.after {w w1 w' : World} {b o n L : Nat} {neg : Bool} {e : Ending} (h : WroteL w1 b o neg n L e w') (hb : Below b w w1) : WroteL w b o neg n L e w' :=
  ⟨h.1, h.2.1, h.2.2.1, hb.trans h.2.2.2⟩
set_option maxRecDepth 8000 in
set_option maxHeartbeats 1000000 in
theorem setStringL (b o : Nat) (s : ByteArray) (w : World) (h : ISlot w b o) (h0 : 0 < s.size) (hs : s.size ≤ 1000000) (hd : ∀ b ∈ s.data.toList, 48 ≤ b.toNat ∧ b.toNat ≤ 57) :
    Calls Tryz.prog 48 #[.pointer (some ⟨b, o, none⟩), .string s, .int .i64 10] w fun e w' => e = .returned (.tuple #[.pointer (some ⟨b, o, none⟩), .bool true]) ∧ IntL w' b o false (decN s.data.toList) (s.size + 1) ∧ ISlot w' b o ∧ Below b w w' := by
  have HR := Lib.hid (read_any s w h0 hs hd)
  have H := Lib.hid h
  have hne : s.toList.isEmpty = false := by
    rw [Lib.toList_data]
    have h1 : s.data.toList.length = s.size := by simp
    match hq : s.data.toList with
    | [] => rw [hq] at h1; simp at h1; omega
    | _ :: _ => rfl
  have hd0 := hd s[0] (by simp [ByteArray.getElem_eq_getElem_data])
  have hd1 : ((s[0].toNat : Int) == 45) = false := by simp; omega
  clear h hd hd0
  go_enter Tryz.func48, Tryz.ntmps48
  go_wp2_with fail
  refine HR.out.mono ?_
  rintro e w1 ⟨v, rfl, hm, hb⟩
  obtain ⟨A, k, c, rfl⟩ := hm.slice
  have HM := Lib.hid (made_numL b o _ _ false A k c w1 (H.out.below hb (Nat.le_refl _)) hm (by simp))
  have HB := Lib.hid (hb.mono (Nat.le_of_lt H.out.1))
  clear hm hb
  go_wp2_with fail
  refine HM.out.mono ?_
  rintro e w2 ⟨rfl, h1, h2, h3⟩
  have HF := Lib.hid (And.intro h1 (And.intro h2 (HB.out.trans h3)))
  clear h1 h2 h3
  go_wp2_with fail
  go_ret2
  exact ⟨rfl, HF.out⟩
set_option maxRecDepth 8000 in
set_option maxHeartbeats 1000000 in
theorem expL (z zo b o m b' o' n L : Nat) (w : World) (h : ISlot w z zo) (hx : IntL w b o false m L) (hy : IntN w b' o' false n) (hm : 0 < m) (hT : m ^ n < 18446744073709551616 ^ L) (hL : L ≤ 268435456) (hL1 : 1 ≤ L) (hz : b ≠ z) (hz' : b' ≠ z) :
    Calls Tryz.prog 158 #[.pointer (some ⟨z, zo, none⟩), .pointer (some ⟨b, o, none⟩), .pointer (some ⟨b', o', none⟩), .pointer none] w (WroteL w z zo false (m ^ n) L) := by
  obtain ⟨hb, h2, A, k, c, h3, h4⟩ := hx
  obtain ⟨hb', h2', A', k', c', h3', h4'⟩ := hy
  have HLO := Lib.hid (fun W (hW : Below w.heap.size w W) => low_one _ n W (h4'.below hW))
  have HP := Lib.hid (fun W (hW : Below w.heap.size w W) => power_any _ m n L W (h4.below hW) hm (one_lt h4') hT hL hL1)
  have H := Lib.hid h
  obtain ⟨T, hTe⟩ : ∃ T, m ^ n = T := ⟨_, rfl⟩
  rw [hTe] at HP hT ⊢
  clear h h4 h4' hTe hm hT
  go_enter Tryz.func158, Tryz.ntmps158
  go_wp2_with fail
  have hcur : Below w.heap.size w w.drew := (Below.refl _ _).drew
  have HS := Lib.hid (fun (W : World) (hW : Below w.heap.size w W) => (show W.cell? ⟨b, o, none⟩ = some (.bool false) ∧ W.cell? ⟨b, o + 1, none⟩ = some (.slice A k c) ∧ W.cell? ⟨b', o' + 1, none⟩ = some (.slice A' k' c') from ⟨(hW.cell (p := ⟨b, o, none⟩) (by exact hb)).trans h2, (hW.cell (p := ⟨b, o + 1, none⟩) (by exact hb)).trans h3, (hW.cell (p := ⟨b', o' + 1, none⟩) (by exact hb')).trans h3'⟩))
  have HS2 := Lib.hid (fun (W : World) (hW : Below w.heap.size w W) (neg : Bool) (v : Value) => (show (put W z zo neg v).cell? ⟨b, o, none⟩ = some (.bool false) ∧ (put W z zo neg v).cell? ⟨b, o + 1, none⟩ = some (.slice A k c) ∧ (put W z zo neg v).cell? ⟨b', o' + 1, none⟩ = some (.slice A' k' c') from ⟨(put_cell _ _ (.inl hz)).trans (HS.out W hW).1, (put_cell _ _ (.inl hz)).trans (HS.out W hW).2.1, (put_cell _ _ (.inl hz')).trans (HS.out W hW).2.2⟩))
  refine wp_region_held_drew (S := (fun w' => w'.cell? ⟨b, o, none⟩ = some (.bool false) ∧ w'.cell? ⟨b, o + 1, none⟩ = some (.slice A k c) ∧ w'.cell? ⟨b', o' + 1, none⟩ = some (.slice A' k' c'))) (by kernel_rfl) (HS.out _ hcur) (fun hHeld => ?_)
  show wpAnyH _ _ _ _ _ (21 + 1) _ _ _
  refine wpAnyH_take (i := 0) (oi := _) (v := ?v0) rfl (by kernel_rfl) (by kernel_rfl) (by kernel_rfl) (fun _ _ _ h => h) (Or.inl ⟨by rfl, ?hy0⟩) (by assumption) ?rest0
  case hy0 => (intro w hSw; (try dsimp only at hSw); go_simp; try with_reducible rfl)
  try simp only [Act.put, List.getElem_toArray, List.getElem_cons_zero, List.setIfInBounds_toArray, List.set_cons_zero, List.set_cons_succ]
  show wpAnyH _ _ _ _ _ (20 + 1) _ _ _
  refine wpAnyH_take (i := 1) (oi := _) (v := ?v1) rfl (by kernel_rfl) (by kernel_rfl) (by kernel_rfl) (fun _ _ _ h => h) (Or.inl ⟨by rfl, ?hy1⟩) (by assumption) ?rest1
  case hy1 => (intro w hSw; (try dsimp only at hSw); go_simp; try with_reducible rfl)
  try simp only [Act.put, List.getElem_toArray, List.getElem_cons_zero, List.getElem_cons_succ, List.setIfInBounds_toArray, List.set_cons_zero, List.set_cons_succ]
  show wpAnyH _ _ _ _ _ (19 + 1) _ _ _
  refine wpAnyH_take (i := 2) (oi := _) (v := ?v2) rfl (by kernel_rfl) (by kernel_rfl) (by kernel_rfl) (fun _ _ _ h => h) (Or.inl ⟨by rfl, ?hy2⟩) (by assumption) ?rest2
  case hy2 => (intro w hSw; (try dsimp only at hSw); go_simp; try with_reducible rfl)
  try simp only [Act.put, List.getElem_toArray, List.getElem_cons_zero, List.getElem_cons_succ, List.setIfInBounds_toArray, List.set_cons_zero, List.set_cons_succ]
  show wpAnyH _ _ _ _ _ (18 + 1) _ _ _
  refine wpAnyH_take (i := 3) (oi := _) (v := ?v3) rfl (by kernel_rfl) (by kernel_rfl) (by kernel_rfl) (fun _ _ _ h => h) (Or.inl ⟨by rfl, ?hy3⟩) (by assumption) ?rest3
  case hy3 => (intro w hSw; (try dsimp only at hSw); go_simp; try with_reducible rfl)
  try simp only [Act.put, List.getElem_toArray, List.getElem_cons_zero, List.getElem_cons_succ, List.setIfInBounds_toArray, List.set_cons_zero, List.set_cons_succ]
  show wpAnyH _ _ _ _ _ (17 + 1) _ _ _
  refine wpAnyH_take (i := 4) (oi := _) (v := ?v4) rfl (by kernel_rfl) (by kernel_rfl) (by kernel_rfl) (fun _ _ _ h => h) (Or.inl ⟨by rfl, ?hy4⟩) (by assumption) ?rest4
  case hy4 => (intro w hSw; (try dsimp only at hSw); go_simp; try with_reducible rfl)
  try simp only [Act.put, List.getElem_toArray, List.getElem_cons_zero, List.getElem_cons_succ, List.setIfInBounds_toArray, List.set_cons_zero, List.set_cons_succ]
  show wpAnyH _ _ _ _ _ (16 + 1) _ _ _
  refine wpAnyH_take (i := 5) (oi := _) (v := ?v5) rfl (by kernel_rfl) (by kernel_rfl) (by kernel_rfl) (fun _ _ _ h => h) (Or.inl ⟨by rfl, ?hy5⟩) (by assumption) ?rest5
  case hy5 => (intro w hSw; (try dsimp only at hSw); go_simp; try with_reducible rfl)
  try simp only [Act.put, List.getElem_toArray, List.getElem_cons_zero, List.getElem_cons_succ, List.setIfInBounds_toArray, List.set_cons_zero, List.set_cons_succ]
  show wpAnyH _ _ _ _ _ (15 + 1) _ _ _
  refine wpAnyH_take (i := 6) (oi := _) (v := undef) rfl (by kernel_rfl) (by kernel_rfl) (by kernel_rfl) (fun _ _ _ h => h) (Or.inr ⟨by rfl, rfl⟩) (by assumption) ?_
  try simp only [Act.put, List.getElem_toArray, List.getElem_cons_zero, List.getElem_cons_succ, List.setIfInBounds_toArray, List.set_cons_zero, List.set_cons_succ]
  show wpAnyH _ _ _ _ _ (14 + 1) _ _ _
  refine wpAnyH_take (i := 7) (oi := _) (v := undef) rfl (by kernel_rfl) (by kernel_rfl) (by kernel_rfl) (fun _ _ _ h => h) (Or.inr ⟨by rfl, rfl⟩) (by assumption) ?_
  try simp only [Act.put, List.getElem_toArray, List.getElem_cons_zero, List.getElem_cons_succ, List.setIfInBounds_toArray, List.set_cons_zero, List.set_cons_succ]
  show wpAnyH _ _ _ _ _ (13 + 1) _ _ _
  refine wpAnyH_take (i := 8) (oi := _) (v := undef) rfl (by kernel_rfl) (by kernel_rfl) (by kernel_rfl) (fun _ _ _ h => h) (Or.inr ⟨by rfl, rfl⟩) (by assumption) ?_
  try simp only [Act.put, List.getElem_toArray, List.getElem_cons_zero, List.getElem_cons_succ, List.setIfInBounds_toArray, List.set_cons_zero, List.set_cons_succ]
  show wpAnyH _ _ _ _ _ (12 + 1) _ _ _
  refine wpAnyH_take (i := 9) (oi := _) (v := ?v9) rfl (by kernel_rfl) (by kernel_rfl) (by kernel_rfl) (fun _ _ _ h => h) (Or.inl ⟨by rfl, ?hy9⟩) (by assumption) ?rest9
  case hy9 => (intro w hSw; (try dsimp only at hSw); go_simp; try with_reducible rfl)
  try simp only [Act.put, List.getElem_toArray, List.getElem_cons_zero, List.getElem_cons_succ, List.setIfInBounds_toArray, List.set_cons_zero, List.set_cons_succ]
  show wpAnyH _ _ _ _ _ (11 + 1) _ _ _
  refine wpAnyH_take (i := 10) (oi := _) (v := ?v10) rfl (by kernel_rfl) (by kernel_rfl) (by kernel_rfl) (fun _ _ _ h => h) (Or.inl ⟨by rfl, ?hy10⟩) (by assumption) ?rest10
  case hy10 => (intro w hSw; (try dsimp only at hSw); go_simp; try with_reducible rfl)
  try simp only [Act.put, List.getElem_toArray, List.getElem_cons_zero, List.getElem_cons_succ, List.setIfInBounds_toArray, List.set_cons_zero, List.set_cons_succ]
  show wpAnyH _ _ _ _ _ (10 + 1) _ _ _
  refine wpAnyH_take (i := 11) (oi := _) (v := ?v11) rfl (by kernel_rfl) (by kernel_rfl) (by kernel_rfl) (fun _ _ _ h => h) (Or.inl ⟨by rfl, ?hy11⟩) (by assumption) ?rest11
  case hy11 => (intro w hSw; (try dsimp only at hSw); go_simp; try with_reducible rfl)
  try simp only [Act.put, List.getElem_toArray, List.getElem_cons_zero, List.getElem_cons_succ, List.setIfInBounds_toArray, List.set_cons_zero, List.set_cons_succ]
  show wpAnyH _ _ _ _ _ (9 + 1) _ _ _
  refine wpAnyH_take (i := 12) (oi := _) (v := ?v12) rfl (by kernel_rfl) (by kernel_rfl) (by kernel_rfl) (fun _ _ _ h => h) (Or.inl ⟨by rfl, ?hy12⟩) (by assumption) ?rest12
  case hy12 => (intro w hSw; (try dsimp only at hSw); go_simp; try with_reducible rfl)
  try simp only [Act.put, List.getElem_toArray, List.getElem_cons_zero, List.getElem_cons_succ, List.setIfInBounds_toArray, List.set_cons_zero, List.set_cons_succ]
  show wpAnyH _ _ _ _ _ (8 + 1) _ _ _
  refine wpAnyH_take (i := 13) (oi := _) (v := ?v13) rfl (by kernel_rfl) (by kernel_rfl) (by kernel_rfl) (fun _ _ _ h => h) (Or.inl ⟨by rfl, ?hy13⟩) (by assumption) ?rest13
  case hy13 => (intro w hSw; (try dsimp only at hSw); go_simp; try with_reducible rfl)
  try simp only [Act.put, List.getElem_toArray, List.getElem_cons_zero, List.getElem_cons_succ, List.setIfInBounds_toArray, List.set_cons_zero, List.set_cons_succ]
  show wpAnyH _ _ _ _ _ (7 + 1) _ _ _
  refine wpAnyH_take (i := 14) (oi := _) (v := ?v14) rfl (by kernel_rfl) (by kernel_rfl) (by kernel_rfl) (fun _ _ _ h => h) (Or.inl ⟨by rfl, ?hy14⟩) (by assumption) ?rest14
  case hy14 => (intro w hSw; (try dsimp only at hSw); go_simp; try with_reducible rfl)
  try simp only [Act.put, List.getElem_toArray, List.getElem_cons_zero, List.getElem_cons_succ, List.setIfInBounds_toArray, List.set_cons_zero, List.set_cons_succ]
  show wpAnyH _ _ _ _ _ (6 + 1) _ _ _
  refine wpAnyH_take (i := 15) (oi := _) (v := ?v15) rfl (by kernel_rfl) (by kernel_rfl) (by kernel_rfl) (fun _ _ _ h => h) (Or.inl ⟨by rfl, ?hy15⟩) (by assumption) ?rest15
  case hy15 => (intro w hSw; (try dsimp only at hSw); go_simp; try with_reducible rfl)
  try simp only [Act.put, List.getElem_toArray, List.getElem_cons_zero, List.getElem_cons_succ, List.setIfInBounds_toArray, List.set_cons_zero, List.set_cons_succ]
  show wpAnyH _ _ _ _ _ (5 + 1) _ _ _
  refine wpAnyH_take (i := 16) (oi := _) (v := ?v16) rfl (by kernel_rfl) (by kernel_rfl) (by kernel_rfl) (fun _ _ _ h => h) (Or.inl ⟨by rfl, ?hy16⟩) (by assumption) ?rest16
  case hy16 => (intro w hSw; (try dsimp only at hSw); go_simp; try with_reducible rfl)
  try simp only [Act.put, List.getElem_toArray, List.getElem_cons_zero, List.getElem_cons_succ, List.setIfInBounds_toArray, List.set_cons_zero, List.set_cons_succ]
  show wpAnyH _ _ _ _ _ (4 + 1) _ _ _
  refine wpAnyH_take (i := 17) (oi := _) (v := ?v17) rfl (by kernel_rfl) (by kernel_rfl) (by kernel_rfl) (fun _ _ _ h => h) (Or.inl ⟨by rfl, ?hy17⟩) (by assumption) ?rest17
  case hy17 => (intro w hSw; (try dsimp only at hSw); go_simp; try with_reducible rfl)
  try simp only [Act.put, List.getElem_toArray, List.getElem_cons_zero, List.getElem_cons_succ, List.setIfInBounds_toArray, List.set_cons_zero, List.set_cons_succ]
  show wpAnyH _ _ _ _ _ (3 + 1) _ _ _
  refine wpAnyH_ready (rs := [18]) (by kernel_rfl) (by simp) ?_
  refine AllReadyH.cons (o := _) rfl (fun K hK => ?_) AllReadyH.nil
  go_simp
  refine (HLO.out _ hcur).mono ?_; rintro e w3 ⟨rfl, rfl⟩
  go_wp2_with fail
  refine hK.out _ _ (HS.out _ hcur) (fun hHeld => ?_)
  clear hK K
  try simp only [Act.put, List.getElem_toArray, List.getElem_cons_zero, List.getElem_cons_succ, List.setIfInBounds_toArray, List.set_cons_zero, List.set_cons_succ]
  show wpAnyH _ _ _ _ _ (2 + 1) _ _ _
  refine wpAnyH_ready (rs := [19]) (by kernel_rfl) (by simp) ?_
  refine AllReadyH.cons (o := _) rfl (fun K hK => ?_) AllReadyH.nil
  go_simp
  refine (HP.out _ hcur).mono ?_; rintro e w3 ⟨v, rfl, hm, hb3⟩; obtain ⟨A1, k1, c1, rfl⟩ := hm.slice; have hcur2 := back_of hcur hb3; have HM := Lib.hid (made_any z zo false A1 k1 c1 w3 (H.out.below hcur2 (Nat.le_refl _))); have HF := Lib.hid (And.intro ((H.out.below hcur2 (Nat.le_refl _)).layL hm false) (below_put (o := zo) (hcur2.mono (Nat.le_of_lt H.out.1)) (Nat.le_refl _) false (.slice A1 k1 c1))); clear hm hb3
  go_wp2_with fail
  refine hK.out _ _ (HS.out _ hcur2) (fun hHeld => ?_)
  clear hK K
  try simp only [Act.put, List.getElem_toArray, List.getElem_cons_zero, List.getElem_cons_succ, List.setIfInBounds_toArray, List.set_cons_zero, List.set_cons_succ]
  show wpAnyH _ _ _ _ _ (1 + 1) _ _ _
  refine wpAnyH_ready (rs := [20]) (by kernel_rfl) (by simp) ?_
  refine AllReadyH.cons (o := _) rfl (fun K hK => ?_) AllReadyH.nil
  go_simp
  refine HM.out.mono ?_; rintro e w4 ⟨rfl, rfl⟩
  go_wp2_with fail
  refine hK.out _ _ (HS2.out _ hcur2 _ _) (fun hHeld => ?_)
  clear hK K
  try simp only [Act.put, List.getElem_toArray, List.getElem_cons_zero, List.getElem_cons_succ, List.setIfInBounds_toArray, List.set_cons_zero, List.set_cons_succ]
  show wpAnyH _ _ _ _ _ (0 + 1) _ _ _
  refine wpAnyH_take (i := 21) (oi := _) (v := ?v21) rfl (by kernel_rfl) (by kernel_rfl) (by kernel_rfl) (fun _ _ _ h => h) (Or.inl ⟨by rfl, ?hy21⟩) (by assumption) ?rest21
  case hy21 => (intro w hSw; (try dsimp only at hSw); go_simp; try with_reducible rfl)
  try simp only [Act.put, List.getElem_toArray, List.getElem_cons_zero, List.getElem_cons_succ, List.setIfInBounds_toArray, List.set_cons_zero, List.set_cons_succ]
  refine wpAnyH_done (by kernel_rfl) ?_ _
  go_wp2_with fail
  go_ret
  exact ⟨rfl, HF.out.1.1, HF.out.1.2, HF.out.2⟩
end Go.Proofs.YtbidlkmagbjllaaGreatDoor.Nb
