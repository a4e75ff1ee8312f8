/- RE4 RE5 in one text. -/
import Derived.Test.YtbidlkmagbjllaaGreatDoorP39
import Derived.Test.YtbidlkmagbjllaaGreatDoorP41
import Derived.Test.YtbidlkmagbjllaaGreatDoorP38

namespace Go.Proofs.YtbidlkmagbjllaaGreatDoor.Bg
open Go Go.RowKit

/-- two boxed exact numbers, one behind the other -/
def TwoE (W : World) (b : Nat) (p q : Addr) (xe ye : Int) : Prop :=
  W.cell? ⟨b, 0, none⟩ = some (.pointer (some p)) ∧ W.cell? ⟨b, 1, none⟩ = some (.int .i64 xe) ∧ W.cell? ⟨b + 1, 0, none⟩ = some (.pointer (some q)) ∧ W.cell? ⟨b + 1, 1, none⟩ = some (.int .i64 ye)
theorem TwoE.below {W1 W : World} {b : Nat} {p q : Addr} {xe ye : Int} (h : TwoE W1 b p q xe ye) (hb : b + 1 < W1.heap.size) (k : Below W1.heap.size W1 W) : TwoE W b p q xe ye :=
  ⟨(k.cell (p := ⟨b, 0, none⟩) (by show b < W1.heap.size; omega)).trans h.1, (k.cell (p := ⟨b, 1, none⟩) (by show b < W1.heap.size; omega)).trans h.2.1, (k.cell (p := ⟨b + 1, 0, none⟩) (by exact hb)).trans h.2.2.1, (k.cell (p := ⟨b + 1, 1, none⟩) (by exact hb)).trans h.2.2.2⟩
theorem TwoE.store {W : World} {b : Nat} {p q : Addr} {xe ye : Int} {v0 v1 : Value} (h : TwoE W b p q xe ye) : TwoE ((W.setCell ⟨b + 2, 0, none⟩ v0).setCell ⟨b + 2, 1, none⟩ v1) b p q xe ye := by
  have k : ∀ a o, a ≠ b + 2 → ((W.setCell ⟨b + 2, 0, none⟩ v0).setCell ⟨b + 2, 1, none⟩ v1).cell? ⟨a, o, none⟩ = W.cell? ⟨a, o, none⟩ := fun a o ha => by
    rw [World.cell?_setCell_other _ _ _ _ (by intro e; injection e with e; omega), World.cell?_setCell_other _ _ _ _ (by intro e; injection e with e; omega)]
  exact ⟨(k _ _ (by omega)).trans h.1, (k _ _ (by omega)).trans h.2.1, (k _ _ (by omega)).trans h.2.2.1, (k _ _ (by omega)).trans h.2.2.2⟩
theorem TwoE.store' {W : World} {b : Nat} {p q : Addr} {xe ye : Int} {v0 v1 : Value} (h : TwoE W b p q xe ye) : TwoE ((W.setCell ⟨b + 1 + 1, 0, none⟩ v0).setCell ⟨b + 1 + 1, 1, none⟩ v1) b p q xe ye := TwoE.store h
/-- the result's cells -/
def ResE (W : World) (b : Nat) : Prop := (W.cell? ⟨b, 0, none⟩ = some (.pointer none) ∧ W.cell? ⟨b, 1, none⟩ = some (.int .i64 0)) ∧ W.frozen? ⟨b, 0, none⟩ = false ∧ W.frozen? ⟨b, 1, none⟩ = false
theorem ResE.below {W1 W : World} {b : Nat} (h : ResE W1 b) (hb : b < W1.heap.size) (k : Below W1.heap.size W1 W) : ResE W b :=
  ⟨⟨(k.cell (p := ⟨b, 0, none⟩) (by exact hb)).trans h.1.1, (k.cell (p := ⟨b, 1, none⟩) (by exact hb)).trans h.1.2⟩, (k.frozen (p := ⟨b, 0, none⟩) (by exact hb)).trans h.2.1, (k.frozen (p := ⟨b, 1, none⟩) (by exact hb)).trans h.2.2⟩
/-- a sum of exact numbers, as far as its sign goes -/
def SumG (w : World) (S : Int) (L : Nat) (en : Ending) (w' : World) : Prop := ∃ (z : Addr) (r e : Int), en = .returned (.agg #[.pointer (some z), .int .i64 e]) ∧ IntAt w' z r L ∧ signI r = signI S ∧ Below w.heap.size w w'
theorem IntAt.lt {w : World} {p : Addr} {x : Int} {L : Nat} (h : IntAt w p x L) : p.block < w.heap.size := by
  obtain ⟨b, off, neg, v, n, rfl, h2, -⟩ := h
  exact h2
theorem signI_mul {x : Int} {N : Nat} : signI (x * ((2 ^ N : Nat) : Int)) = signI x := by
  have h : (0 : Int) < ((2 ^ N : Nat) : Int) := by have := Nat.two_pow_pos N; omega
  generalize ((2 ^ N : Nat) : Int) = P at *
  unfold signI
  rcases Int.lt_trichotomy x 0 with c | c | c
  · have := Int.mul_neg_of_neg_of_pos c h
    rw [if_neg (by omega), if_pos this, if_neg (by omega), if_pos c]
  · subst c; simp
  · have := Int.mul_pos c h
    rw [if_neg (by omega), if_neg (by omega), if_neg (by omega), if_neg (by omega)]

theorem exact_field (v : Value) (e : Int) (W : World) : (Instr.field 55 (.agg #[v, .int .i64 e]) 0).run Tryz.prog W = .ok v W := by kernel_rfl

set_option maxRecDepth 8000 in
set_option maxHeartbeats 4000000 in
theorem eadd_any (p q : Addr) (x y xe ye : Int) (L N M : Nat) (w : World) (hp : IntAt w p x L) (hq : IntAt w q y L) (hN : xe - min xe ye = (N : Int)) (hM : ye - min xe ye = (M : Int)) (hL : L ≤ 100000) (hN2 : N ≤ 1000000) (hM2 : M ≤ 1000000) :
    Calls Tryz.prog 65 #[.agg #[.pointer (some p), .int .i64 xe], .agg #[.pointer (some q), .int .i64 ye]] w (SumG w (x * ((2 ^ N : Nat) : Int) + y * ((2 ^ M : Nat) : Int)) 200000) := by
  obtain ⟨e, he⟩ : ∃ e, min xe ye = e := ⟨_, rfl⟩
  rw [he] at hN hM
  obtain ⟨W1, hW1⟩ : ∃ W1, ((w.alloc (.cells #[.pointer (some p), .int .i64 xe] 55)).alloc (.cells #[.pointer (some q), .int .i64 ye] 55)).alloc (.cells #[.pointer none, .int .i64 0] 55) = W1 := ⟨_, rfl⟩
  have h1 := (Below.refl w.heap.size w).alloc (Nat.le_refl _) (.cells #[.pointer (some p), .int .i64 xe] 55)
  have h2 := h1.alloc h1.size (.cells #[.pointer (some q), .int .i64 ye] 55)
  have hB1 : Below w.heap.size w W1 := by rw [← hW1]; exact h2.alloc h2.size _
  have hs1 : W1.heap.size = w.heap.size + 3 := by rw [← hW1]; simp
  have hT : TwoE W1 w.heap.size p q xe ye := by
    rw [← hW1]
    refine ⟨?_, ?_, ?_, ?_⟩ <;> simp [go_sem]
  have hR : ResE W1 (w.heap.size + 2) := by
    rw [← hW1]
    refine ⟨⟨?_, ?_⟩, ?_, ?_⟩ <;> simp [go_sem]
  have HT := Lib.hid (fun W hW => hT.below (W := W) (by omega) hW)
  have HR := Lib.hid (fun W hW => hR.below (W := W) (by omega) hW)
  have HS1 := Lib.hid hs1
  have HB1 := Lib.hid hB1
  have HPQ := Lib.hid (fun (W : World) (hW : Below W1.heap.size W1 W) => (And.intro ((hp.below hB1).below hW) ((hq.below hB1).below hW)))
  obtain ⟨S, hS⟩ : ∃ S, x * ((2 ^ N : Nat) : Int) + y * ((2 ^ M : Nat) : Int) = S := ⟨_, rfl⟩
  have HSS := Lib.hid hS
  rw [hS]
  obtain ⟨c0, c1, c2, c3⟩ := hT
  obtain ⟨⟨r0, r1⟩, q0, q1⟩ := hR
  have HSX := Lib.hid (Sign_any p x L W1 (hp.below hB1))
  have HSY := Lib.hid (Sign_any q y L W1 (hq.below hB1))
  have hp1 := hp.below hB1
  have hq1 := hq.below hB1
  have HP1 := Lib.hid (And.intro hp1 hq1)
  have hpl := hp.lt
  have hql := hq.lt
  have HLT := Lib.hid (And.intro hpl hql)
  clear h1 h2 hB1 hs1 hS hp hq hp1 hq1 hpl hql
  by_cases hx : x = 0
  · subst hx
    have hs0 : signI 0 = 0 := rfl
    rw [hs0] at HSX
    go_enter Tryz.func65, Tryz.ntmps65
    go_wp2_with fail
    refine HSX.out.mono ?_
    rintro en w2 ⟨rfl, rfl⟩
    clear hW1 HSX
    go_wp2_with fail
    exact bodyPost_ret (by simp [results, Tryz.results65, go_sem, r0, r1]) rfl ⟨q, y, ye, rfl, (HP1.out.2.answer2 (b := w.heap.size + 2) (by have := HLT.out.2; omega) r0 r1).more (by omega), (by rw [← HSS.out, Int.zero_mul, Int.zero_add, signI_mul]), (HB1.out.setCell (p := ⟨w.heap.size + 2, 0, none⟩) (by show w.heap.size ≤ w.heap.size + 2; omega) _).setCell (p := ⟨w.heap.size + 2, 1, none⟩) (by show w.heap.size ≤ w.heap.size + 2; omega) _⟩
  · have hsx : signI x ≠ 0 := by unfold signI; rw [if_neg hx]; split <;> omega
    obtain ⟨sx, hsxe⟩ : ∃ sx, signI x = sx := ⟨_, rfl⟩
    rw [hsxe] at hsx HSX
    have hsxb : (sx == 0) = false := by simpa using hsx
    clear hsxe
    by_cases hy : y = 0
    · subst hy
      have hs0 : signI 0 = 0 := rfl
      rw [hs0] at HSY
      go_enter Tryz.func65, Tryz.ntmps65
      go_wp2_with fail
      refine HSX.out.mono ?_
      rintro en w2 ⟨rfl, rfl⟩
      clear hW1 HSX
      go_wp2_with fail
      refine HSY.out.mono ?_
      rintro en w2 ⟨rfl, rfl⟩
      go_wp2_with fail
      exact bodyPost_ret (by simp [results, Tryz.results65, go_sem, r0, r1]) rfl ⟨p, x, xe, rfl, (HP1.out.1.answer2 (b := w.heap.size + 2) (by have := HLT.out.1; omega) r0 r1).more (by omega), (by rw [← HSS.out, Int.zero_mul, Int.add_zero, signI_mul]), (HB1.out.setCell (p := ⟨w.heap.size + 2, 0, none⟩) (by show w.heap.size ≤ w.heap.size + 2; omega) _).setCell (p := ⟨w.heap.size + 2, 1, none⟩) (by show w.heap.size ≤ w.heap.size + 2; omega) _⟩
    · have hsy : signI y ≠ 0 := by unfold signI; rw [if_neg hy]; split <;> omega
      obtain ⟨sy, hsye⟩ : ∃ sy, signI y = sy := ⟨_, rfl⟩
      rw [hsye] at hsy HSY
      have hsyb : (sy == 0) = false := by simpa using hsy
      clear hsye
      have HLX := Lib.hid (fun (W : World) (hW : Below W1.heap.size W1 W) => elow_any p x xe e L N W (HPQ.out W hW).1 hN (by omega) (by omega))
      have HLY := Lib.hid (fun (W : World) (hW : Below W1.heap.size W1 W) => elow_any q y ye e L M W (HPQ.out W hW).2 hM (by omega) (by omega))
      have hal : Below W1.heap.size W1 (W1.alloc (.cells #[.bool false, .slice none 0 0] 41)).drew := ((Below.refl _ _).alloc (Nat.le_refl _) _).drew
      have hsl := Lib.hid (show Slot (W1.alloc (.cells #[.bool false, .slice none 0 0] 41)).drew ⟨W1.heap.size, 0, none⟩ from Slot.new W1 false none 0 0 41)
      have hcur : Below W1.heap.size W1 W1.drew := (Below.refl _ _).drew
      obtain ⟨X, hX⟩ : ∃ X, x * ((2 ^ N : Nat) : Int) = X := ⟨_, rfl⟩
      obtain ⟨Y, hY⟩ : ∃ Y, y * ((2 ^ M : Nat) : Int) = Y := ⟨_, rfl⟩
      rw [hX] at HLX HSS
      rw [hY] at HLY HSS
      clear hX hY
      go_enter Tryz.func65, Tryz.ntmps65
      go_wp2_with fail
      refine HSX.out.mono ?_
      rintro en w2 ⟨rfl, rfl⟩
      clear hW1 HSX
      go_wp2_with fail
      refine HSY.out.mono ?_
      rintro en w2 ⟨rfl, rfl⟩
      go_upto_region 6 with (fail)
      clear c0 c1 c2 c3 r0 r1 q0 q1 hN hM HSY he
      have hfd : ∀ (u : Addr) (W : World), (Instr.field 55 (.agg #[.pointer (some u), .int .i64 e]) 0).run Tryz.prog W = .ok (.pointer (some u)) W := fun u W => exact_field _ _ W
      go_region_held3 (fun w' => w'.cell? ⟨w.heap.size, 0, none⟩ = some (.pointer (some p)) ∧ w'.cell? ⟨w.heap.size, 1, none⟩ = some (.int .i64 xe) ∧ w'.cell? ⟨w.heap.size + 1, 0, none⟩ = some (.pointer (some q)) ∧ w'.cell? ⟨w.heap.size + 1, 1, none⟩ = some (.int .i64 ye))
        (first | exact TwoE.store (HT.out _ hb4) | exact TwoE.store' (HT.out _ hb4) | exact HT.out _ (by first | exact hcur | exact hb4 | exact hb3 | exact hb2 | exact hal | exact hb3.alloc hb3.size _ | exact hb2.alloc hb2.size _))
        (first | (go_at_call_of 117 (Value.pointer (some p)); refine (HLX.out _ (by first | exact hal | exact hcur)).mono ?_; rintro en w2 ⟨zx, rfl, ix, bx⟩; have HX2 := Lib.hid ix; have hb2 : Below W1.heap.size W1 w2 := (by first | exact hal.trans (bx.mono hal.size) | exact hcur.trans (bx.mono hcur.size))) | (go_at_call_of 117 (Value.pointer (some q)); refine (HLY.out _ (by first | exact hb2 | exact hb2.alloc hb2.size _)).mono ?_; rintro en w3 ⟨zy, rfl, iy, bY⟩; have HY3 := Lib.hid iy; have HX3 := Lib.hid (show IntAt w3 zx X _ from by first | exact HX2.out.below bY | exact (HX2.out.below ((Below.refl _ _).alloc (Nat.le_refl _) _)).below bY); have hb3 : Below W1.heap.size W1 w3 := (by first | exact hb2.trans (bY.mono hb2.size) | exact (hb2.alloc hb2.size _).trans (bY.mono (hb2.alloc hb2.size _).size))) | (go_at_call 63; refine (Add_any _ zx zy X Y 199999 _ (by first | exact (hsl.out.below bx).below bY | exact (Slot.new w2 false none 0 0 41).below bY | exact Slot.new w3 false none 0 0 41) (by first | exact HX3.out.more (by omega) | exact (HX3.out.more (by omega)).below ((Below.refl _ _).alloc (Nat.le_refl _) _)) (by first | exact HY3.out.more (by omega) | exact (HY3.out.more (by omega)).below ((Below.refl _ _).alloc (Nat.le_refl _) _)) (by omega)).mono ?_; rintro en w4 hg; have HG := Lib.hid hg; have hb4 : Below W1.heap.size W1 w4 := (by first | exact hb3.trans (hg.2.1.below (by first | exact Nat.le_refl _ | exact hb2.size) hb3.size) | exact (hb3.alloc hb3.size _).trans (hg.2.1.below (by exact hb3.size) (hb3.alloc hb3.size _).size)); obtain ⟨rfl, -⟩ := id hg; obtain ⟨⟨r0, r1⟩, q0, q1⟩ := (show ResE w4 (w.heap.size + 1 + 1) from HR.out _ hb4)))
      all_goals go_wp2_with fail
      all_goals exact bodyPost_ret (by simp [results, Tryz.results65, go_sem, r0, r1]) rfl ⟨_, X + Y, e, rfl, HG.out.2.2.answer2 (b := w.heap.size + 1 + 1) (by
        have h1 := HS1.out
        have h2 := hb2.size
        have h3 := hb3.size
        first | (show W1.heap.size ≠ _; omega) | (show w2.heap.size ≠ _; omega) | (show w3.heap.size ≠ _; omega)) r0 r1, by rw [HSS.out], ((HB1.out.trans (hb4.mono HB1.out.size)).setCell (p := ⟨w.heap.size + 1 + 1, 0, none⟩) (by show w.heap.size ≤ w.heap.size + 1 + 1; omega) _).setCell (p := ⟨w.heap.size + 1 + 1, 1, none⟩) (by show w.heap.size ≤ w.heap.size + 1 + 1; omega) _⟩

set_option maxRecDepth 8000 in
set_option maxHeartbeats 4000000 in
/-- Cmp: how two exact numbers stand -/
theorem ecmp_any (p q : Addr) (x y xe ye : Int) (L N M : Nat) (w : World) (hp : IntAt w p x L) (hq : IntAt w q y L) (hN : xe - min xe ye = (N : Int)) (hM : ye - min xe ye = (M : Int)) (hL : L ≤ 100000) (hN2 : N ≤ 1000000) (hM2 : M ≤ 1000000) :
    Calls Tryz.prog 19 #[.agg #[.pointer (some p), .int .i64 xe], .agg #[.pointer (some q), .int .i64 ye]] w fun en w' => en = .returned (.int .i64 (signI (x * ((2 ^ N : Nat) : Int) - y * ((2 ^ M : Nat) : Int)))) ∧ Below w.heap.size w w' := by
  obtain ⟨W1, hW1⟩ : ∃ W1, (w.alloc (.cells #[.pointer (some p), .int .i64 xe] 55)).alloc (.cells #[.pointer (some q), .int .i64 ye] 55) = W1 := ⟨_, rfl⟩
  have h1 := (Below.refl w.heap.size w).alloc (Nat.le_refl _) (.cells #[.pointer (some p), .int .i64 xe] 55)
  have hB1 : Below w.heap.size w W1 := by rw [← hW1]; exact h1.alloc h1.size _
  have hs1 : W1.heap.size = w.heap.size + 2 := by rw [← hW1]; simp
  have hT : TwoE W1 w.heap.size p q xe ye := by
    rw [← hW1]
    refine ⟨?_, ?_, ?_, ?_⟩ <;> simp [go_sem]
  have HT := Lib.hid (fun W hW => hT.below (W := W) (by omega) hW)
  have HB1 := Lib.hid hB1
  obtain ⟨S, hS⟩ : ∃ S, x * ((2 ^ N : Nat) : Int) - y * ((2 ^ M : Nat) : Int) = S := ⟨_, rfl⟩
  have hcur : Below W1.heap.size W1 W1.drew := (Below.refl _ _).drew
  have HNG := Lib.hid (eneg_any q y ye L W1.drew ((hq.below hB1).below hcur) (by omega))
  have HAD := Lib.hid (fun (W : World) (hW : Below W1.heap.size W1 W) (z : Addr) (hz : IntAt W z (-y) L) => eadd_any p z x (-y) xe ye L N M W ((hp.below hB1).below hW) hz hN hM hL hN2 hM2)
  rw [Int.neg_mul, ← Int.sub_eq_add_neg, hS] at HAD
  rw [hS]
  obtain ⟨c0, c1, c2, c3⟩ := hT
  have hfd : ∀ (u : Addr) (e : Int) (W : World), (Instr.field 55 (.agg #[.pointer (some u), .int .i64 e]) 0).run Tryz.prog W = .ok (.pointer (some u)) W := fun u e W => exact_field _ _ W
  clear h1 hB1 hs1 hS hp hq hN hM
  go_enter Tryz.func19, Tryz.ntmps19
  go_upto_region 1 with (fail)
  clear hW1 c0 c1 c2 c3
  go_region_held3 (fun w' => w'.cell? ⟨w.heap.size, 0, none⟩ = some (.pointer (some p)) ∧ w'.cell? ⟨w.heap.size, 1, none⟩ = some (.int .i64 xe) ∧ w'.cell? ⟨w.heap.size + 1, 0, none⟩ = some (.pointer (some q)) ∧ w'.cell? ⟨w.heap.size + 1, 1, none⟩ = some (.int .i64 ye))
    (exact HT.out _ (by first | exact hcur | exact hb3 | exact hb2))
    (first | (go_at_call 66; refine HNG.out.mono ?_; rintro en w2 ⟨z, rfl, iz, bz⟩; have HZ2 := Lib.hid iz; have hb2 : Below W1.heap.size W1 w2 := hcur.trans bz; clear iz bz) | (go_at_call 65; refine (HAD.out _ (by exact hb2) z HZ2.out).mono ?_; rintro en w3 ⟨z3, r3, e3, rfl, i3, s3, b3⟩; have HZ3 := Lib.hid i3; have HS3 := Lib.hid s3; have hb3 : Below W1.heap.size W1 w3 := hb2.trans (b3.mono hb2.size); clear i3 s3 b3) | (go_at_call 55; refine (Sign_any z3 r3 200000 _ HZ3.out).mono ?_; rintro en w4 ⟨rfl, rfl⟩))
  go_wp2_with fail
  go_ret
  exact ⟨by rw [HS3.out]; rfl, HB1.out.trans (hb3.mono HB1.out.size)⟩
end Go.Proofs.YtbidlkmagbjllaaGreatDoor.Bg

namespace Go.Proofs.YtbidlkmagbjllaaGreatDoor.Bg
open Go Go.RowKit

/-- block g may have changed, no list of words has -/
structure KeepG (w w' : World) (g : Nat) : Prop where
  size : w.heap.size ≤ w'.heap.size
  mag : ∀ v ws, Mag w v ws → Mag w' v ws
  cell : ∀ p : Addr, p.block < w.heap.size → p.block ≠ g → w'.cell? p = w.cell? p
  frozen : ∀ p : Addr, p.block < w.heap.size → p.block ≠ g → w'.frozen? p = w.frozen? p
  below : ∀ B, B ≤ g → B ≤ w.heap.size → Below B w w'
theorem KeepG.of_below {w w' : World} {g : Nat} (h : Below w.heap.size w w') : KeepG w w' g :=
  ⟨h.size, fun _ _ hm => hm.below h, fun _ hp _ => h.cell hp, fun _ hp _ => h.frozen hp, fun _ _ hB => h.mono hB⟩
theorem KeepG.of_wrote {w w' : World} {z : Addr} (h : Wrote w w' z) (hz : Slot w z) : KeepG w w' z.block := by
  refine ⟨h.size, fun _ _ hm => h.mag hz hm, fun p hp hn => ?_, fun p hp hn => ?_, fun _ h1 h2 => h.below h1 h2⟩
  · obtain ⟨b, off, neg, A, n, c, rfl, -⟩ := hz
    exact h.cell hp (by rintro rfl; exact hn rfl) (by rintro rfl; exact hn rfl)
  · obtain ⟨b, off, w1, neg, A, n, c, rfl, hb, rfl⟩ := h
    have h0 : ∀ (W : World) (i : Nat) (v : Value), (W.setCell ⟨b, i, none⟩ v).frozen? p = W.frozen? p := fun W i v => by
      refine World.frozen?_of_block ?_
      simp only [World.setCell, Array.getElem?_modify]
      rw [if_neg (fun e => hn e.symm)]
    rw [h0, h0]
    exact hb.frozen hp
theorem KeepG.of_gives {w w' : World} {z : Addr} {r : Int} {L : Nat} {e : Ending} (h : Gives w z r L e w') (hz : Slot w z) : KeepG w w' z.block := KeepG.of_wrote h.2.1 hz
theorem KeepG.magN {w w' : World} {g : Nat} (h : KeepG w w' g) {v : Value} {n L : Nat} (hm : MagN w v n L) : MagN w' v n L := by
  obtain ⟨ws, h1, h2⟩ := hm
  exact ⟨ws, h.mag _ _ h1, h2⟩
theorem KeepG.intAt {w w' : World} {g : Nat} (h : KeepG w w' g) {p : Addr} {x : Int} {L : Nat} (hi : IntAt w p x L) (hne : p.block ≠ g) : IntAt w' p x L := by
  obtain ⟨b, off, neg, v, n, rfl, h2, h3, h4, h5, h6⟩ := hi
  exact ⟨b, off, neg, v, n, rfl, Nat.lt_of_lt_of_le h2 h.size, (h.cell ⟨b, off, none⟩ h2 hne).trans h3, (h.cell ⟨b, off + 1, none⟩ h2 hne).trans h4, h.magN h5, h6⟩
theorem KeepG.slot {w w' : World} {g : Nat} (h : KeepG w w' g) {p : Addr} (hi : Slot w p) (hne : p.block ≠ g) : Slot w' p := by
  obtain ⟨b, off, neg, A, n, c, rfl, h2, h3, h4, h5, h6⟩ := hi
  exact ⟨b, off, neg, A, n, c, rfl, Nat.lt_of_lt_of_le h2 h.size, (h.cell ⟨b, off, none⟩ h2 hne).trans h3, (h.cell ⟨b, off + 1, none⟩ h2 hne).trans h4, (h.frozen ⟨b, off, none⟩ h2 hne).trans h5, (h.frozen ⟨b, off + 1, none⟩ h2 hne).trans h6⟩
theorem KeepG.res {w w' : World} {g b : Nat} (h : KeepG w w' g) (hi : ResE w b) (hb : b < w.heap.size) (hne : b ≠ g) : ResE w' b :=
  ⟨⟨(h.cell ⟨b, 0, none⟩ hb hne).trans hi.1.1, (h.cell ⟨b, 1, none⟩ hb hne).trans hi.1.2⟩, (h.frozen ⟨b, 0, none⟩ hb hne).trans hi.2.1, (h.frozen ⟨b, 1, none⟩ hb hne).trans hi.2.2⟩
theorem ResE.new (w : World) : ResE (w.alloc (.cells #[.pointer none, .int .i64 0] 55)) w.heap.size := by
  refine ⟨⟨?_, ?_⟩, ?_, ?_⟩ <;> simp [go_sem]

theorem IntAt.setOld {w : World} {p q : Addr} {x : Int} {L : Nat} (h : IntAt w p x L) {old new : Value} (hold : w.cell? q = some old) (hb : ∀ b, old ≠ .bool b) (hs : ∀ a n c, old ≠ .slice a n c) (hk : ∀ n, old ≠ .int .u32 n) : IntAt (w.setCell q new) p x L := by
  obtain ⟨b, off, neg, v, n, rfl, h2, h3, h4, ⟨ws, h5, h6⟩, h7⟩ := h
  have hv : ∃ A k c, v = .slice A k c := by
    obtain ⟨A, c, e, -⟩ := h5
    exact ⟨A, _, c, e⟩
  obtain ⟨A, k, c, rfl⟩ := hv
  refine ⟨b, off, neg, _, n, rfl, by simpa [World.setCell] using h2, ?_, ?_, ⟨ws, h5.setOther hold hk, h6⟩, h7⟩
  · rw [World.cell?_setCell_other _ _ _ _ (by intro e; rw [e, h3] at hold; injection hold with hold; exact hb _ hold.symm)]; exact h3
  · rw [World.cell?_setCell_other _ _ _ _ (by intro e; rw [e, h4] at hold; injection hold with hold; exact hs _ _ _ hold.symm)]; exact h4
theorem IntAt.answer3 {w : World} {p : Addr} {x : Int} {L b : Nat} {p1 : Option Addr} {q1 : Value} {i2 : Int} {j2 : Value} (h : IntAt w p x L) (h0 : w.cell? ⟨b, 0, none⟩ = some (.pointer p1)) (h1 : w.cell? ⟨b, 1, none⟩ = some (.int .i64 i2)) :
    IntAt ((w.setCell ⟨b, 0, none⟩ q1).setCell ⟨b, 1, none⟩ j2) p x L :=
  (h.setOld (q := ⟨b, 0, none⟩) h0 (by simp) (by simp) (by simp)).setOld (q := ⟨b, 1, none⟩) (old := .int .i64 i2) (by rw [World.cell?_setCell_other _ _ _ _ (by intro e; injection e with _ e; omega)]; exact h1) (by simp) (by simp) (by simp)

theorem Slot.lt {w : World} {b o : Nat} (h : Slot w ⟨b, o, none⟩) : b < w.heap.size := by
  obtain ⟨b', off, neg, A, n, c, e, h2, -⟩ := h
  injection e with e1 e2
  omega
theorem Slot.setOld {w : World} {p q : Addr} {v : Value} (h : Slot w p) (hne : p.block ≠ q.block) : Slot (w.setCell q v) p := by
  obtain ⟨b, off, neg, A, n, c, rfl, h2, h3, h4, h5, h6⟩ := h
  have hf : ∀ o, (w.setCell q v).frozen? ⟨b, o, none⟩ = w.frozen? ⟨b, o, none⟩ := fun o => by
    refine World.frozen?_of_block ?_
    simp only [World.setCell, Array.getElem?_modify]
    rw [if_neg (fun e => hne e.symm)]
  refine ⟨b, off, neg, A, n, c, rfl, by simpa [World.setCell] using h2, ?_, ?_, (hf _).trans h5, (hf _).trans h6⟩
  · rw [World.cell?_setCell_other _ _ _ _ (by intro e; exact hne (by rw [e]))]; exact h3
  · rw [World.cell?_setCell_other _ _ _ _ (by intro e; exact hne (by rw [e]))]; exact h4

/-- what Value answers -/
def ValG (t : Nb.DTxt) (w : World) (en : Ending) (w' : World) : Prop :=
  ∃ (z : Addr) (n : Nat) (xe : Int), en = .returned (.agg #[.pointer (some z), .int .i64 xe]) ∧ Nb.RefV t n xe ∧ IntAt w' z (Nx.sv t.neg n) 20000 ∧ Below w.heap.size w w' ∧ -300000 ≤ xe ∧ xe ≤ 0
/-- the boxed decimal and the answer's block -/
def ValB (W : World) (b : Nat) (neg : Bool) (E : Int) : Prop := W.cell? ⟨b, 0, none⟩ = some (.bool neg) ∧ W.cell? ⟨b, 2, none⟩ = some (.int .i64 E) ∧ ResE W (b + 1)
theorem ValB.below {W1 W : World} {b B : Nat} {neg : Bool} {E : Int} (h : ValB W1 b neg E) (hb : b + 1 < B) (k : Below B W1 W) : ValB W b neg E := by
  obtain ⟨h1, h2, ⟨h3, h4⟩, h5, h6⟩ := h
  have hc : ∀ a o, a < B → W.cell? ⟨a, o, none⟩ = W1.cell? ⟨a, o, none⟩ := fun a o ha => World.cell?_of_block (k.block a ha)
  have hf : ∀ a o, a < B → W.frozen? ⟨a, o, none⟩ = W1.frozen? ⟨a, o, none⟩ := fun a o ha => World.frozen?_of_block (k.block a ha)
  exact ⟨(hc _ _ (by omega)).trans h1, (hc _ _ (by omega)).trans h2, ⟨(hc _ _ hb).trans h3, (hc _ _ hb).trans h4⟩, (hf _ _ hb).trans h5, (hf _ _ hb).trans h6⟩

set_option maxRecDepth 8000 in
set_option maxHeartbeats 8000000 in
theorem value_any (t : Nb.DTxt) (p : Addr) (w : World) (hp : IntAt w p (Nb.decN t.digs : Int) 2001) (hE0 : -22000 ≤ t.expR) (hE1 : t.expR ≤ 22000) :
    Calls Tryz.prog 18 #[.agg #[.bool t.neg, .pointer (some p), .int .i64 t.expR]] w (ValG t w) := by
  obtain ⟨D, hD⟩ : ∃ D, Nb.decN t.digs = D := ⟨_, rfl⟩
  obtain ⟨E, hE⟩ : ∃ E, t.expR = E := ⟨_, rfl⟩
  obtain ⟨neg, hneg⟩ : ∃ b, t.neg = b := ⟨_, rfl⟩
  rw [hD] at hp
  rw [hE] at hE0 hE1 ⊢
  rw [hneg]
  have HDE := Lib.hid (And.intro hD (And.intro hE hneg))
  obtain ⟨W1, hW1⟩ : ∃ W1, (w.alloc (.cells #[.bool neg, .pointer (some p), .int .i64 E] 25)).alloc (.cells #[.pointer none, .int .i64 0] 55) = W1 := ⟨_, rfl⟩
  have h1 := (Below.refl w.heap.size w).alloc (Nat.le_refl _) (.cells #[.bool neg, .pointer (some p), .int .i64 E] 25)
  have hB1 : Below w.heap.size w W1 := by rw [← hW1]; exact h1.alloc h1.size _
  have hs1 : W1.heap.size = w.heap.size + 2 := by rw [← hW1]; simp
  have hV : ValB W1 w.heap.size neg E := by
    rw [← hW1]
    refine ⟨?_, ?_, ⟨?_, ?_⟩, ?_, ?_⟩ <;> simp [go_sem]
  have hc1 : W1.cell? ⟨w.heap.size, 1, none⟩ = some (.pointer (some p)) := by rw [← hW1]; simp [go_sem]
  have hal : Below W1.heap.size W1 (W1.alloc (.cells #[.bool false, .slice none 0 0] 41)) := (Below.refl _ _).alloc (Nat.le_refl _) _
  have ca1 := (hal.cell (p := ⟨w.heap.size, 1, none⟩) (by show w.heap.size < W1.heap.size; omega)).trans hc1
  have HST := Lib.hid (Set_any ⟨W1.heap.size, 0, none⟩ p D 2001 (W1.alloc (.cells #[.bool false, .slice none 0 0] 41)) (Slot.new W1 false none 0 0 41) ((hp.below hB1).below hal) (by omega))
  have HSL := Lib.hid (Slot.new W1 false none 0 0 41)
  have HBX := Lib.hid (fun (W : World) (hW : Below W1.heap.size W1 W) => hV.below (B := W1.heap.size) (by omega) hW)
  have HB1 := Lib.hid hB1
  have HS1 := Lib.hid hs1
  have HA := Lib.hid hal
  clear h1 hB1 hs1 hV hal hp hc1 hD hE hneg
  go_enter Tryz.func18, Tryz.ntmps18
  go_wp2_with fail
  refine HST.out.mono ?_
  rintro en w2 hg
  have HG2 := Lib.hid hg
  have HN2 := Lib.hid (And.intro hg.2.2 (hg.2.1.slot HSL.out HSL.out))
  have HB2 : Hid (Below W1.heap.size W1 w2) := Lib.hid (HA.out.trans (hg.2.1.below (by exact Nat.le_refl _) (by simp)))
  obtain ⟨rfl, -⟩ := id hg
  have hs2 : W1.heap.size < w2.heap.size := HN2.out.1.lt
  clear hg hW1 ca1 HST HG2
  have HSG := Lib.hid (Sign_any ⟨W1.heap.size, 0, none⟩ (D : Int) 2001 w2 HN2.out.1)
  by_cases hd0 : D = 0
  · subst hd0
    have hs0 : signI ((0 : Nat) : Int) = 0 := rfl
    rw [hs0] at HSG
    have HEZ := Lib.hid (ezero_any w2)
    go_wp2_with fail
    refine HSG.out.mono ?_
    rintro en w3 ⟨rfl, rfl⟩
    go_wp2_with fail
    refine HEZ.out.mono ?_
    rintro en w3 ⟨z, rfl, iz, bz⟩
    have HZ := Lib.hid iz
    have HB3 : Hid (Below W1.heap.size W1 w3) := Lib.hid (HB2.out.trans (bz.mono HB2.out.size))
    have HZB : Hid (z.block < w3.heap.size) := Lib.hid iz.lt
    obtain ⟨d0, d2, ⟨r0, r1⟩, q0, q1⟩ := HBX.out _ HB3.out
    clear iz bz HEZ HSG
    go_wp2_with fail
    exact bodyPost_ret (by simp [results, Tryz.results18, go_sem, r0, r1]) rfl ⟨z, 0, 0, rfl, .zero HDE.out.1, (by
      have h := (HZ.out.answer3 (q1 := .pointer (some z)) (j2 := .int .i64 0) r0 r1).more (show 1 ≤ 20000 by omega)
      have e : Nx.sv t.neg 0 = 0 := by cases t.neg <;> rfl
      rw [e]
      exact h), ((HB1.out.trans (HB3.out.mono HB1.out.size)).setCell (p := ⟨w.heap.size + 1, 0, none⟩) (by show w.heap.size ≤ w.heap.size + 1; omega) _).setCell (p := ⟨w.heap.size + 1, 1, none⟩) (by show w.heap.size ≤ w.heap.size + 1; omega) _, by omega, by omega⟩
  · have hsd : signI (D : Int) = 1 := by unfold signI; rw [if_neg (by omega), if_neg (by omega)]
    rw [hsd] at HSG
    obtain ⟨m1, hm1⟩ : ∃ m1 : Int, min E 8000 = m1 := ⟨_, rfl⟩
    obtain ⟨ee, hee⟩ : ∃ ee : Int, max (-8000) m1 = ee := ⟨_, rfl⟩
    obtain ⟨k, hk⟩ : ∃ k : Nat, max ee (-ee) = (k : Int) := ⟨(max ee (-ee)).toNat, by omega⟩
    have hk8 : k ≤ 8000 := by omega
    obtain ⟨L8, hL8, hL8'⟩ : ∃ L8 : Nat, 8001 ≤ L8 ∧ L8 ≤ 8001 := ⟨8001, by omega, by omega⟩
    have he0 : -8000 ≤ ee := by omega
    have he1 : ee ≤ 8000 := by omega
    have HEK := Lib.hid (And.intro hm1 (And.intro hee hk))
    have hal3 : Below w2.heap.size w2 (w2.alloc (.cells #[.bool false, .slice none 0 0] 41)) := (Below.refl _ _).alloc (Nat.le_refl _) _
    have HA3 := Lib.hid hal3
    obtain ⟨d0, d2, ⟨r0, r1⟩, q0, q1⟩ := HBX.out _ HB2.out
    have d2' := (hal3.cell (p := ⟨w.heap.size, 2, none⟩) (by show w.heap.size < w2.heap.size; have := HS1.out; omega)).trans d2
    have HI10 := Lib.hid (newInt_any 10 (w2.alloc (.cells #[.bool false, .slice none 0 0] 41)) (by omega) (by omega))
    clear hal3
    go_wp2_with fail
    refine HSG.out.mono ?_
    rintro en w3 ⟨rfl, rfl⟩
    go_wp2_with fail
    refine HI10.out.mono ?_
    rintro en w4 ⟨z10, rfl, hz10, s10, i10, b10⟩
    have hsz := HA3.out.size
    have HB4 : Hid (Below W1.heap.size W1 w4) := Lib.hid (HB2.out.trans ((HA3.out.trans (b10.mono hsz)).mono HB2.out.size))
    have HN4 : Hid (IntAt w4 ⟨W1.heap.size, 0, none⟩ (D : Int) 2001 ∧ Slot w4 ⟨W1.heap.size, 0, none⟩) := Lib.hid (by
      have hb := HA3.out.trans (b10.mono hsz)
      exact ⟨HN2.out.1.below hb, HN2.out.2.below hb⟩)
    have HZ4 : Hid (Slot w4 ⟨w2.heap.size, 0, none⟩) := Lib.hid ((Slot.new w2 false none 0 0 41).below b10)
    have HT4 : Hid (IntAt w4 z10 ((10 : Nat) : Int) L8) := Lib.hid (i10.more (by omega))
    have hs4 : w2.heap.size < w4.heap.size := HZ4.out.lt
    clear s10 i10 b10 hsz hz10 HI10 HSG hm1 hee d0 d2 d2' r0 r1 q0 q1 HN2 HB2
    have HIK := Lib.hid (newInt_any (k : Int) w4 (by omega) (by omega))
    go_wp2_with fail
    refine HIK.out.mono ?_
    rintro en w5 ⟨zk, rfl, hzk, sk, ik, bk⟩
    have HEX := Lib.hid (Exp_any ⟨w2.heap.size, 0, none⟩ z10 zk 10 k L8 w5 (HZ4.out.below bk) (HT4.out.below bk) ik (by omega) (Nat.lt_of_lt_of_le (ten_words (Nat.le_refl k)) (Nat.pow_le_pow_right (by omega) (by omega))) (by omega) (by omega))
    have HB5 : Hid (Below W1.heap.size W1 w5) := Lib.hid (HB4.out.trans (bk.mono HB4.out.size))
    have HN5 := Lib.hid (And.intro (HN4.out.1.below bk) (HN4.out.2.below bk))
    have HZ5 := Lib.hid (HZ4.out.below bk)
    obtain ⟨T, hT⟩ : ∃ T, 10 ^ k = T := ⟨_, rfl⟩
    rw [hT] at HEX
    have HTT := Lib.hid hT
    have hs5 := bk.size
    clear sk ik bk hzk hT HIK HN4 HZ4 HT4 hk
    go_wp2_with fail
    refine HEX.out.mono ?_
    rintro en w6 hg
    have HK6 := Lib.hid (KeepG.of_gives hg HZ5.out)
    have HT6 := Lib.hid (And.intro hg.2.2 (hg.2.1.slot HZ5.out HZ5.out))
    have HB6 : Hid (Below W1.heap.size W1 w6) := Lib.hid (HB5.out.trans (HK6.out.below _ (by show W1.heap.size ≤ w2.heap.size; omega) HB5.out.size))
    have HN6 : Hid (IntAt w6 ⟨W1.heap.size, 0, none⟩ (D : Int) 2001 ∧ Slot w6 ⟨W1.heap.size, 0, none⟩) := Lib.hid ⟨HK6.out.intAt HN5.out.1 (by show W1.heap.size ≠ w2.heap.size; omega), HK6.out.slot HN5.out.2 (by show W1.heap.size ≠ w2.heap.size; omega)⟩
    obtain ⟨rfl, -⟩ := id hg
    have hs6 := HK6.out.size
    clear hg HEX HN5 HZ5 HK6 HB4 HB5
    have hal7 : Below w6.heap.size w6 (w6.alloc (.cells #[.pointer none, .int .i64 0] 55)) := (Below.refl _ _).alloc (Nat.le_refl _) _
    have HX7 := Lib.hid (ResE.new w6)
    have HN7 := Lib.hid (And.intro (HN6.out.1.below hal7) (HN6.out.2.below hal7))
    have HT7 := Lib.hid (And.intro (HT6.out.1.below hal7) (HT6.out.2.below hal7))
    have HB7 : Hid (Below W1.heap.size W1 (w6.alloc (.cells #[.pointer none, .int .i64 0] 55))) := Lib.hid (HB6.out.trans (hal7.mono HB6.out.size))
    have hs7 : w6.heap.size < (w6.alloc (.cells #[.pointer none, .int .i64 0] 55)).heap.size := by simp
    clear hal7 HN6 HT6 HB6
    by_cases hee0 : 0 ≤ ee
    · have HMS := Lib.hid (Mul_self ⟨W1.heap.size, 0, none⟩ ⟨w2.heap.size, 0, none⟩ D T 2001 L8 _ HN7.out.2 HN7.out.1 HT7.out.1 (by intro h; injection h with h; omega) (by omega) (by omega))
      go_wp2_with fail
      refine HMS.out.mono ?_
      rintro en w8 hg
      have HK8 := Lib.hid (KeepG.of_gives hg HN7.out.2)
      have HN8 := Lib.hid (And.intro hg.2.2 (hg.2.1.slot HN7.out.2 HN7.out.2))
      obtain ⟨rfl, -⟩ := id hg
      have HB8 : Hid (Below W1.heap.size W1 w8) := Lib.hid (HB7.out.trans (HK8.out.below _ (Nat.le_refl _) HB7.out.size))
      obtain ⟨⟨x0, x1⟩, x2, x3⟩ := HK8.out.res HX7.out hs7 (by show w6.heap.size ≠ W1.heap.size; omega)
      have hs8 := HK8.out.size
      clear hg HMS HN7 HT7 HB7 HX7
      go_upto_region 15 with (fail)
      have HZ : Hid (IntAt (w8.setCell ⟨w6.heap.size, 0, none⟩ (.pointer (some ⟨W1.heap.size, 0, none⟩))) ⟨W1.heap.size, 0, none⟩ ((D * T : Nat) : Int) 19000) := Lib.hid ((HN8.out.1.more (by omega)).setOld x0 (by simp) (by simp) (by simp))
      have HZS : Hid (Slot (w8.setCell ⟨w6.heap.size, 0, none⟩ (.pointer (some ⟨W1.heap.size, 0, none⟩))) ⟨W1.heap.size, 0, none⟩) := Lib.hid (HN8.out.2.setOld (by show W1.heap.size ≠ w6.heap.size; omega))
      have HBW : Hid (Below W1.heap.size W1 (w8.setCell ⟨w6.heap.size, 0, none⟩ (.pointer (some ⟨W1.heap.size, 0, none⟩)))) := Lib.hid (HB8.out.setCell (p := ⟨w6.heap.size, 0, none⟩) (by show W1.heap.size ≤ w6.heap.size; omega) _)
      have HXC : Hid ((w8.setCell ⟨w6.heap.size, 0, none⟩ (.pointer (some ⟨W1.heap.size, 0, none⟩))).cell? ⟨w6.heap.size, 0, none⟩ = some (.pointer (some ⟨W1.heap.size, 0, none⟩)) ∧ (w8.setCell ⟨w6.heap.size, 0, none⟩ (.pointer (some ⟨W1.heap.size, 0, none⟩))).cell? ⟨w6.heap.size, 1, none⟩ = some (.int .i64 0)) := Lib.hid ⟨by simp [go_sem, x0], by simp [go_sem, x1]⟩
      have hx6 : w6.heap.size < (w8.setCell ⟨w6.heap.size, 0, none⟩ (.pointer (some ⟨W1.heap.size, 0, none⟩))).heap.size := by simp [World.setCell]; omega
      generalize w8.setCell ⟨w6.heap.size, 0, none⟩ (.pointer (some ⟨W1.heap.size, 0, none⟩)) = WW at *
      obtain ⟨nn, hnn⟩ : ∃ nn, D * T = nn := ⟨_, rfl⟩
      rw [hnn] at HZ
      obtain ⟨zx, hzx⟩ : ∃ zx : Addr, (⟨W1.heap.size, 0, none⟩ : Addr) = zx := ⟨_, rfl⟩
      have hzx1 : W1.heap.size ≤ zx.block := by rw [← hzx]; exact Nat.le_refl _
      have hzx2 : w6.heap.size ≠ zx.block := by rw [← hzx]; show w6.heap.size ≠ W1.heap.size; omega
      obtain ⟨xe, hxe⟩ : ∃ xe : Int, xe = 0 := ⟨_, rfl⟩
      have hxe0 : -300000 ≤ xe := by omega
      have hxe1 : xe ≤ 0 := by omega
      have HRV : Hid (Nb.RefV t nn xe) := Lib.hid (by
        obtain ⟨a1, a2, a3⟩ := HEK.out
        rw [hxe, ← hnn, ← HTT.out]
        have h9 := Nb.RefV.pos (t := t) (by rw [HDE.out.1]; omega) (by rw [HDE.out.2.1]; omega)
        rw [HDE.out.1, HDE.out.2.1, show (min E 8000).toNat = k by omega] at h9
        exact h9)
      rw [hzx] at HZ HZS HXC ⊢
      rw [← hxe] at HXC
      clear x0 x1 x2 x3 HK8 HN8 HB8 hnn hzx hxe
      obtain ⟨d0, d2, ⟨r0, r1⟩, q0, q1⟩ := HBX.out _ HBW.out
      obtain ⟨x0, x1⟩ := id HXC.out
      rcases hng : neg with _ | _
      · subst hng
        clear HZS
        go_wp2_with fail
        exact bodyPost_ret (by simp [results, Tryz.results18, go_sem, r0, r1]) rfl ⟨zx, nn, xe, rfl, HRV.out, (by
          have h := (HZ.out.answer3 (q1 := .pointer (some zx)) (j2 := .int .i64 xe) r0 r1).more (show 19000 ≤ 20000 by omega)
          have e : Nx.sv t.neg nn = (nn : Int) := by rw [HDE.out.2.2]; rfl
          rw [e]
          exact h), ((HB1.out.trans (HBW.out.mono HB1.out.size)).setCell (p := ⟨w.heap.size + 1, 0, none⟩) (by show w.heap.size ≤ w.heap.size + 1; omega) _).setCell (p := ⟨w.heap.size + 1, 1, none⟩) (by show w.heap.size ≤ w.heap.size + 1; omega) _, hxe0, hxe1⟩
      · subst hng
        have HNG := Lib.hid (Neg_any zx zx (nn : Int) 19000 WW HZS.out HZ.out (by omega))
        go_wp2_with fail
        refine HNG.out.mono ?_
        rintro en w20 hg
        have HK := Lib.hid (KeepG.of_gives hg HZS.out)
        have HZ2 := Lib.hid hg.2.2
        obtain ⟨rfl, -⟩ := id hg
        have HBW2 : Hid (Below W1.heap.size W1 w20) := Lib.hid (HBW.out.trans (HK.out.below _ hzx1 HBW.out.size))
        have y0 := (HK.out.cell (p := ⟨w6.heap.size, 0, none⟩) hx6 hzx2).trans x0
        have y1 := (HK.out.cell (p := ⟨w6.heap.size, 1, none⟩) hx6 hzx2).trans x1
        clear d0 d2 r0 r1 q0 q1 x0 x1 hg HNG
        obtain ⟨d0, d2, ⟨r0, r1⟩, q0, q1⟩ := HBX.out _ HBW2.out
        go_wp2_with fail
        exact bodyPost_ret (by simp [results, Tryz.results18, go_sem, r0, r1]) rfl ⟨zx, nn, xe, rfl, HRV.out, (by
          have h := (HZ2.out.answer3 (q1 := .pointer (some zx)) (j2 := .int .i64 xe) r0 r1).more (show 19000 ≤ 20000 by omega)
          have e : Nx.sv t.neg nn = -(nn : Int) := by rw [HDE.out.2.2]; rfl
          rw [e]
          exact h), ((HB1.out.trans (HBW2.out.mono HB1.out.size)).setCell (p := ⟨w.heap.size + 1, 0, none⟩) (by show w.heap.size ≤ w.heap.size + 1; omega) _).setCell (p := ⟨w.heap.size + 1, 1, none⟩) (by show w.heap.size ≤ w.heap.size + 1; omega) _, hxe0, hxe1⟩
    · have hee1 : ee < 0 := by omega
      have hT0 : 0 < T := by rw [← HTT.out]; exact Nat.pow_pos (by omega)
      obtain ⟨bT, oT, AT, kT, cT, hTe, hbT, t3, t4, t5⟩ := HT7.out.1.openN
      injection hTe with hTe1 hTe2
      subst hTe1 hTe2
      have HBL := Lib.hid (bitlen_how w2.heap.size 0 kT cT T L8 AT _ t4 t5 (by omega))
      clear t3 t4 t5 hbT
      go_wp2_with fail
      refine HBL.out.mono ?_
      rintro en w8 ⟨l, dr, rfl, hl1, hl2, hl3, rfl⟩
      have HL := Lib.hid (hl2 hT0)
      obtain ⟨N, hN⟩ : ∃ N, l + 200 = N := ⟨_, rfl⟩
      have hNi : (l : Int) + 200 = (N : Int) := by omega
      have hli : (l : Int) ≤ 256100 := by omega
      have hNl : N ≤ 256300 := by omega
      have hNl2 : (N : Int) ≤ 256300 := by omega
      have h8 : Below (w6.alloc (.cells #[.pointer none, .int .i64 0] 55)).heap.size (w6.alloc (.cells #[.pointer none, .int .i64 0] 55)) ((w6.alloc (.cells #[.pointer none, .int .i64 0] 55)).drewN dr) := below_dN (Below.refl _ _) dr
      have HN8 := Lib.hid (And.intro (HN7.out.1.below h8) (HN7.out.2.below h8))
      have HT8 := Lib.hid (HT7.out.1.below h8)
      have HX8 := Lib.hid (HX7.out.below hs7 h8)
      have HB8 := Lib.hid (HB7.out.trans (h8.mono HB7.out.size))
      have hs8 : w6.heap.size < ((w6.alloc (.cells #[.pointer none, .int .i64 0] 55)).drewN dr).heap.size := hs7
      have HNN := Lib.hid hN
      clear h8 HN7 HT7 HX7 HB7 HBL hl1 hl2 hl3 hs7 hN
      generalize (w6.alloc (.cells #[.pointer none, .int .i64 0] 55)).drewN dr = W8 at *
      have hal9 : Below W8.heap.size W8 (W8.alloc (.cells #[.bool false, .slice none 0 0] 41)) := (Below.refl _ _).alloc (Nat.le_refl _) _
      obtain ⟨P, hP⟩ : ∃ P, D * 2 ^ N = P := ⟨_, rfl⟩
      have hPi : (D : Int) * ((2 ^ N : Nat) : Int) = (P : Int) := by rw [← hP, Int.natCast_mul]
      have hLS := Lsh_any ⟨W1.heap.size, 0, none⟩ ⟨W1.heap.size, 0, none⟩ (D : Int) N 2001 _ (HN8.out.2.below hal9) (HN8.out.1.below hal9) (by omega) (by omega)
      rw [hPi] at hLS
      have HLS := Lib.hid hLS
      obtain ⟨LN, hLN⟩ : ∃ LN, N / 32 + 2001 + 1 = LN := ⟨_, rfl⟩
      have hLNl : LN ≤ 11000 := by omega
      have hLN1 : 1 ≤ LN := by omega
      rw [hLN] at HLS
      have HA9 := Lib.hid hal9
      have HSN9 := Lib.hid (HN8.out.2.below hal9)
      have HPP := Lib.hid hP
      clear hLS hal9 hP hPi hLN
      go_wp2_with fail
      refine HLS.out.mono ?_
      rintro en w10 hg
      have HK10 := Lib.hid (KeepG.of_gives hg HSN9.out)
      have HN10 := Lib.hid hg.2.2
      have h9s := HA9.out.size
      have hs10 : W8.heap.size < w10.heap.size := by have := HK10.out.size; simp at this; omega
      have HT10 := Lib.hid (HK10.out.intAt (HT8.out.below HA9.out) (by show w2.heap.size ≠ W1.heap.size; omega))
      have HZ10 : Hid (Slot w10 ⟨W8.heap.size, 0, none⟩) := Lib.hid (HK10.out.slot (Slot.new W8 false none 0 0 41) (by show W8.heap.size ≠ W1.heap.size; omega))
      have HX10 := Lib.hid (HK10.out.res (HX8.out.below hs8 HA9.out) (by omega) (by show w6.heap.size ≠ W1.heap.size; omega))
      have HB10 : Hid (Below W1.heap.size W1 w10) := Lib.hid ((HB8.out.trans (HA9.out.mono HB8.out.size)).trans (HK10.out.below _ (Nat.le_refl _) (Nat.le_trans HB8.out.size h9s)))
      obtain ⟨rfl, -⟩ := id hg
      clear hg HLS HK10 HSN9 HN8 HT8 HX8 HB8 HA9 h9s
      have hal11 : Below w10.heap.size w10 (w10.alloc (.cells #[.bool false, .slice none 0 0] 41)) := (Below.refl _ _).alloc (Nat.le_refl _) _
      have HQR := Lib.hid (QuoRem_any ⟨W8.heap.size, 0, none⟩ ⟨W1.heap.size, 0, none⟩ ⟨w2.heap.size, 0, none⟩ ⟨w10.heap.size, 0, none⟩ P T LN L8 _ (HZ10.out.below hal11) (Slot.new w10 false none 0 0 41) (HN10.out.below hal11) (HT10.out.below hal11) (by intro h; injection h with h; omega) (by omega) (by omega) hT0 hLN1)
      have HZ11 := Lib.hid (HZ10.out.below hal11)
      have HX11 := Lib.hid (HX10.out.below (by omega) hal11)
      have HB11 := Lib.hid (HB10.out.trans (hal11.mono HB10.out.size))
      have hs11 : w10.heap.size < (w10.alloc (.cells #[.bool false, .slice none 0 0] 41)).heap.size := by simp
      obtain ⟨Q, hQ⟩ : ∃ Q, P / T = Q := ⟨_, rfl⟩
      obtain ⟨R, hR⟩ : ∃ R, P % T = R := ⟨_, rfl⟩
      rw [hQ, hR] at HQR
      have HQQ := Lib.hid (And.intro hQ hR)
      clear hal11 HZ10 HX10 HB10 HN10 HT10 hQ hR
      go_wp2_with fail
      refine HQR.out.mono ?_
      rintro en w12 ⟨rfl, ⟨wm, hw1, hw2⟩, iq, ir⟩
      have hsl2 : Slot (w10.alloc (.cells #[.bool false, .slice none 0 0] 41)) ⟨w10.heap.size, 0, none⟩ := Slot.new w10 false none 0 0 41
      have k1 := KeepG.of_wrote hw1 hsl2
      have hzm := hw1.slot hsl2 HZ11.out
      have k2 := KeepG.of_wrote hw2 hzm
      have HZ12 := Lib.hid (And.intro iq (hw2.slot hzm hzm))
      have HR12 := Lib.hid ir
      have hsm := k1.size
      have hs12 := k2.size
      have HX12 := Lib.hid (k2.res (k1.res HX11.out (by omega) (by show w6.heap.size ≠ w10.heap.size; omega)) (by omega) (by show w6.heap.size ≠ W8.heap.size; omega))
      have HB12 : Hid (Below W1.heap.size W1 w12) := Lib.hid ((HB11.out.trans (k1.below _ (by show W1.heap.size ≤ w10.heap.size; omega) HB11.out.size)).trans (k2.below _ (by show W1.heap.size ≤ W8.heap.size; omega) (Nat.le_trans HB11.out.size hsm)))
      have HL2 := Lib.hid (Lsh_any ⟨W8.heap.size, 0, none⟩ ⟨W8.heap.size, 0, none⟩ (Q : Int) 1 LN w12 HZ12.out.2 HZ12.out.1 (by omega) (by omega))
      clear hw1 hw2 iq ir hsl2 k1 hzm k2 HX11 HB11 HZ11 HQR
      go_wp2_with fail
      refine HL2.out.mono ?_
      rintro en w13 hg
      have HK13 := Lib.hid (KeepG.of_gives hg HZ12.out.2)
      have HZ13 : Hid (IntAt w13 ⟨W8.heap.size, 0, none⟩ ((2 * Q : Nat) : Int) 12000 ∧ Slot w13 ⟨W8.heap.size, 0, none⟩) := Lib.hid ⟨by
        have h9 := hg.2.2.more (show 1 / 32 + LN + 1 ≤ 12000 by omega)
        rwa [show (Q : Int) * ((2 ^ 1 : Nat) : Int) = ((2 * Q : Nat) : Int) by omega] at h9, hg.2.1.slot HZ12.out.2 HZ12.out.2⟩
      have HR13 := Lib.hid (HK13.out.intAt HR12.out (by show w10.heap.size ≠ W8.heap.size; omega))
      have hs13 := HK13.out.size
      have HX13 := Lib.hid (HK13.out.res HX12.out (by omega) (by show w6.heap.size ≠ W8.heap.size; omega))
      have HB13 : Hid (Below W1.heap.size W1 w13) := Lib.hid (HB12.out.trans (HK13.out.below _ (by show W1.heap.size ≤ W8.heap.size; omega) HB12.out.size))
      obtain ⟨rfl, -⟩ := id hg
      clear hg HL2 HZ12 HR12 HX12 HB12 HK13
      have HSR := Lib.hid (Sign_any ⟨w10.heap.size, 0, none⟩ (R : Int) L8 w13 HR13.out)
      obtain ⟨xe, hxe⟩ : ∃ xe : Int, -(N : Int) - 1 = xe := ⟨_, rfl⟩
      have hxe0 : -300000 ≤ xe := by omega
      have hxe1 : xe ≤ 0 := by omega
      have HREF : Hid (Nb.RefV t (2 * Q + (if R = 0 then 0 else 1)) xe) := Lib.hid (by
        obtain ⟨a1, a2, a3⟩ := HEK.out
        obtain ⟨b1, b2, b3⟩ := HL.out
        have h9 := Nb.RefV.neg (t := t) k (l - 1) (by rw [HDE.out.1]; omega) (by rw [HDE.out.2.1]; omega) (by rw [HDE.out.2.1]; omega) (by rw [HTT.out]; exact b2) (by rw [HTT.out, show l - 1 + 1 = l by omega]; exact b3)
        rw [HDE.out.1, HTT.out, show l - 1 + 201 = N by have := HNN.out; omega, HPP.out, HQQ.out.1, HQQ.out.2, show (-((l - 1 + 202 : Nat) : Int)) = xe by have := HNN.out; omega] at h9
        exact h9)
      clear HL HNN hNi
      by_cases hR0 : R = 0
      · subst hR0
        have hs0 : signI ((0 : Nat) : Int) = 0 := rfl
        rw [hs0] at HSR
        have HRV : Hid (Nb.RefV t (2 * Q) xe) := Lib.hid (by have := HREF.out; simpa using this)
        go_wp2_with fail
        refine HSR.out.mono ?_
        rintro en w14 ⟨rfl, rfl⟩
        obtain ⟨nn, hnn⟩ : ∃ nn, 2 * Q = nn := ⟨_, rfl⟩
        rw [hnn] at HRV HZ13
        have HZX := HZ13
        have HXX := Lib.hid (And.intro HX13.out (show w6.heap.size < w13.heap.size by omega))
        have HBX2 := HB13
        clear HSR HREF HR13 hs0 hnn HZ13 HX13 HB13
        obtain ⟨WX, hWX⟩ : ∃ WX, WX = w13 := ⟨_, rfl⟩
        subst hWX
        have hx6 : w6.heap.size < WX.heap.size := HXX.out.2
        obtain ⟨⟨x0, x1⟩, x2, x3⟩ := HXX.out.1
        go_upto_region 15 with (fail)
        obtain ⟨zx, hzx⟩ : ∃ zx : Addr, (⟨W8.heap.size, 0, none⟩ : Addr) = zx := ⟨_, rfl⟩
        have hzx1 : W1.heap.size ≤ zx.block := by rw [← hzx]; show W1.heap.size ≤ W8.heap.size; omega
        have hzx2 : w6.heap.size ≠ zx.block := by rw [← hzx]; show w6.heap.size ≠ W8.heap.size; omega
        rw [hzx] at HZX ⊢
        have HZ : Hid (IntAt ((WX.setCell ⟨w6.heap.size, 0, none⟩ (.pointer (some zx))).setCell ⟨w6.heap.size, 1, none⟩ (.int .i64 xe)) zx (nn : Int) 19000) := Lib.hid ((HZX.out.1.more (by omega)).answer3 x0 x1)
        have HZS : Hid (Slot ((WX.setCell ⟨w6.heap.size, 0, none⟩ (.pointer (some zx))).setCell ⟨w6.heap.size, 1, none⟩ (.int .i64 xe)) zx) := Lib.hid ((HZX.out.2.setOld (Ne.symm hzx2)).setOld (Ne.symm hzx2))
        have HBW : Hid (Below W1.heap.size W1 ((WX.setCell ⟨w6.heap.size, 0, none⟩ (.pointer (some zx))).setCell ⟨w6.heap.size, 1, none⟩ (.int .i64 xe))) := Lib.hid ((HBX2.out.setCell (p := ⟨w6.heap.size, 0, none⟩) (by show W1.heap.size ≤ w6.heap.size; omega) _).setCell (p := ⟨w6.heap.size, 1, none⟩) (by show W1.heap.size ≤ w6.heap.size; omega) _)
        have HXC : Hid (((WX.setCell ⟨w6.heap.size, 0, none⟩ (.pointer (some zx))).setCell ⟨w6.heap.size, 1, none⟩ (.int .i64 xe)).cell? ⟨w6.heap.size, 0, none⟩ = some (.pointer (some zx)) ∧ ((WX.setCell ⟨w6.heap.size, 0, none⟩ (.pointer (some zx))).setCell ⟨w6.heap.size, 1, none⟩ (.int .i64 xe)).cell? ⟨w6.heap.size, 1, none⟩ = some (.int .i64 xe)) := Lib.hid ⟨by simp [go_sem, x0], by simp [go_sem, x1]⟩
        replace hx6 : w6.heap.size < ((WX.setCell ⟨w6.heap.size, 0, none⟩ (.pointer (some zx))).setCell ⟨w6.heap.size, 1, none⟩ (.int .i64 xe)).heap.size := by simp [World.setCell]; omega
        generalize (WX.setCell ⟨w6.heap.size, 0, none⟩ (.pointer (some zx))).setCell ⟨w6.heap.size, 1, none⟩ (.int .i64 xe) = WW at *
        clear x0 x1 x2 x3 HZX HBX2 HXX hzx hxe
        obtain ⟨d0, d2, ⟨r0, r1⟩, q0, q1⟩ := HBX.out _ HBW.out
        obtain ⟨x0, x1⟩ := id HXC.out
        rcases hng : neg with _ | _
        · subst hng
          clear HZS
          go_wp2_with fail
          exact bodyPost_ret (by simp [results, Tryz.results18, go_sem, r0, r1]) rfl ⟨zx, nn, xe, rfl, HRV.out, (by
            have h := (HZ.out.answer3 (q1 := .pointer (some zx)) (j2 := .int .i64 xe) r0 r1).more (show 19000 ≤ 20000 by omega)
            have e : Nx.sv t.neg nn = (nn : Int) := by rw [HDE.out.2.2]; rfl
            rw [e]
            exact h), ((HB1.out.trans (HBW.out.mono HB1.out.size)).setCell (p := ⟨w.heap.size + 1, 0, none⟩) (by show w.heap.size ≤ w.heap.size + 1; omega) _).setCell (p := ⟨w.heap.size + 1, 1, none⟩) (by show w.heap.size ≤ w.heap.size + 1; omega) _, hxe0, hxe1⟩
        · subst hng
          have HNG := Lib.hid (Neg_any zx zx (nn : Int) 19000 WW HZS.out HZ.out (by omega))
          go_wp2_with fail
          refine HNG.out.mono ?_
          rintro en w20 hg
          have HK := Lib.hid (KeepG.of_gives hg HZS.out)
          have HZ2 := Lib.hid hg.2.2
          obtain ⟨rfl, -⟩ := id hg
          have HBW2 : Hid (Below W1.heap.size W1 w20) := Lib.hid (HBW.out.trans (HK.out.below _ hzx1 HBW.out.size))
          have y0 := (HK.out.cell (p := ⟨w6.heap.size, 0, none⟩) hx6 hzx2).trans x0
          have y1 := (HK.out.cell (p := ⟨w6.heap.size, 1, none⟩) hx6 hzx2).trans x1
          clear d0 d2 r0 r1 q0 q1 x0 x1 hg HNG
          obtain ⟨d0, d2, ⟨r0, r1⟩, q0, q1⟩ := HBX.out _ HBW2.out
          go_wp2_with fail
          exact bodyPost_ret (by simp [results, Tryz.results18, go_sem, r0, r1]) rfl ⟨zx, nn, xe, rfl, HRV.out, (by
            have h := (HZ2.out.answer3 (q1 := .pointer (some zx)) (j2 := .int .i64 xe) r0 r1).more (show 19000 ≤ 20000 by omega)
            have e : Nx.sv t.neg nn = -(nn : Int) := by rw [HDE.out.2.2]; rfl
            rw [e]
            exact h), ((HB1.out.trans (HBW2.out.mono HB1.out.size)).setCell (p := ⟨w.heap.size + 1, 0, none⟩) (by show w.heap.size ≤ w.heap.size + 1; omega) _).setCell (p := ⟨w.heap.size + 1, 1, none⟩) (by show w.heap.size ≤ w.heap.size + 1; omega) _, hxe0, hxe1⟩
      · have hs1 : signI ((R : Nat) : Int) = 1 := by unfold signI; rw [if_neg (by omega), if_neg (by omega)]
        rw [hs1] at HSR
        have HRV : Hid (Nb.RefV t (2 * Q + 1) xe) := Lib.hid (by have := HREF.out; rwa [if_neg hR0] at this)
        have HI1 := Lib.hid (newInt_any 1 w13 (by omega) (by omega))
        go_wp2_with fail
        refine HSR.out.mono ?_
        rintro en w14 ⟨rfl, rfl⟩
        go_wp2_with fail
        refine HI1.out.mono ?_
        rintro en w14 ⟨zo, rfl, hzo, so, io, bo⟩
        have HAD := Lib.hid (Add_any ⟨W8.heap.size, 0, none⟩ ⟨W8.heap.size, 0, none⟩ zo ((2 * Q : Nat) : Int) 1 12000 w14 (HZ13.out.2.below bo) (HZ13.out.1.below bo) (io.more (by omega)) (by omega))
        have HZ14 := Lib.hid (HZ13.out.2.below bo)
        have HX14 := Lib.hid (HX13.out.below (by omega) bo)
        have HB14 := Lib.hid (HB13.out.trans (bo.mono HB13.out.size))
        have hs14 := bo.size
        clear so io bo hzo HI1 HSR HREF HR13 hs1 HZ13 HX13 HB13
        go_wp2_with fail
        refine HAD.out.mono ?_
        rintro en WX hg
        have HK15 := Lib.hid (KeepG.of_gives hg HZ14.out)
        obtain ⟨nn, hnn⟩ : ∃ nn, 2 * Q + 1 = nn := ⟨_, rfl⟩
        have HZX : Hid (IntAt WX ⟨W8.heap.size, 0, none⟩ (nn : Int) 12001 ∧ Slot WX ⟨W8.heap.size, 0, none⟩) := Lib.hid ⟨by
          have h9 := hg.2.2
          rwa [show ((2 * Q : Nat) : Int) + 1 = (nn : Int) by omega] at h9, hg.2.1.slot HZ14.out HZ14.out⟩
        rw [hnn] at HRV
        have hs15 := HK15.out.size
        have HXX := Lib.hid (And.intro (HK15.out.res HX14.out (by omega) (by show w6.heap.size ≠ W8.heap.size; omega)) (show w6.heap.size < WX.heap.size by omega))
        have HBX2 : Hid (Below W1.heap.size W1 WX) := Lib.hid (HB14.out.trans (HK15.out.below _ (by show W1.heap.size ≤ W8.heap.size; omega) HB14.out.size))
        obtain ⟨rfl, -⟩ := id hg
        clear hg HAD HK15 HZ14 HX14 HB14 hnn
        have hx6 : w6.heap.size < WX.heap.size := HXX.out.2
        obtain ⟨⟨x0, x1⟩, x2, x3⟩ := HXX.out.1
        go_upto_region 15 with (fail)
        obtain ⟨zx, hzx⟩ : ∃ zx : Addr, (⟨W8.heap.size, 0, none⟩ : Addr) = zx := ⟨_, rfl⟩
        have hzx1 : W1.heap.size ≤ zx.block := by rw [← hzx]; show W1.heap.size ≤ W8.heap.size; omega
        have hzx2 : w6.heap.size ≠ zx.block := by rw [← hzx]; show w6.heap.size ≠ W8.heap.size; omega
        rw [hzx] at HZX ⊢
        have HZ : Hid (IntAt ((WX.setCell ⟨w6.heap.size, 0, none⟩ (.pointer (some zx))).setCell ⟨w6.heap.size, 1, none⟩ (.int .i64 xe)) zx (nn : Int) 19000) := Lib.hid ((HZX.out.1.more (by omega)).answer3 x0 x1)
        have HZS : Hid (Slot ((WX.setCell ⟨w6.heap.size, 0, none⟩ (.pointer (some zx))).setCell ⟨w6.heap.size, 1, none⟩ (.int .i64 xe)) zx) := Lib.hid ((HZX.out.2.setOld (Ne.symm hzx2)).setOld (Ne.symm hzx2))
        have HBW : Hid (Below W1.heap.size W1 ((WX.setCell ⟨w6.heap.size, 0, none⟩ (.pointer (some zx))).setCell ⟨w6.heap.size, 1, none⟩ (.int .i64 xe))) := Lib.hid ((HBX2.out.setCell (p := ⟨w6.heap.size, 0, none⟩) (by show W1.heap.size ≤ w6.heap.size; omega) _).setCell (p := ⟨w6.heap.size, 1, none⟩) (by show W1.heap.size ≤ w6.heap.size; omega) _)
        have HXC : Hid (((WX.setCell ⟨w6.heap.size, 0, none⟩ (.pointer (some zx))).setCell ⟨w6.heap.size, 1, none⟩ (.int .i64 xe)).cell? ⟨w6.heap.size, 0, none⟩ = some (.pointer (some zx)) ∧ ((WX.setCell ⟨w6.heap.size, 0, none⟩ (.pointer (some zx))).setCell ⟨w6.heap.size, 1, none⟩ (.int .i64 xe)).cell? ⟨w6.heap.size, 1, none⟩ = some (.int .i64 xe)) := Lib.hid ⟨by simp [go_sem, x0], by simp [go_sem, x1]⟩
        replace hx6 : w6.heap.size < ((WX.setCell ⟨w6.heap.size, 0, none⟩ (.pointer (some zx))).setCell ⟨w6.heap.size, 1, none⟩ (.int .i64 xe)).heap.size := by simp [World.setCell]; omega
        generalize (WX.setCell ⟨w6.heap.size, 0, none⟩ (.pointer (some zx))).setCell ⟨w6.heap.size, 1, none⟩ (.int .i64 xe) = WW at *
        clear x0 x1 x2 x3 HZX HBX2 HXX hzx hxe
        obtain ⟨d0, d2, ⟨r0, r1⟩, q0, q1⟩ := HBX.out _ HBW.out
        obtain ⟨x0, x1⟩ := id HXC.out
        rcases hng : neg with _ | _
        · subst hng
          clear HZS
          go_wp2_with fail
          exact bodyPost_ret (by simp [results, Tryz.results18, go_sem, r0, r1]) rfl ⟨zx, nn, xe, rfl, HRV.out, (by
            have h := (HZ.out.answer3 (q1 := .pointer (some zx)) (j2 := .int .i64 xe) r0 r1).more (show 19000 ≤ 20000 by omega)
            have e : Nx.sv t.neg nn = (nn : Int) := by rw [HDE.out.2.2]; rfl
            rw [e]
            exact h), ((HB1.out.trans (HBW.out.mono HB1.out.size)).setCell (p := ⟨w.heap.size + 1, 0, none⟩) (by show w.heap.size ≤ w.heap.size + 1; omega) _).setCell (p := ⟨w.heap.size + 1, 1, none⟩) (by show w.heap.size ≤ w.heap.size + 1; omega) _, hxe0, hxe1⟩
        · subst hng
          have HNG := Lib.hid (Neg_any zx zx (nn : Int) 19000 WW HZS.out HZ.out (by omega))
          go_wp2_with fail
          refine HNG.out.mono ?_
          rintro en w20 hg
          have HK := Lib.hid (KeepG.of_gives hg HZS.out)
          have HZ2 := Lib.hid hg.2.2
          obtain ⟨rfl, -⟩ := id hg
          have HBW2 : Hid (Below W1.heap.size W1 w20) := Lib.hid (HBW.out.trans (HK.out.below _ hzx1 HBW.out.size))
          have y0 := (HK.out.cell (p := ⟨w6.heap.size, 0, none⟩) hx6 hzx2).trans x0
          have y1 := (HK.out.cell (p := ⟨w6.heap.size, 1, none⟩) hx6 hzx2).trans x1
          clear d0 d2 r0 r1 q0 q1 x0 x1 hg HNG
          obtain ⟨d0, d2, ⟨r0, r1⟩, q0, q1⟩ := HBX.out _ HBW2.out
          go_wp2_with fail
          exact bodyPost_ret (by simp [results, Tryz.results18, go_sem, r0, r1]) rfl ⟨zx, nn, xe, rfl, HRV.out, (by
            have h := (HZ2.out.answer3 (q1 := .pointer (some zx)) (j2 := .int .i64 xe) r0 r1).more (show 19000 ≤ 20000 by omega)
            have e : Nx.sv t.neg nn = -(nn : Int) := by rw [HDE.out.2.2]; rfl
            rw [e]
            exact h), ((HB1.out.trans (HBW2.out.mono HB1.out.size)).setCell (p := ⟨w.heap.size + 1, 0, none⟩) (by show w.heap.size ≤ w.heap.size + 1; omega) _).setCell (p := ⟨w.heap.size + 1, 1, none⟩) (by show w.heap.size ≤ w.heap.size + 1; omega) _, hxe0, hxe1⟩
end Go.Proofs.YtbidlkmagbjllaaGreatDoor.Bg
