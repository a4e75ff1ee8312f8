/- HB15 in one text. -/
import Derived.Test.YtgccfdfbnhldbaaGreatDoorP34

namespace Go.Proofs.YtgccfdfbnhldbaaGreatDoor.Nb
open Go Go.RowKit

/-- the scales, the next one in its box, the number -/
structure TxS (w1 wr : World) (v u : Value) (vs : List Value) (b n : Nat) (A : Option Addr) (k c N L : Nat) : Prop where
  bw : Below w1.heap.size w1 wr
  len : vs.length = n
  sc : ScR wr w1.heap.size v vs 1024
  p0 : wr.cell? ⟨b, 0, none⟩ = some (.slice A k c)
  p1 : wr.cell? ⟨b, 1, none⟩ = some (.int .i64 (wd n : Nat))
  f0 : wr.frozen? ⟨b, 0, none⟩ = false
  f1 : wr.frozen? ⟨b, 1, none⟩ = false
  bl : b < wr.heap.size
  bg : w1.heap.size ≤ b
  num : MagN wr (.slice A k c) (10 ^ wd n) (2 ^ n)
  ne : ∀ a, A = some a → v.ownBlock ≠ some a.block
  nb : v.ownBlock ≠ some b
  u : MagN wr u N L

theorem MagN.setBlk {w : World} {A : Option Addr} {k c n L b o : Nat} {x : Value} (h : MagN w (.slice A k c) n L) (hne : ∀ a, A = some a → a.block ≠ b) : MagN (w.setCell ⟨b, o, none⟩ x) (.slice A k c) n L := by
  obtain ⟨ws, ⟨A', c', e, h2, h3, h4, h5⟩, h6⟩ := h
  have e' := e
  injection e with e1 e2 e3
  subst e1
  refine ⟨ws, ⟨_, c', e', h2, h3, h4, fun hl => ?_⟩, h6⟩
  obtain ⟨g, off, hb0, hb, hc⟩ := h5 hl
  have hn := hne _ hb0
  exact ⟨g, off, hb0, by simpa [World.setCell] using hb, fun j hj => by
    rw [World.cell?_setCell_other _ _ _ _ (by intro e; injection e with e; exact hn e.symm)]
    exact hc j hj⟩
theorem TxS.next {w1 w4 w6 : World} {v u : Value} {vs : List Value} {n pb : Nat} {A : Option Addr} {k c N L : Nat} {o0 o1 : Value} {X : Int} (hb4 : Below w1.heap.size w1 w4) (hsc : ScR w4 w1.heap.size v vs 1024) (hlen : vs.length = n + 1) (hown : ∀ g, v.ownBlock = some g → g < w4.heap.size)
    (h46 : Below w4.heap.size w4 w6) (hpb : w4.heap.size = pb) (hpl : pb < w6.heap.size) (y0 : w6.cell? ⟨pb, 0, none⟩ = some o0) (y1 : w6.cell? ⟨pb, 1, none⟩ = some o1) (y2 : w6.frozen? ⟨pb, 0, none⟩ = false) (y3 : w6.frozen? ⟨pb, 1, none⟩ = false)
    (hx : MagN w6 (.slice A k c) (10 ^ wd n * 10 ^ wd n) (2 ^ n + 2 ^ n)) (hnw : ∀ a, A = some a → pb < a.block) (hu : MagN w1 u N L) (hX : X = (wd (n + 1) : Nat)) :
    TxS w1 ((w6.setCell ⟨pb, 0, none⟩ (.slice A k c)).setCell ⟨pb, 1, none⟩ (.int .i64 X)) v u vs pb (n + 1) A k c N L := by
  subst hX
  have h47 : Below w4.heap.size w4 ((w6.setCell ⟨pb, 0, none⟩ (.slice A k c)).setCell ⟨pb, 1, none⟩ (.int .i64 (wd (n + 1) : Nat))) := (h46.setCell (p := ⟨pb, 0, none⟩) (by show w4.heap.size ≤ pb; omega) _).setCell (p := ⟨pb, 1, none⟩) (by show w4.heap.size ≤ pb; omega) _
  have h17 := hb4.trans (h47.mono hb4.size)
  refine ⟨h17, hlen, hsc.below h47, by simp [go_sem, y0], by simp [go_sem, y1], by simp [go_sem, y2], by simp [go_sem, y3], by simpa [World.setCell] using hpl, by have := hb4.size; omega, ?_, fun a ha e => ?_, fun e => ?_, hu.below h17⟩
  · have h := (hx.setBlk (b := pb) (o := 0) (x := .slice A k c) (fun a ha => by have := hnw a ha; omega)).setBlk (b := pb) (o := 1) (x := .int .i64 (wd (n + 1) : Nat)) (fun a ha => by have := hnw a ha; omega)
    rw [← Nat.pow_add, show wd n + wd n = wd (n + 1) by rw [wd_succ]; omega, show 2 ^ n + 2 ^ n = 2 ^ (n + 1) by rw [Nat.pow_succ]; omega] at h
    exact h
  · have := hnw a ha
    have := hown _ e
    omega
  · have := hown _ e
    omega

set_option maxRecDepth 8000 in
set_option maxHeartbeats 8000000 in
theorem text_any (u : Value) (N L : Nat) (w : World) (hu : MagN w u N L) (hN : 0 < N) (hL1 : 1 ≤ L) (hL : L ≤ 400) (hlen : (revDig N).length ≤ 1000000) (S : ByteArray) (hS : (⟨(dig N).toArray⟩ : ByteArray) = S) :
    Calls Tryz.prog 156 #[u, .int .i64 10] w fun e w' => e = .returned (.string S) ∧ Below w.heap.size w w' := by
  have HSS := Lib.hid hS
  have HN := Lib.hid (And.intro hN (And.intro hlen hL1))
  have HU := Lib.hid (unit_ten w)
  have HW := Lib.hid (word_anyN 10000000000000000000 w (by omega))
  have HX := Lib.hid hu
  obtain ⟨A0, k, c0, rfl⟩ := hu.slice
  have hk : k ≤ L := hu.len.2.2
  have hkz : k ≠ 0 := fun h => by have := hu.len.1 h; omega
  have hkb : ((k : Int) == 0) = false := by simp; omega
  clear hu hN hS hlen hL1
  go_enter Tryz.func156, Tryz.ntmps156
  go_wp2_with fail
  refine HU.out.mono ?_
  rintro e w1 ⟨rfl, rfl⟩
  clear hkb
  go_wp2_with fail
  refine HW.out.mono ?_
  rintro e w2 ⟨A1, k1, c1, rfl, hv, hb, hnw⟩
  obtain ⟨W3, hW3⟩ : ∃ W3, w2.alloc (.cells #[.slice A1 k1 c1, .int .i64 19] 241) = W3 := ⟨_, rfl⟩
  have h23 : Below w2.heap.size w2 W3 := by rw [← hW3]; exact (Below.refl _ _).alloc (Nat.le_refl _) _
  have H0 : Hid (TxS w1 W3 (.slice none 0 0) (.slice A0 k c0) [] w2.heap.size 0 A1 k1 c1 N L) := Lib.hid ⟨hb.trans (h23.mono hb.size), rfl, ⟨World.ownsRow_nil _ _ _ _, fun i hi => absurd hi (by simp)⟩, by rw [← hW3]; simp [go_sem], by rw [← hW3]; simp [go_sem, wd], by rw [← hW3]; simp [go_sem], by rw [← hW3]; simp [go_sem], by rw [← hW3]; simp, hb.size, by
    have := hv.below h23
    exact this, fun a _ h => by simp [Value.ownBlock] at h, fun h => by simp [Value.ownBlock] at h, (HX.out.below hb).below h23⟩
  clear hv hb hnw h23 HW HU
  go_wp2_with fail
  go_loopw [7, 8] (fun lv pv wr => ∃ (vs : List Value) (n : Nat) (A : Option Addr) (c b : Nat) (AP : Option Addr) (kP cP : Nat), lv = .slice A n c ∧ pv = .pointer (some ⟨b, 0, none⟩) ∧ n ≤ 10 ∧ Hid (TxS w1 wr (.slice A n c) (.slice A0 k c0) vs b n AP kP cP N L)) (fun lv _ _ => match lv with | .slice _ n _ => 11 - n | _ => 0)
  case atStart => exact ⟨[], 0, none, 0, w2.heap.size, A1, k1, c1, rfl, rfl, by omega, H0⟩
  case round =>
    clear H0
    obtain ⟨vs, n, A, c, b, AP, kP, cP, rfl, rfl, hn, hh⟩ := hrel
    have p0 := hh.out.p0
    have p1 := hh.out.p1
    have hkP := wd_words hh.out.num
    have hkPl := hh.out.num.len.2.2
    obtain ⟨W, hW⟩ : ∃ W, wd n = W := ⟨_, rfl⟩
    have hWl : W ≤ 19456 := by
      rw [← hW]; unfold wd
      have : 2 ^ n ≤ 2 ^ 10 := Nat.pow_le_pow_right (by omega) hn
      have e : (2 : Nat) ^ 10 = 1024 := by decide
      omega
    rw [hW] at p1
    have hkP2 : kP ≤ 1024 := by
      have : 2 ^ n ≤ 2 ^ 10 := Nat.pow_le_pow_right (by omega) hn
      have e : (2 : Nat) ^ 10 = 1024 := by decide
      omega
    by_cases hgo : 2 * kP ≤ k + 1
    · have hn9 : n ≤ 9 := by
        rcases Nat.lt_or_ge n 10 with q | q
        · omega
        · have : 2 ^ 10 ≤ 2 ^ n := Nat.pow_le_pow_right (by omega) q
          have e : (2 : Nat) ^ 10 = 1024 := by decide
          omega
      have hgoi : 2 * (kP : Int) ≤ (k : Int) + 1 := by omega
      have hkb2 : (k : Int) ≤ 400 := by omega
      have HG := Lib.hid (And.intro hW hn9)
      obtain ⟨i0, hi0, hz0, hz1, hz2⟩ := info_parts infoSc
      have hA := Lib.hid ((Below.refl wr.heap.size wr).alloc (Nat.le_refl _) (.cells #[.slice AP kP cP, .int .i64 (W : Int)] 241))
      have hlen := hh.out.len
      have HOWN : Hid (World.ownsRow (wr.alloc (.cells #[.slice AP kP cP, .int .i64 (W : Int)] 241)) w1.heap.size 241 2 (.slice A n c) n (flatV vs 0)) := Lib.hid (by have h := own_below hh.out.sc.row hA.out; rwa [hlen] at h)
      have hsz : w1.heap.size ≤ wr.heap.size := hh.out.bw.size
      have HP2 : Hid (∀ (w3 : World), (wr.alloc (.cells #[.slice AP kP cP, .int .i64 (W : Int)] 241)).grownBy w3 (Value.ownBlock (.slice A n c)) → w3.cell? ⟨b, 0, none⟩ = some (.slice AP kP cP) ∧ w3.cell? ⟨b, 1, none⟩ = some (.int .i64 (W : Int))) := Lib.hid (fun w3 hg => by
        have e1 := (hA.out.cell (p := ⟨b, 0, none⟩) hh.out.bl).trans p0
        have e2 := (hA.out.cell (p := ⟨b, 1, none⟩) hh.out.bl).trans p1
        exact ⟨hg.cell e1 (fun e => hh.out.nb e.symm), hg.cell e2 (fun e => hh.out.nb e.symm)⟩)
      clear hkP hkPl hW hgo hlen
      go_wp2_with (at_builtin; refine wpList_append_own_at _ rfl _ _ 239 rfl w1.heap.size 241 i0 _ 2 32 Tryz.underlying239 hi0 hz0 hz1 hz2 rfl (by omega) (.slice A n c) n (flatV vs 0) rfl HOWN.out ⟨wr.heap.size, 0, none⟩ 1 1 [.slice AP kP cP, .int .i64 (W : Int)] rfl rfl (two_new _ _ _ _) (by simp [Value.oneCell']) (by simp only [maxLen]; omega) (by omega) (Nat.le_trans hsz hA.out.size) ?_; intro v' w4 hr3 hg3 ha3 hat3; obtain ⟨A', c', hv'⟩ := own_slice hr3; subst hv'; have HR3 := Lib.hid (And.intro hr3 (And.intro hg3 hat3)); have q0 := (HP2.out w4 hg3).1; have q1 := (HP2.out w4 hg3).2; clear hr3 hg3 ha3 hat3)
      obtain ⟨w5, hw5⟩ : ∃ w5, w4.alloc (.cells #[.slice AP kP cP, .int .i64 (W : Int)] 241) = w5 := ⟨_, rfl⟩
      obtain ⟨pb, hpb⟩ : ∃ pb, w4.heap.size = pb := ⟨_, rfl⟩
      have h45 : Below w4.heap.size w4 w5 := by rw [← hw5]; exact (Below.refl _ _).alloc (Nat.le_refl _) _
      have hq0 : w5.cell? ⟨pb, 0, none⟩ = some (.slice AP kP cP) := by rw [← hw5, ← hpb]; simp [go_sem]
      have hq1 : w5.cell? ⟨pb, 1, none⟩ = some (.int .i64 (W : Int)) := by rw [← hw5, ← hpb]; simp [go_sem]
      have hf0 : w5.frozen? ⟨pb, 0, none⟩ = false := by rw [← hw5, ← hpb]; simp [go_sem]
      have hf1 : w5.frozen? ⟨pb, 1, none⟩ = false := by rw [← hw5, ← hpb]; simp [go_sem]
      have hpl : pb < w5.heap.size := by rw [← hw5, ← hpb]; simp
      have h2n : 2 ^ n ≤ 1024 := by
        have : 2 ^ n ≤ 2 ^ 10 := Nat.pow_le_pow_right (by omega) hn
        have e : (2 : Nat) ^ 10 = 1024 := by decide
        omega
      have hsc : ScR w4 w1.heap.size (.slice A' (n + 1) c') (vs ++ [.slice AP kP cP]) 1024 := by
        have hl := hh.out.len
        subst hl
        refine hh.out.sc.append hA.out (hh.out.num.more h2n) hh.out.ne ?_ HR3.out.2.1 HR3.out.2.2
        rw [HG.out.1]
        exact HR3.out.1
      have hbw4 : Below w1.heap.size w1 w4 := (hh.out.bw.trans (hA.out.mono hsz)).grown HR3.out.2.1 (Nat.le_trans hsz hA.out.size) (fun k hk => (World.ownsRow.lt HOWN.out k hk).1)
      have hnum : MagN w4 (.slice AP kP cP) (10 ^ wd n) (2 ^ n) := (hh.out.num.below hA.out).grownA HR3.out.2.1 hh.out.ne
      have hown4 : ∀ g, Value.ownBlock (.slice A' (n + 1) c') = some g → g < w4.heap.size := fun g hg => (World.ownsRow.lt HR3.out.1 g hg).2
      have HNX : Hid (∀ (w6 : World) (j : Nat) (A2 : Option Addr) (k2 c2 : Nat), Below (w5.drewN j).heap.size (w5.drewN j) w6 → w6.cell? ⟨pb, 0, none⟩ = some (.slice AP kP cP) → w6.cell? ⟨pb, 1, none⟩ = some (.int .i64 (W : Int)) → w6.frozen? ⟨pb, 0, none⟩ = false → w6.frozen? ⟨pb, 1, none⟩ = false → MagN w6 (.slice A2 k2 c2) (10 ^ wd n * 10 ^ wd n) (2 ^ n + 2 ^ n) → NewO (w5.drewN j) A2 →
          TxS w1 ((w6.setCell ⟨pb, 0, none⟩ (.slice A2 k2 c2)).setCell ⟨pb, 1, none⟩ (.int .i64 (2 * (W : Int)))) (.slice A' (n + 1) c') (.slice A0 k c0) (vs ++ [.slice AP kP cP]) pb (n + 1) A2 k2 c2 N L) := Lib.hid (by
        intro w6 j A2 k2 c2 hb6 y0 y1 y2 y3 hx hnw
        have h56 : Below w5.heap.size w5 w6 := (below_dN (Below.refl _ _) j).trans hb6
        exact TxS.next hbw4 hsc (by rw [List.length_append, hh.out.len]; rfl) hown4 (h45.trans (h56.mono h45.size)) hpb (Nat.lt_of_lt_of_le hpl h56.size) y0 y1 y2 y3 hx (fun a ha => Nat.lt_of_lt_of_le hpl (hnw a ha)) HX.out (by rw [wd_succ, HG.out.1]; omega))
      have HTM := Lib.hid (fun j => times_new (.slice AP kP cP) (.slice AP kP cP) (10 ^ wd n) (10 ^ wd n) (2 ^ n) (2 ^ n) (w5.drewN j) ((hnum.below h45).below (below_dN (Below.refl _ _) j)) ((hnum.below h45).below (below_dN (Below.refl _ _) j)) (by omega) (by omega))
      have HPB := Lib.hid hpb
      have hwr : IntKind.i64.wrap (2 * (W : Int)) = 2 * (W : Int) := by rw [IntKind.wrap_i64]; omega
      rw [hw5, hpb]
      clear q0 q1 p0 p1 hw5 hpb h45 hsc hbw4 hnum hown4 hsz
      go_region_with (go_at_call 103; refine (HTM.out _).mono ?_; rintro e w6 ⟨A2, k2, c2, rfl, hx, hbx, hnw⟩; have y0 := (hbx.cell (p := ⟨pb, 0, none⟩) hpl).trans hq0; have y1 := (hbx.cell (p := ⟨pb, 1, none⟩) hpl).trans hq1; have y2 := (hbx.frozen (p := ⟨pb, 0, none⟩) hpl).trans hf0; have y3 := (hbx.frozen (p := ⟨pb, 1, none⟩) hpl).trans hf1; have HT6 := Lib.hid (HNX.out _ _ _ _ _ hbx y0 y1 y2 y3 hx hnw); clear hx hbx hnw)
      all_goals go_roundw
      all_goals first
        | exact ⟨_, _, _, _, _, _, _, _, _, _, _, _, _, _, _, _, _, _, _, _, _, _, _, _, ⟨vs ++ [.slice AP kP cP], n + 1, A', c', pb, A2, k2, c2, rfl, rfl, by omega, HT6⟩, rfl⟩
        | (simp; omega)
    · have hgoi : ¬ 2 * (kP : Int) ≤ (k : Int) + 1 := by omega
      have hkb2 : (k : Int) ≤ 400 := by omega
      obtain ⟨hsa, hnc⟩ := hh.out.sc.at hh.out.len
      have HSP := Lib.hid (spread_any wr 1024 (by omega) (by omega) n (by omega) A c hsa hnc wr (.slice none 0 0) (.slice A0 k c0) [] N L 0 (Below.refl _ _) (World.ownsRow_nil _ _ _ _) hh.out.u HN.out.2.2 (by omega) (by
        rw [List.nil_append, padD_len]; unfold dig; rw [List.length_reverse]; have := HN.out.2.1; simp; omega) (by
        have h9 : 2 ^ n ≤ 2 ^ 10 := Nat.pow_le_pow_right (by omega) hn
        have e : (2 : Nat) ^ 10 = 1024 := by decide
        have e2 : ((2 ^ n : Nat) : Int) = 2 ^ n := by rw [Int.natCast_pow]; rfl
        omega))
      have HBW := Lib.hid hh.out.bw
      have hkPi : (kP : Int) ≤ 1024 := by omega
      clear hkP hkPl hW hgo hsa hnc hkP2 hWl
      go_wp2_with fail
      refine HSP.out.mono ?_
      rintro e w3 ⟨v, rfl, hrw⟩
      have hpd : padD (0 : Int).toNat (dig N) = dig N := padD_le (by simp)
      rw [hpd, List.nil_append] at hrw
      have hne : dig N ≠ [] := by unfold dig; rw [ne_eq, List.reverse_eq_nil_iff, revDig_pos (by have := HN.out.1; omega)]; simp
      obtain ⟨g, cg, rfl, hce⟩ := hrw.row.bytes hne
      have hlN : (dig N).length ≤ 1000000 := by unfold dig; rw [List.length_reverse]; exact HN.out.2.1
      have HF : Hid (Below w1.heap.size w1 w3) := Lib.hid (HBW.out.grown hrw.gr HBW.out.size (fun k hk => by simp [Value.ownBlock] at hk))
      have hconv := run_convert_bytes_arg (P := Tryz.prog) w3 104 5 Tryz.underlying104 Tryz.underlying5 g 0 (dig N).length cg ((dig N).map fun b => (b.toNat : Int)) (by simp) hce 9 Tryz.underlying9
      rw [str_bytes, HSS.out] at hconv
      obtain ⟨ln, hln⟩ : ∃ l, (dig N).length = l := ⟨_, rfl⟩
      rw [hln] at hconv hlN ⊢
      clear hln hce hrw hne hpd
      go_wp2_with fail
      go_ret
      exact ⟨rfl, HF.out⟩
end Go.Proofs.YtgccfdfbnhldbaaGreatDoor.Nb
