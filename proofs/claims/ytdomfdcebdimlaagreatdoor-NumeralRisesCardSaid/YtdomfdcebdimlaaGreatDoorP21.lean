/- Q6 in one text. -/
import Derived.Test.YtdomfdcebdimlaaGreatDoorP04
import Derived.Deep.RegionLaw
import Derived.Deep.AppendLies

namespace Go.Proofs.YtdomfdcebdimlaaGreatDoor.Bg
open Go Go.RowKit

set_option maxRecDepth 8000 in
set_option maxHeartbeats 1000000 in
theorem Neg_any (z p : Addr) (x : Int) (L : Nat) (w : World) (hz : Slot w z) (hp : IntAt w p x L) (hL : L ≤ 1099511627776) :
    Calls Tryz.prog 60 #[.pointer (some z), .pointer (some p)] w (Gives w z (-x) L) := by
  obtain ⟨b, off, neg, u, m, rfl, hb, h3, h4, h5, h6, h7⟩ := hp
  obtain ⟨ws, g1, g2, g3, g4⟩ := h5
  have G1 := Lib.hid g1
  have G2 := Lib.hid (And.intro g2 (And.intro g3 g4))
  have HZ := Lib.hid hz
  have HX := Lib.hid (And.intro h6 h7)
  clear g1 g2 g3 g4 hz h6 h7
  cases neg
  · go_enter Tryz.func60, Tryz.ntmps60
    go_wp2_with fail
    go_region_law (first | (refine step_append_words _ (by rfl) _ _ (by rfl) u ws (by simp [Act.eval]) (by simp [Act.eval, Act.put]) G1.out.drew (by have := G2.out.2.2; omega) ?_; intro v1 w1 hm1 hb1; have hb2 : Below w.heap.size w w1 := (Below.refl _ _).drew.trans hb1; have q3 := (hb2.cell (p := ⟨b, off, none⟩) hb).trans h3) | (go_simp; go_at_call 148; refine (put_neg z _ m L (-x) _ (HZ.out.below hb2) ⟨ws, hm1, G2.out⟩ (by have := HX.out.1; simp at this; omega)).mono ?_; rintro e w2 hg; have HG := Lib.hid (hg.of_below hb2); obtain ⟨rfl, -, -⟩ := hg))
    all_goals (go_wp2_with fail; go_ret; exact HG.out)
  · go_enter Tryz.func60, Tryz.ntmps60
    go_wp2_with fail
    go_region_law (first | (refine step_append_words _ (by rfl) _ _ (by rfl) u ws (by simp [Act.eval]) (by simp [Act.eval, Act.put]) G1.out.drew (by have := G2.out.2.2; omega) ?_; intro v1 w1 hm1 hb1; have hb2 : Below w.heap.size w w1 := (Below.refl _ _).drew.trans hb1; have q3 := (hb2.cell (p := ⟨b, off, none⟩) hb).trans h3) | (go_simp; go_at_call 148; refine (put_pos z _ m L (-x) _ (HZ.out.below hb2) ⟨ws, hm1, G2.out⟩ (by have := HX.out.1; simp at this; omega)).mono ?_; rintro e w2 hg; have HG := Lib.hid (hg.of_below hb2); obtain ⟨rfl, -, -⟩ := hg))
    all_goals (go_wp2_with fail; go_ret; exact HG.out)

theorem val_low {ws : List Nat} (h : W32 ws) : val ws % 18446744073709551616 = if ws.length = 0 then 0 else if ws.length = 1 then ws.getD 0 0 else ws.getD 0 0 + 4294967296 * ws.getD 1 0 := by
  match ws, h with
  | [], _ => simp [val]
  | [a], h => have := h.head; simp [val]; omega
  | a :: b :: r, h =>
    have h1 := h.head
    have h2 := h.tail.head
    simp only [val, List.length_cons]
    rw [if_neg (by omega), if_neg (by omega)]
    simp only [List.getD_cons_zero, List.getD_cons_succ]
    omega

theorem or_shift {a b : Nat} (ha : a < 4294967296) (hb : b < 4294967296) : bits .or .u64 (a : Int) ((b : Int) * 4294967296) = (a : Int) + 4294967296 * (b : Int) := by
  have e : ((b : Int) * 4294967296) = ((b * 4294967296 : Nat) : Int) := by omega
  rw [e, u64_or_nat a _ (by omega) (by omega)]
  rw [show b * 4294967296 = b <<< 32 by rw [Nat.shiftLeft_eq], Nat.or_comm, ← Nat.shiftLeft_add_eq_or_of_lt (by omega : a < 2 ^ 32), Nat.shiftLeft_eq]
  omega

set_option maxHeartbeats 1000000 in
theorem Uint64_any (p : Addr) (x : Int) (L : Nat) (w : World) (hp : IntAt w p x L) :
    Calls Tryz.prog 321 #[.pointer (some p)] w fun e w' => e = .returned (.int .u64 ((x.natAbs % 18446744073709551616 : Nat) : Int)) ∧ w = w' := by
  obtain ⟨b, off, neg, u, m, rfl, hb, h3, h4, h5, h6, h7⟩ := hp
  have hm : x.natAbs = m := by subst h6; cases neg <;> simp
  obtain ⟨ws, ⟨A, c, rfl, hc0, hc1, hw, hcell⟩, g2, rfl, g4⟩ := h5
  rw [hm, val_low hw]
  have W0 := hw.get 0
  have W1 := hw.get 1
  obtain ⟨n, hn⟩ : ∃ n, ws.length = n := ⟨_, rfl⟩
  obtain ⟨x0, e0⟩ : ∃ y, ws.getD 0 0 = y := ⟨_, rfl⟩
  obtain ⟨x1, e1⟩ : ∃ y, ws.getD 1 0 = y := ⟨_, rfl⟩
  rw [hn] at h4 hc0 hcell g4
  rw [e0] at W0
  rw [e1] at W1
  rw [hn, e0, e1]
  clear h6 h7 hm hw g2
  by_cases n0 : n = 0
  · rw [if_pos n0]
    subst n0
    clear hcell hn e0 e1
    go_enter Tryz.func321, Tryz.ntmps321
    go_wp2_with fail
    go_ret
    exact ⟨rfl, rfl⟩
  · rw [if_neg n0]
    obtain ⟨b1, o1, rfl, -, hcl⟩ := hcell (by omega)
    have hc0' : w.cell? ⟨b1, o1, none⟩ = some (.int .u32 (x0 : Nat)) := by have := hcl 0 (by omega); rwa [e0] at this
    by_cases n1 : n = 1
    · rw [if_pos n1]
      subst n1
      clear hcell hcl hn e0 e1
      go_enter Tryz.func321, Tryz.ntmps321
      go_wp2_with fail
      go_ret
      exact ⟨rfl, rfl⟩
    · rw [if_neg n1]
      have hc1' : w.cell? ⟨b1, o1 + 1, none⟩ = some (.int .u32 (x1 : Nat)) := by have := hcl 1 (by omega); rwa [e1] at this
      have hor := or_shift W0 W1
      have n2 : (1 : Int) < (n : Int) := by omega
      have n3 : (0 : Int) < (n : Int) := by omega
      clear hcell hcl hn e0 e1
      go_enter Tryz.func321, Tryz.ntmps321
      go_wp2_with fail
      go_ret
      exact ⟨congrArg Ending.returned (int_eq (by omega)), rfl⟩

/-- Int64 of a number that is one of 64 bits -/
theorem Int64_any (p : Addr) (x : Int) (L : Nat) (w : World) (hp : IntAt w p x L) (x0 : -9223372036854775808 ≤ x) (x1 : x ≤ 9223372036854775807) :
    Calls Tryz.prog 271 #[.pointer (some p)] w fun e w' => e = .returned (.int .i64 x) ∧ w = w' := by
  have hu := Uint64_any p x L w hp
  rw [show ((x.natAbs % 18446744073709551616 : Nat) : Int) = (x.natAbs : Int) by omega] at hu
  have HU := Lib.hid hu
  clear hu
  obtain ⟨b, off, neg, u, m, rfl, hb, h3, h4, -, h6, -⟩ := hp
  have HX := Lib.hid h6
  clear h6
  cases neg
  · have hx : IntKind.i64.wrap (x.natAbs : Int) = x := by have := HX.out; simp at this; rw [IntKind.wrap_i64]; omega
    go_enter Tryz.func271, Tryz.ntmps271
    go_wp2_with fail
    refine HU.out.mono ?_
    rintro e w1 ⟨rfl, rfl⟩
    go_wp2_with fail
    go_ret
    exact ⟨rfl, rfl⟩
  · have hx0 : x ≤ 0 := by have := HX.out; simp at this; omega
    have hx : IntKind.i64.wrap (IntKind.u64.wrap (-(x.natAbs : Int))) = x := by rw [IntKind.wrap_i64, IntKind.wrap_u64]; omega
    go_enter Tryz.func271, Tryz.ntmps271
    go_wp2_with fail
    refine HU.out.mono ?_
    rintro e w1 ⟨rfl, rfl⟩
    go_wp2_with fail
    go_ret
    exact ⟨rfl, rfl⟩
end Go.Proofs.YtdomfdcebdimlaaGreatDoor.Bg
