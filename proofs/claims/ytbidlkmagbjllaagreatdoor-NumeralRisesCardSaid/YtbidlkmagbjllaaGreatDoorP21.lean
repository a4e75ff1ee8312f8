/- Q6 in one text. -/
import Derived.Test.YtbidlkmagbjllaaGreatDoorP04
import Derived.Deep.RegionLaw
import Derived.Deep.AppendLies

namespace Go.Proofs.YtbidlkmagbjllaaGreatDoor.Bg
open Go Go.RowKit

set_option maxRecDepth 8000 in
set_option maxHeartbeats 1000000 in
theorem Neg_any (z p : Addr) (x : Int) (L : Nat) (w : World) (hz : Slot w z) (hp : IntAt w p x L) (hL : L ≤ 1099511627776) :
    Calls Tryz.prog 64 #[.pointer (some z), .pointer (some p)] w (Gives w z (-x) L) := by
  obtain ⟨b, off, neg, u, m, rfl, hb, h3, h4, h5, h6, h7⟩ := hp
  obtain ⟨ws, g1, g2, g3, g4⟩ := h5
  have G1 := Lib.hid g1
  have G2 := Lib.hid (And.intro g2 (And.intro g3 g4))
  have HZ := Lib.hid hz
  have HX := Lib.hid (And.intro h6 h7)
  clear g1 g2 g3 g4 hz h6 h7
  cases neg
  · go_enter Tryz.func64, Tryz.ntmps64
    go_wp2_with fail
    go_region_law (first | (refine step_append_words _ (by rfl) _ _ (by rfl) u ws (by simp [Act.eval]) (by simp [Act.eval, Act.put]) G1.out.drew (by have := G2.out.2.2; omega) ?_; intro v1 w1 hm1 hb1; have hb2 : Below w.heap.size w w1 := (Below.refl _ _).drew.trans hb1; have q3 := (hb2.cell (p := ⟨b, off, none⟩) hb).trans h3) | (go_simp; go_at_call 39; refine (put_neg z _ m L (-x) _ (HZ.out.below hb2) ⟨ws, hm1, G2.out⟩ (by have := HX.out.1; simp at this; omega)).mono ?_; rintro e w2 hg; have HG := Lib.hid (hg.of_below hb2); obtain ⟨rfl, -, -⟩ := hg))
    all_goals (go_wp2_with fail; go_ret; exact HG.out)
  · go_enter Tryz.func64, Tryz.ntmps64
    go_wp2_with fail
    go_region_law (first | (refine step_append_words _ (by rfl) _ _ (by rfl) u ws (by simp [Act.eval]) (by simp [Act.eval, Act.put]) G1.out.drew (by have := G2.out.2.2; omega) ?_; intro v1 w1 hm1 hb1; have hb2 : Below w.heap.size w w1 := (Below.refl _ _).drew.trans hb1; have q3 := (hb2.cell (p := ⟨b, off, none⟩) hb).trans h3) | (go_simp; go_at_call 39; refine (put_pos z _ m L (-x) _ (HZ.out.below hb2) ⟨ws, hm1, G2.out⟩ (by have := HX.out.1; simp at this; omega)).mono ?_; rintro e w2 hg; have HG := Lib.hid (hg.of_below hb2); obtain ⟨rfl, -, -⟩ := hg))
    all_goals (go_wp2_with fail; go_ret; exact HG.out)

theorem val_low {ws : List Nat} (h : W32 ws) : val ws % 18446744073709551616 = if ws.length = 0 then 0 else if ws.length = 1 then ws.getD 0 0 else ws.getD 0 0 + 4294967296 * ws.getD 1 0 := by
  match ws, h with
  | [], _ => simp [val]
  | [a], h => have := h.head; simp [val]; omega
  | a :: b :: r, h =>
    have h1 := h.head
    have h2 := h.tail.head
    simp only [val, List.length_cons]
    rw [if_neg (by omega), if_neg (by omega)]
    simp only [List.getD_cons_zero, List.getD_cons_succ]
    omega

theorem or_shift {a b : Nat} (ha : a < 4294967296) (hb : b < 4294967296) : bits .or .u64 (a : Int) ((b : Int) * 4294967296) = (a : Int) + 4294967296 * (b : Int) := by
  have e : ((b : Int) * 4294967296) = ((b * 4294967296 : Nat) : Int) := by omega
  rw [e, u64_or_nat a _ (by omega) (by omega)]
  rw [show b * 4294967296 = b <<< 32 by rw [Nat.shiftLeft_eq], Nat.or_comm, ← Nat.shiftLeft_add_eq_or_of_lt (by omega : a < 2 ^ 32), Nat.shiftLeft_eq]
  omega

end Go.Proofs.YtbidlkmagbjllaaGreatDoor.Bg
