/- Q13 in one text. -/
import Derived.Test.YtbidlkmagbjllaaGreatDoorP22
import Derived.Test.YtbidlkmagbjllaaGreatDoorP07

namespace Go.Proofs.YtbidlkmagbjllaaGreatDoor.Bg
open Go Go.RowKit


theorem minus_dN (u v : Value) (m n L k : Nat) (w : World) (hu : MagN w u m L) (hv : MagN w v n L) (hL : L ≤ 536870912) (hle : n ≤ m) :
    Calls Tryz.prog 165 #[u, v] (w.drewN k) fun e w' => ∃ x, e = .returned x ∧ MagN w' x (m - n) L ∧ Below w.heap.size w w' :=
  (minus_any u v m n L L (w.drewN k) (hu.below (below_dN (Below.refl _ _) k)) (hv.below (below_dN (Below.refl _ _) k)) (by omega) hle).mono fun _ _ ⟨x, h1, h2, h3⟩ => ⟨x, h1, h2, (below_dN (Below.refl _ _) k).trans h3⟩

set_option maxHeartbeats 4000000 in
theorem sum_ge (z p q : Addr) (x y : Int) (L : Nat) (t : Bool) (w : World) (hz : Slot w z) (hp : IntAt w p x L) (hq : IntAt w q y L) (hL : L ≤ 536870912)
    (b1 o1 : Nat) (s1 : Bool) (A1 : Option Addr) (k1 c1 m b2 o2 : Nat) (s2 : Bool) (A2 : Option Addr) (k2 c2 n : Nat)
    (e1 : p = ⟨b1, o1, none⟩) (hb1 : b1 < w.heap.size) (h3 : w.cell? ⟨b1, o1, none⟩ = some (.bool s1)) (h4 : w.cell? ⟨b1, o1 + 1, none⟩ = some (.slice A1 k1 c1)) (h5 : MagN w (.slice A1 k1 c1) m L)
    (e2 : q = ⟨b2, o2, none⟩) (_ : b2 < w.heap.size) (g3 : w.cell? ⟨b2, o2, none⟩ = some (.bool s2)) (g4 : w.cell? ⟨b2, o2 + 1, none⟩ = some (.slice A2 k2 c2)) (g5 : MagN w (.slice A2 k2 c2) n L)
    (hs : s1 = !(s2 != t)) (hle : n ≤ m) :
    Calls Tryz.prog 116 #[.pointer (some z), .pointer (some p), .pointer (some q), .bool t] w (Gives w z (if s1 then -((m - n : Nat) : Int) else ((m - n : Nat) : Int)) L) := by
  subst e1 e2
  have hc := fun (W : World) (hu : MagN W (.slice A1 k1 c1) m L) (hv : MagN W (.slice A2 k2 c2) n L) => compare_any _ _ m n L W hu hv (by omega)
  generalize hcv : cmpN m n = cv at hc
  have k0 : 0 ≤ cv := by rw [← hcv]; unfold cmpN; split <;> (try split) <;> omega
  have k1 : cv ≤ 1 := by rw [← hcv]; unfold cmpN; split <;> (try split) <;> omega
  clear hcv
  have HC := Lib.hid hc
  have H5 := Lib.hid h5
  have G5 := Lib.hid g5
  have HZ := Lib.hid hz
  clear h5 g5 hz hp hq hc
  cases s2 <;> cases t <;> simp at hs <;> subst hs
  · go_enter Tryz.func116, Tryz.ntmps116
    go_wp2_with fail
    go_quiet ((go_at_call 67; refine Calls.quiet_of (HC.out _ ?_ ?_); exact H5.out; exact G5.out))
    go_wp2_with fail
    go_region_with (first | (go_at_call 165; refine (minus_dN _ _ m n L _ w H5.out G5.out (by omega) (by omega)).mono ?_; rintro e w1 ⟨v, rfl, hm, hb'⟩; have f3 := (hb'.cell (p := ⟨b1, o1, none⟩) hb1).trans h3) | (go_at_call 39; refine (put_any z _ v (m - n) L _ (HZ.out.below hb') hm).mono ?_; rintro e w2 hg; have HG := Lib.hid (hg.of_below hb'); obtain ⟨rfl, -⟩ := id hg))
    all_goals (clear hg hb' hm; go_wp2_with fail; go_ret; have h9 := HG.out; simp at h9; exact h9)
  · go_enter Tryz.func116, Tryz.ntmps116
    go_wp2_with fail
    go_quiet ((go_at_call 67; refine Calls.quiet_of (HC.out _ ?_ ?_); exact H5.out; exact G5.out))
    go_wp2_with fail
    go_region_with (first | (go_at_call 165; refine (minus_dN _ _ m n L _ w H5.out G5.out (by omega) (by omega)).mono ?_; rintro e w1 ⟨v, rfl, hm, hb'⟩; have f3 := (hb'.cell (p := ⟨b1, o1, none⟩) hb1).trans h3) | (go_at_call 39; refine (put_any z _ v (m - n) L _ (HZ.out.below hb') hm).mono ?_; rintro e w2 hg; have HG := Lib.hid (hg.of_below hb'); obtain ⟨rfl, -⟩ := id hg))
    all_goals (clear hg hb' hm; go_wp2_with fail; go_ret; have h9 := HG.out; simp at h9; exact h9)
  · go_enter Tryz.func116, Tryz.ntmps116
    go_wp2_with fail
    go_quiet ((go_at_call 67; refine Calls.quiet_of (HC.out _ ?_ ?_); exact H5.out; exact G5.out))
    go_wp2_with fail
    go_region_with (first | (go_at_call 165; refine (minus_dN _ _ m n L _ w H5.out G5.out (by omega) (by omega)).mono ?_; rintro e w1 ⟨v, rfl, hm, hb'⟩; have f3 := (hb'.cell (p := ⟨b1, o1, none⟩) hb1).trans h3) | (go_at_call 39; refine (put_any z _ v (m - n) L _ (HZ.out.below hb') hm).mono ?_; rintro e w2 hg; have HG := Lib.hid (hg.of_below hb'); obtain ⟨rfl, -⟩ := id hg))
    all_goals (clear hg hb' hm; go_wp2_with fail; go_ret; have h9 := HG.out; simp at h9; exact h9)
  · go_enter Tryz.func116, Tryz.ntmps116
    go_wp2_with fail
    go_quiet ((go_at_call 67; refine Calls.quiet_of (HC.out _ ?_ ?_); exact H5.out; exact G5.out))
    go_wp2_with fail
    go_region_with (first | (go_at_call 165; refine (minus_dN _ _ m n L _ w H5.out G5.out (by omega) (by omega)).mono ?_; rintro e w1 ⟨v, rfl, hm, hb'⟩; have f3 := (hb'.cell (p := ⟨b1, o1, none⟩) hb1).trans h3) | (go_at_call 39; refine (put_any z _ v (m - n) L _ (HZ.out.below hb') hm).mono ?_; rintro e w2 hg; have HG := Lib.hid (hg.of_below hb'); obtain ⟨rfl, -⟩ := id hg))
    all_goals (clear hg hb' hm; go_wp2_with fail; go_ret; have h9 := HG.out; simp at h9; exact h9)
end Go.Proofs.YtbidlkmagbjllaaGreatDoor.Bg
