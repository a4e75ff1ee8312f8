/- Contract of the reference's common: the greatest divisor of two magnitudes above 0, one of at most two words. -/
import Derived.Test.YtiohemofidphjaaDoorS2
import Derived.Deep.LoopGhost
namespace Go.Proofs.YtiohemofidphjaaDoor.Bg
open Go Go.RowKit

structure ComSt (w : World) (a : Value) (X Y L G : Nat) (b : Value) (wx : World) : Prop where
  ha : MagN wx a X L
  hb : MagN wx b Y 2
  hg : Nat.gcd X Y = G
  hX : 0 < X
  hl : Below w.heap.size w wx
theorem ComSt.step {w w1 : World} {a b r : Value} {X Y L G : Nat} {wx : World} (h : ComSt w a X Y L G b wx) (hr : MagN w1 r (X % Y) 2) (hb : Below wx.heap.size wx w1) (hY : 0 < Y) (hL : 2 ≤ L) : ComSt w b Y (X % Y) L G r w1 :=
  ⟨(h.hb.below hb).more hL, hr, by rw [← h.hg, Nat.gcd_comm X Y, Nat.gcd_rec Y X, Nat.gcd_comm], hY, h.hl.trans (hb.mono h.hl.size)⟩

set_option maxHeartbeats 2000000 in
theorem common_any (u v : Value) (m n L : Nat) (w : World) (hu : MagN w u m L) (hv : MagN w v n 2) (hL : L ≤ 268435456) (hL2 : 2 ≤ L) (hm : 0 < m) (hn : 0 < n) :
    Calls Tryd.prog 66 #[u, v] w fun e w' => ∃ x, e = .returned x ∧ MagN w' x (Nat.gcd m n) 2 ∧ Below w.heap.size w w' := by
  have hc := compare_any u v m n L w hu (hv.more hL2) (by omega)
  obtain ⟨G, hG⟩ : ∃ G, Nat.gcd m n = G := ⟨_, rfl⟩
  have hG0 : 0 < G := by rw [← hG]; exact Nat.gcd_pos_of_pos_left _ hm
  have hGn : G ≤ n := by rw [← hG]; exact Nat.le_of_dvd hn (Nat.gcd_dvd_right m n)
  have hn2 : n < 4294967296 ^ 2 := by
    obtain ⟨ws, h1, h2, h3, h4⟩ := hv
    have h5 := val_lt h1.w32
    have h6 : 4294967296 ^ ws.length ≤ 4294967296 ^ 2 := Nat.pow_le_pow_right (by omega) h4
    omega
  have H1 : Hid (¬ m < n → ∀ j, ComSt w u m n L G v (w.drewN j)) := Lib.hid (fun _ j => ⟨hu, hv, hG, hm, below_dN (Below.refl _ _) j⟩)
  have H2 : Hid (m < n → ∀ j, ComSt w v n m L G u (w.drewN j)) := Lib.hid (fun h j => ⟨hv.more hL2, hu.less (by omega), by rw [Nat.gcd_comm]; exact hG, hn, below_dN (Below.refl _ _) j⟩)
  have HN := Lib.hid (And.intro hG0 (And.intro hGn hn2))
  rw [hG]
  have HC := Lib.hid hc
  clear hu hv hc hG hG0 hGn hn2
  go_enter Tryd.func66, Tryd.ntmps66
  go_wp2_with fail
  refine HC.out.mono ?_
  rintro e w1 ⟨rfl, j, rfl⟩
  go_upto_if 20 with (fail)
  go_cut [0, 1] (fun a b wx => ∃ X Y, Hid (ComSt w a X Y L G b wx))
  case first =>
    by_cases hlt : m < n
    · have hcv : cmpN m n < 0 := by unfold cmpN; rw [if_pos hlt]; omega
      go_wp2_with fail
      go_meet
      exact ⟨n, m, Lib.hid (H2.out hlt j)⟩
    · have hcv : ¬ cmpN m n < 0 := by unfold cmpN; split <;> (try split) <;> omega
      go_wp2_with fail
      go_meet
      exact ⟨m, n, Lib.hid (H1.out hlt j)⟩
  case rest =>
    obtain ⟨X, Y, hst⟩ := hcut
    obtain ⟨A2, k2, c2, rfl, -, -⟩ := hst.out.hb.slice
    have hk2 : k2 ≤ 2 := hst.out.hb.len.2.2
    have hk2i : ¬ (2 : Int) < (k2 : Int) := by omega
    go_wp2_with fail
    refine wp_loop_rounds 1 ?_
    rw [rounds_succ]
    go_wp2_with fail
    clear hk2 hk2i
    go_loopg [0, 1] Y (fun g a b wx => ∃ X A k c, b = .slice A k c ∧ Hid (ComSt w a X g L G b wx))
    case atStart => exact ⟨X, _, _, _, rfl, hst⟩
    case round =>
      obtain ⟨X', A', k', c', rfl, hs⟩ := hrel
      obtain ⟨z1, z2, z3⟩ := hs.out.hb.len
      by_cases hk : k' = 0
      · have hg0 := z1 hk
        subst hk
        have hXG : X' = G := by have := hs.out.hg; rw [hg0, Nat.gcd_zero_right] at this; exact this
        have hmx := hs.out.ha.less (L' := 2) (by rw [hXG]; exact Nat.lt_of_le_of_lt HN.out.2.1 HN.out.2.2)
        rw [hXG] at hmx
        obtain ⟨ws, g1, g2⟩ := hmx
        have G1 := Lib.hid g1
        have G2 := Lib.hid g2
        clear g1 g2 hXG
        go_wp2_with (at_builtin; refine wpList_append_words _ rfl _ _ rfl _ ws rfl rfl G1.out (by have := G2.out.2.2; omega) ?_; intro v1 w1 hm1 hb1; have HB := Lib.hid (And.intro hm1 (hs.out.hl.trans (hb1.mono hs.out.hl.size))); clear hm1 hb1)
        go_ret
        exact ⟨_, rfl, ⟨ws, HB.out.1, G2.out⟩, HB.out.2⟩
      · have hg0 : gk ≠ 0 := z2 hk
        have hk1 : (0 : Int) < (k' : Int) := by omega
        have HO := Lib.hid (over_any2 _ _ X' gk L _ hs.out.ha hs.out.hb hL (by omega) hL2)
        go_wp2_with (go_at_call 56; refine HO.out.mono ?_; rintro e w2 ⟨q, r, rfl, hq, hr, hb⟩; have HS := Lib.hid (hs.out.step hr hb (by omega) hL2); obtain ⟨A3, k3, c3, rfl, -, -⟩ := hr.slice; clear hq hr hb)
        go_roundg (X' % gk)
        case measure => exact Nat.mod_lt _ (by omega)
        case rel => exact ⟨gk, _, _, _, rfl, HS⟩
end Go.Proofs.YtiohemofidphjaaDoor.Bg
