/- Q16 Q17 Q18 Q19 A7 in one text. -/
import Derived.Test.YtebacmmfjadalaaGreatP41
import Derived.Test.YtebacmmfjadalaaGreatP39
import Derived.Test.YtebacmmfjadalaaGreatP10
import Derived.Test.YtebacmmfjadalaaGreatP11

namespace Go.Proofs.YtebacmmfjadalaaGreat.Bg
open Go Go.RowKit

theorem MagN.slice {w : World} {v : Value} {n L : Nat} (h : MagN w v n L) : ∃ A k c, v = .slice A k c ∧ (k = 0 → n = 0) ∧ (k ≠ 0 → n ≠ 0) := by
  have h' := h
  obtain ⟨ws, ⟨A, c, rfl, -⟩, -⟩ := h
  exact ⟨A, _, c, rfl, h'.len.1, h'.len.2.1⟩

theorem MagN.unit (w : World) (t : TypeId) : MagN (w.alloc (.cells #[.int .u32 1] t)) (.slice (some ⟨w.heap.size, 0, none⟩) 1 1) 1 1 :=
  ⟨[1], Mag.single w 1 (by omega) t, Or.inr (by simp), by simp [val], by simp⟩

theorem div_neg_even {m d : Nat} (hd : 0 < d) (h : m % d = 0) : (-(m : Int)) / (d : Int) = -((m / d : Nat) : Int) := by
  obtain ⟨k, rfl⟩ := Nat.dvd_of_mod_eq_zero h
  rw [Nat.mul_div_cancel_left _ hd, Int.natCast_mul, ← Int.mul_neg, Int.mul_ediv_cancel_left _ (by omega)]
theorem div_neg_odd {m d : Nat} (hd : 0 < d) (h : m % d ≠ 0) : (-(m : Int)) / (d : Int) = -((m / d + 1 : Nat) : Int) := by
  have h1 := Nat.div_add_mod m d
  have h2 := Nat.mod_lt m hd
  have e : -(m : Int) = ((d : Int) - ((m % d : Nat) : Int)) + (d : Int) * (-((m / d + 1 : Nat) : Int)) := by
    have h3 : (m : Int) = (d : Int) * ((m / d : Nat) : Int) + ((m % d : Nat) : Int) := by rw [← Int.natCast_mul, ← Int.natCast_add, h1]
    rw [Int.natCast_add, Int.mul_neg, Int.mul_add]
    omega
  rw [e, Int.add_mul_ediv_left _ _ (by omega), Int.ediv_eq_zero_of_lt (by omega) (by omega), Int.zero_add]

/-- a quotient by one word, of which the rest is known to be nought or not -/
theorem over_even (u v : Value) (m d L : Nat) (w : World) (hu : MagN w u m L) (hv : MagN w v d 1) (hL : L ≤ 536870912) (hd : 0 < d) (hL1 : 1 ≤ L) (hm : m % d = 0) :
    Calls Tryz.prog 84 #[u, v] w fun e w' => ∃ q A c, e = .returned (.tuple #[q, .slice A 0 c]) ∧ MagN w' q (m / d) L ∧ Below w.heap.size w w' :=
  (over_one u v m d L w hu hv hL hd hL1).mono fun e w' ⟨q, r, h1, h2, h3, h4⟩ => by
    obtain ⟨A, k, c, rfl, -, h6⟩ := h3.slice
    have hk : k = 0 := Classical.byContradiction fun hk => h6 hk hm
    subst hk
    exact ⟨q, A, c, h1, h2, h4⟩
theorem over_odd (u v : Value) (m d L : Nat) (w : World) (hu : MagN w u m L) (hv : MagN w v d 1) (hL : L ≤ 536870912) (hd : 0 < d) (hL1 : 1 ≤ L) (hm : m % d ≠ 0) :
    Calls Tryz.prog 84 #[u, v] w fun e w' => ∃ q A c, e = .returned (.tuple #[q, .slice A 1 c]) ∧ MagN w' q (m / d) L ∧ Below w.heap.size w w' :=
  (over_one u v m d L w hu hv hL hd hL1).mono fun e w' ⟨q, r, h1, h2, h3, h4⟩ => by
    obtain ⟨ws, ⟨A, c, rfl, -⟩, -⟩ := id h3
    have hk := h3.len
    have h1' : ws.length = 1 := by
      have := hk.1
      omega
    rw [h1'] at h1
    exact ⟨q, A, c, h1, h2, h4⟩

set_option maxRecDepth 8000 in
set_option maxHeartbeats 4000000 in
theorem div_pos (z p q : Addr) (x : Int) (d L : Nat) (w : World) (hz : Slot w z) (hp : IntAt w p x L) (hq : IntAt w q d 1) (hL : L ≤ 268435456) (hd : 0 < d) (hx : 0 ≤ x) (hL1 : 1 ≤ L) :
    Calls Tryz.prog 70 #[.pointer (some z), .pointer (some p), .pointer (some q)] w (Gives w z (x / (d : Int)) (L + 1)) := by
  obtain ⟨b1, o1, s1, A1, k1, c1, m, rfl, hb1, h3, h4, h5, h6, h7⟩ := hp.open
  obtain ⟨b2, o2, s2, A2, k2, c2, n, rfl, hb2, g3, g4, g5, g6, g7⟩ := hq.open
  have e2 : s2 = false := by cases s2 with | false => rfl | true => simp at g6 g7; omega
  subst e2
  have en : n = d := by simp at g6; omega
  subst en
  have e1 : s1 = false := by cases s1 with | false => rfl | true => simp at h6 h7; omega
  subst e1
  have hr : x / (n : Int) = ((m / n : Nat) : Int) := by simp at h6; rw [h6, Int.natCast_ediv]
  rw [hr]
  have hO := over_one _ _ m n L w.drew (h5.below (Below.refl _ _).drew) (g5.below (Below.refl _ _).drew) (by omega) hd hL1
  have HO := Lib.hid hO
  have HZ := Lib.hid hz
  clear h5 g5 hz hp hq h6 h7 g6 g7 hr hO
  go_enter Tryz.func70, Tryz.ntmps70
  go_wp2_with fail
  go_region_with (first | (go_at_call 84; refine HO.out.mono ?_; rintro e w1 ⟨qv, rv, rfl, hq, hr, hb⟩; have HB := Lib.hid (And.intro hq ((Below.refl w.heap.size w).drew.trans hb)); have f3 := (HB.out.2.cell (p := ⟨b1, o1, none⟩) hb1).trans h3; have f4 := (HB.out.2.cell (p := ⟨b2, o2, none⟩) hb2).trans g3))
  all_goals (clear hq hr hb; go_wp2_with fail)
  all_goals (go_region_with (first | (go_at_call 65; refine (put_any z _ qv (m / n) L _ (HZ.out.below HB.out.2.drew) (HB.out.1.below (Below.refl _ _).drew)).mono ?_; rintro e w2 hg; have HG := Lib.hid (hg.of_below HB.out.2.drew); obtain ⟨rfl, -⟩ := id hg)))
  all_goals (clear hg; go_wp2_with fail; go_ret; have h9 := HG.out; simp at h9; exact ⟨h9.1, h9.2.1, h9.2.2.more (by omega)⟩)
end Go.Proofs.YtebacmmfjadalaaGreat.Bg

namespace Go.Proofs.YtebacmmfjadalaaGreat.Bg
open Go Go.RowKit

set_option maxRecDepth 8000 in
set_option maxHeartbeats 4000000 in
theorem div_even (z p q : Addr) (x : Int) (d L : Nat) (w : World) (hz : Slot w z) (hp : IntAt w p x L) (hq : IntAt w q d 1) (hL : L ≤ 268435456) (hd : 0 < d) (hx : x < 0) (hdv : x.natAbs % d = 0) (hL1 : 1 ≤ L) :
    Calls Tryz.prog 70 #[.pointer (some z), .pointer (some p), .pointer (some q)] w (Gives w z (x / (d : Int)) (L + 1)) := by
  obtain ⟨b1, o1, s1, A1, k1, c1, m, rfl, hb1, h3, h4, h5, h6, h7⟩ := hp.open
  obtain ⟨b2, o2, s2, A2, k2, c2, n, rfl, hb2, g3, g4, g5, g6, g7⟩ := hq.open
  have e2 : s2 = false := by cases s2 with | false => rfl | true => simp at g6 g7; omega
  subst e2
  have en : n = d := by simp at g6; omega
  subst en
  have e1 : s1 = true := by cases s1 with | true => rfl | false => simp at h6; omega
  subst e1
  have hm : x = -(m : Int) := by simpa using h6
  have hdv' : m % n = 0 := by rw [hm] at hdv; simpa using hdv
  have hr : x / (n : Int) = -((m / n : Nat) : Int) := by rw [hm]; exact div_neg_even hd hdv'
  rw [hr]
  have hO := over_even _ _ m n L w.drew (h5.below (Below.refl _ _).drew) (g5.below (Below.refl _ _).drew) (by omega) hd hL1 hdv'
  have HO := Lib.hid hO
  have HZ := Lib.hid hz
  clear h5 g5 hz hp hq h6 h7 g6 g7 hr hO hm hdv hdv' hx
  go_enter Tryz.func70, Tryz.ntmps70
  go_wp2_with fail
  go_region_with (first | (go_at_call 84; refine HO.out.mono ?_; rintro e w1 ⟨qv, Ar, cr, rfl, hq, hb⟩; have HB := Lib.hid (And.intro hq ((Below.refl w.heap.size w).drew.trans hb)); have f3 := (HB.out.2.cell (p := ⟨b1, o1, none⟩) hb1).trans h3; have f4 := (HB.out.2.cell (p := ⟨b2, o2, none⟩) hb2).trans g3))
  all_goals (clear hq hb; go_wp2_with fail)
  all_goals (go_region_with (first | (go_at_call 65; refine (put_any z true qv (m / n) L _ (HZ.out.below HB.out.2.drew) (HB.out.1.below (Below.refl _ _).drew)).mono ?_; rintro e w2 hg; have HG := Lib.hid (hg.of_below HB.out.2.drew); obtain ⟨rfl, -⟩ := id hg)))
  all_goals (clear hg; go_wp2_with fail; go_ret; have h9 := HG.out; simp at h9; exact ⟨h9.1, h9.2.1, h9.2.2.more (by omega)⟩)
set_option maxRecDepth 8000 in
set_option maxHeartbeats 4000000 in
theorem div_odd (z p q : Addr) (x : Int) (d L : Nat) (w : World) (hz : Slot w z) (hp : IntAt w p x L) (hq : IntAt w q d 1) (hL : L ≤ 268435456) (hd : 0 < d) (hx : x < 0) (hdv : x.natAbs % d ≠ 0) (hL1 : 1 ≤ L) :
    Calls Tryz.prog 70 #[.pointer (some z), .pointer (some p), .pointer (some q)] w (Gives w z (x / (d : Int)) (L + 1)) := by
  obtain ⟨b1, o1, s1, A1, k1, c1, m, rfl, hb1, h3, h4, h5, h6, h7⟩ := hp.open
  obtain ⟨b2, o2, s2, A2, k2, c2, n, rfl, hb2', g3, g4, g5, g6, g7⟩ := hq.open
  have e2 : s2 = false := by cases s2 with | false => rfl | true => simp at g6 g7; omega
  subst e2
  have en : n = d := by simp at g6; omega
  subst en
  have e1 : s1 = true := by cases s1 with | true => rfl | false => simp at h6; omega
  subst e1
  have hm : x = -(m : Int) := by simpa using h6
  have hdv' : m % n ≠ 0 := by rw [hm] at hdv; simpa using hdv
  have hr : x / (n : Int) = -((m / n + 1 : Nat) : Int) := by rw [hm]; exact div_neg_odd hd hdv'
  rw [hr]
  have hO := over_odd _ _ m n L w.drew (h5.below (Below.refl _ _).drew) (g5.below (Below.refl _ _).drew) (by omega) hd hL1 hdv'
  have HO := Lib.hid hO
  have HZ := Lib.hid hz
  clear h5 g5 hz hp hq h6 h7 g6 g7 hr hO hm hdv hdv' hx
  go_enter Tryz.func70, Tryz.ntmps70
  go_wp2_with fail
  go_region_with (first | (go_at_call 84; refine HO.out.mono ?_; rintro e w1 ⟨qv, Ar, cr, rfl, hq, hb⟩; have HB := Lib.hid (And.intro hq ((Below.refl w.heap.size w).drew.trans hb)); have f3 := (HB.out.2.cell (p := ⟨b1, o1, none⟩) hb1).trans h3; have f4 := (HB.out.2.cell (p := ⟨b2, o2, none⟩) hb2').trans g3))
  all_goals (clear hq hb; go_wp2_with fail)
  all_goals (
    refine (plus_any _ _ (m / n) 1 L _ (HB.out.1.below ((Below.refl _ _).alloc (Nat.le_refl _) _)) ((MagN.unit w1 32).more hL1) (by omega)).mono ?_
    rintro e w2 ⟨v, rfl, hm2, hb2⟩
    have hba := HB.out.2.alloc HB.out.2.size (.cells #[.int .u32 1] 32)
    have HB2 := Lib.hid (And.intro hm2 (hba.trans (hb2.mono hba.size)))
    have f5 := (HB2.out.2.cell (p := ⟨b1, o1, none⟩) hb1).trans h3
    have f6 := (HB2.out.2.cell (p := ⟨b2, o2, none⟩) hb2').trans g3
    clear hm2 hb2 hba f3 f4
    go_wp2_with fail)
  all_goals (go_region_with (first | (go_at_call 65; refine (put_any z true v (m / n + 1) (L + 1) _ (HZ.out.below HB2.out.2.drew) (HB2.out.1.below (Below.refl _ _).drew)).mono ?_; rintro e w3 hg; have HG := Lib.hid (hg.of_below HB2.out.2.drew); obtain ⟨rfl, -⟩ := id hg)))
  all_goals (clear hg; go_wp2_with fail; go_ret; have h9 := HG.out; simp at h9; exact h9)
end Go.Proofs.YtebacmmfjadalaaGreat.Bg

namespace Go.Proofs.YtebacmmfjadalaaGreat.Bg
open Go Go.RowKit

theorem add_same {x y : Int} {m n : Nat} {s s' : Bool} (hx : x = if s = true then -(m : Int) else (m : Int)) (hy : y = if s' = true then -(n : Int) else (n : Int)) (h : s = (s' != false)) : (if s = true then -((m + n : Nat) : Int) else ((m + n : Nat) : Int)) = x + y := by
  subst h hx hy
  cases s' <;> simp <;> omega
theorem add_ge {x y : Int} {m n : Nat} {s s' : Bool} (hx : x = if s = true then -(m : Int) else (m : Int)) (hy : y = if s' = true then -(n : Int) else (n : Int)) (h : s = !(s' != false)) (hle : n ≤ m) : (if s = true then -((m - n : Nat) : Int) else ((m - n : Nat) : Int)) = x + y := by
  subst h hx hy
  cases s' <;> simp <;> omega
theorem add_lt {x y : Int} {m n : Nat} {s s' : Bool} (hx : x = if s = true then -(m : Int) else (m : Int)) (hy : y = if s' = true then -(n : Int) else (n : Int)) (h : s = !(s' != false)) (hlt : m < n) : (if (s' != false) = true then -((n - m : Nat) : Int) else ((n - m : Nat) : Int)) = x + y := by
  subst h hx hy
  cases s' <;> simp <;> omega

theorem sum_add (z p q : Addr) (x y : Int) (L : Nat) (w : World) (hz : Slot w z) (hp : IntAt w p x L) (hq : IntAt w q y L) (hL : L ≤ 536870912) :
    Calls Tryz.prog 71 #[.pointer (some z), .pointer (some p), .pointer (some q), .bool false] w (Gives w z (x + y) (L + 1)) := by
  obtain ⟨b1, o1, s1, A1, k1, c1, m, e1, hb1, h3, h4, h5, h6, h7⟩ := hp.open
  obtain ⟨b2, o2, s2, A2, k2, c2, n, e2, hb2, g3, g4, g5, g6, g7⟩ := hq.open
  by_cases c : s1 = (s2 != false)
  · have h := sum_same z p q x y L false w hz hp hq hL b1 o1 s1 A1 k1 c1 m b2 o2 s2 A2 k2 c2 n e1 hb1 h3 h4 h5 e2 hb2 g3 g4 g5 c
    rwa [add_same h6 g6 c] at h
  · have c' : s1 = !(s2 != false) := by cases s1 <;> cases s2 <;> simp at c ⊢
    rcases Nat.lt_or_ge m n with hlt | hle
    · have h := sum_lt z p q x y L false w hz hp hq hL b1 o1 s1 A1 k1 c1 m b2 o2 s2 A2 k2 c2 n e1 hb1 h3 h4 h5 e2 hb2 g3 g4 g5 c' hlt
      rw [add_lt h6 g6 c' hlt] at h
      exact h.mono fun e w' ⟨a, b, c⟩ => ⟨a, b, c.more (by omega)⟩
    · have h := sum_ge z p q x y L false w hz hp hq hL b1 o1 s1 A1 k1 c1 m b2 o2 s2 A2 k2 c2 n e1 hb1 h3 h4 h5 e2 hb2 g3 g4 g5 c' hle
      rw [add_ge h6 g6 c' hle] at h
      exact h.mono fun e w' ⟨a, b, c⟩ => ⟨a, b, c.more (by omega)⟩

theorem Add_any (z p q : Addr) (x y : Int) (L : Nat) (w : World) (hz : Slot w z) (hp : IntAt w p x L) (hq : IntAt w q y L) (hL : L ≤ 536870912) :
    Calls Tryz.prog 55 #[.pointer (some z), .pointer (some p), .pointer (some q)] w (Gives w z (x + y) (L + 1)) := by
  have HS := Lib.hid (sum_add z p q x y L w hz hp hq hL)
  clear hz hp hq
  go_enter Tryz.func55, Tryz.ntmps55
  go_wp2_with fail
  refine HS.out.mono ?_
  rintro e w1 hg
  have HG := Lib.hid hg
  obtain ⟨rfl, -⟩ := id hg
  clear hg
  go_wp2_with fail
  go_ret
  exact HG.out

theorem IntAt.one {w : World} {p : Addr} {d : Nat} {L : Nat} (h : IntAt w p (d : Int) L) (hd : d < 4294967296) : IntAt w p (d : Int) 1 := by
  obtain ⟨b, off, neg, v, n, h1, h2, h3, h4, h5, h6, h7⟩ := h
  refine ⟨b, off, neg, v, n, h1, h2, h3, h4, h5.less (L' := 1) ?_, h6, h7⟩
  have : n = d := by cases neg <;> simp at h6 h7 <;> omega
  omega

theorem Div_any (z p q : Addr) (x : Int) (d L L' : Nat) (w : World) (hz : Slot w z) (hp : IntAt w p x L) (hq : IntAt w q (d : Int) L') (hL : L ≤ 268435456) (hd : 0 < d) (hd' : d < 4294967296) (hL1 : 1 ≤ L) :
    Calls Tryz.prog 70 #[.pointer (some z), .pointer (some p), .pointer (some q)] w (Gives w z (x / (d : Int)) (L + 1)) := by
  by_cases c : 0 ≤ x
  · exact div_pos z p q x d L w hz hp (hq.one hd') hL hd c hL1
  · by_cases c' : x.natAbs % d = 0
    · exact div_even z p q x d L w hz hp (hq.one hd') hL hd (by omega) c' hL1
    · exact div_odd z p q x d L w hz hp (hq.one hd') hL hd (by omega) c' hL1

end Go.Proofs.YtebacmmfjadalaaGreat.Bg

namespace Go.Proofs.YtebacmmfjadalaaGreat.Bg
open Go Go.RowKit

/-- behind a call that makes a new number: what was known of two others -/
theorem Fresh.keep {w w1 w2 : World} {z r : Addr} (hb : Below w.heap.size w w1) (hs : Slot w1 z) (hr : w1.heap.size ≤ r.block) (h : Below w1.heap.size w1 w2) : Slot w2 z ∧ r ≠ z ∧ Below w.heap.size w w2 := by
  refine ⟨hs.below h, ?_, hb.trans (h.mono hb.size)⟩
  rintro rfl
  obtain ⟨b, off, -, -, -, -, rfl, h2, -⟩ := hs
  have : w1.heap.size ≤ b := hr
  omega
theorem Gives.keep {w w1 w2 : World} {z : Addr} {x : Int} {L : Nat} {e : Ending} (hb : Below w.heap.size w w1) (hs : Slot w1 z) (hz : w.heap.size ≤ z.block) (h : Gives w1 z x L e w2) : Slot w2 z ∧ Below w.heap.size w w2 :=
  ⟨h.2.1.slot hs hs, hb.trans (h.2.1.below hz hb.size)⟩

set_option maxHeartbeats 2000000 in
theorem floor_any (a b : Int) (d : Nat) (w : World) (a0 : -9223372036854775808 ≤ a) (a1 : a ≤ 9223372036854775807) (b0 : -9223372036854775808 ≤ b) (b1 : b ≤ 9223372036854775807) (d0 : 0 < d) (d1 : d < 4294967296) :
    Calls Tryz.prog 54 #[.int .i64 a, .int .i64 b, .int .i64 d] w (Fresh w (a * b / (d : Int)) 5) := by
  have HA := Lib.hid (And.intro (And.intro a0 a1) (And.intro b0 b1))
  have HD := Lib.hid (And.intro d0 d1)
  clear a0 a1 b0 b1 d0 d1
  go_enter Tryz.func54, Tryz.ntmps54
  go_wp2_with fail
  have H0 := Lib.hid (And.intro (Slot.new w false none 0 0 117) ((Below.refl w.heap.size w).alloc (Nat.le_refl _) (.cells #[.bool false, .slice none 0 0] 117)))
  refine (newInt_any a _ HA.out.1.1 HA.out.1.2).mono ?_
  rintro e w1 ⟨p, rfl, hp, -, hpi, hb⟩
  have H1 := Lib.hid (And.intro hpi (Fresh.keep H0.out.2 H0.out.1 hp hb))
  clear hp hpi hb H0
  go_wp2_with fail
  refine (newInt_any b _ HA.out.2.1 HA.out.2.2).mono ?_
  rintro e w2 ⟨q, rfl, hq, -, hqi, hb⟩
  have H2 := Lib.hid (And.intro hqi (And.intro (H1.out.1.below hb) (And.intro H1.out.2.2.1 (Fresh.keep H1.out.2.2.2 H1.out.2.1 hq hb))))
  clear hq hqi hb H1
  go_wp2_with fail
  refine (Mul_any _ p q a b 2 2 w2 H2.out.2.2.2.1 H2.out.2.1 H2.out.1 H2.out.2.2.1 H2.out.2.2.2.2.1 (by omega) (by omega)).mono ?_
  rintro e w3 hg
  have H3 := Lib.hid (And.intro hg.2.2 (Gives.keep H2.out.2.2.2.2.2 H2.out.2.2.2.1 (Nat.le_refl w.heap.size) hg))
  obtain ⟨rfl, -⟩ := hg
  clear H2
  go_wp2_with fail
  refine (newInt_any (d : Int) _ (by omega) (by have := HD.out.2; omega)).mono ?_
  rintro e w4 ⟨r, rfl, hr, -, hri, hb⟩
  have H4 := Lib.hid (And.intro hri (And.intro (H3.out.1.below hb) (Fresh.keep H3.out.2.2 H3.out.2.1 hr hb)))
  clear hr hri hb H3
  go_wp2_with fail
  refine (Div_any _ _ r (a * b) d 4 2 w4 H4.out.2.2.1 H4.out.2.1 H4.out.1 (by omega) HD.out.1 HD.out.2 (by omega)).mono ?_
  rintro e w5 hg
  have H5 := Lib.hid (And.intro hg.2.2 (Gives.keep H4.out.2.2.2.2 H4.out.2.2.1 (Nat.le_refl w.heap.size) hg))
  obtain ⟨rfl, -⟩ := hg
  clear H4
  go_wp2_with fail
  go_ret
  exact ⟨_, rfl, Nat.le_refl _, H5.out.2.1, H5.out.1, H5.out.2.2⟩
end Go.Proofs.YtebacmmfjadalaaGreat.Bg

namespace Go.Proofs.YtebacmmfjadalaaGreat
open Go.RowKit

theorem keep_in {P : Program} {f : FuncId} {args : Array Value} {W0 x : World} {v : Ending} (h : Calls P f args x fun e w' => e = v ∧ Below x.heap.size x w') (hx : Below W0.heap.size W0 x) :
    Calls P f args x fun e w' => e = v ∧ Below W0.heap.size W0 w' := h.mono fun _ _ ⟨a, b⟩ => ⟨a, hx.trans (b.mono hx.size)⟩

/-- the time of a count, where there is one -/
theorem time_ok (o n d c t : Int) (w : World) (h : Ck.timeOk o n d c = true ∧ o + c * n / d = t) :
    Calls Tryz.prog 32 #[.agg #[.int .i64 o, .int .i64 n, .int .i64 d], .int .i64 c] w fun e w' => e = .returned (.tuple #[.int .i64 t, .int .i64 0]) ∧ Below w.heap.size w w' := by
  have hh := time_any o n d c w
  rw [show Ck.timeV o n d c = t by simp [Ck.timeV, h.1, h.2], show Ck.timeE o n d c = 0 by simp [Ck.timeE, h.1, (Ck.timeOk_iff.1 h.1).1]] at hh
  exact hh
/-- .. where there is none -/
theorem time_no (o n d c : Int) (w : World) (h : Ck.timeOk o n d c = false) :
    Calls Tryz.prog 32 #[.agg #[.int .i64 o, .int .i64 n, .int .i64 d], .int .i64 c] w fun e w' => e = .returned (.tuple #[.int .i64 0, .int .i64 (if Ck.okc o n d then 1 else 130)]) ∧ Below w.heap.size w w' := by
  have hh := time_any o n d c w
  rw [show Ck.timeV o n d c = 0 by simp [Ck.timeV, h], show Ck.timeE o n d c = if Ck.okc o n d then 1 else 130 by simp [Ck.timeE, h]] at hh
  exact hh

end Go.Proofs.YtebacmmfjadalaaGreat
