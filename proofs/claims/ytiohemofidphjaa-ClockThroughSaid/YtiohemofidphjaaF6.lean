/- The walk of ClockThrough. -/
import Derived.Test.YtiohemofidphjaaF5
import Derived.Test.YtiohemofidphjaaA7
namespace Go.Proofs.Ytiohemofidphjaa
open Go Go.RowKit

theorem fitR_parts (ps : List (Int × Int)) : ∃ O N D W E : Int, fitR ps = .tuple #[.agg #[.int .i64 O, .int .i64 N, .int .i64 D], .int .i64 W, .int .i64 E] ∧ Ck.fitE ps = E ∧
    (E = 0 → Ck.fitO (Ck.fstP ps) (Ck.lstP ps) = O ∧ Ck.fitN (Ck.fstP ps) (Ck.lstP ps) = N ∧ Ck.fitD (Ck.fstP ps) (Ck.lstP ps) = D ∧ Ck.fitW ps = W) := by
  by_cases h : Ck.fitE ps = 0
  · exact ⟨_, _, _, _, 0, by unfold fitR; rw [if_pos h]; rfl, h, fun _ => ⟨rfl, rfl, rfl, rfl⟩⟩
  · exact ⟨0, 0, 0, 0, _, by unfold fitR; rw [if_neg h], rfl, fun h' => absurd h' h⟩
theorem fit_is {ps : List (Int × Int)} {O N D W E : Int} (h : fitR ps = .tuple #[.agg #[.int .i64 O, .int .i64 N, .int .i64 D], .int .i64 W, .int .i64 E]) {v : Value} {w : World}
    (hP : Prs w v ps ∧ ∀ A n c, v = .slice A n c → c ≤ 9223372036854775807) :
    Calls Try.prog 20 #[v] w fun e w' => e = .returned (.tuple #[.agg #[.int .i64 O, .int .i64 N, .int .i64 D], .int .i64 W, .int .i64 E]) ∧ Below w.heap.size w w' := by
  have := fit_any hP.1 hP.2
  rwa [h] at this

theorem two_new {wr : World} {o1 o2 : Obj} {B : Nat} {w0 : World} (h : Below B w0 wr) (hB : B ≤ wr.heap.size) : Below B w0 ((wr.alloc o1).alloc o2).drew :=
  ((Below.alloc h hB _).alloc (by simp; omega) _).drew

/-- the two pairs' copies and the fit, behind calls -/
structure Two (W3 : World) (db g h : Nat) (O N D x y x' y' : Int) (wx : World) : Prop where
  g0 : g < wx.heap.size
  h0 : h < wx.heap.size
  d0 : db < wx.heap.size
  c0 : wx.cell? ⟨g, 0, none⟩ = some (.int .i64 x)
  c1 : wx.cell? ⟨g, 1, none⟩ = some (.int .i64 y)
  c2 : wx.cell? ⟨h, 0, none⟩ = some (.int .i64 x')
  c3 : wx.cell? ⟨h, 1, none⟩ = some (.int .i64 y')
  c4 : wx.cell? ⟨db, 0, none⟩ = some (.int .i64 O)
  c5 : wx.cell? ⟨db, 1, none⟩ = some (.int .i64 N)
  c6 : wx.cell? ⟨db, 2, none⟩ = some (.int .i64 D)
  bl : Below W3.heap.size W3 wx
theorem Two.on {W3 : World} {db g h : Nat} {O N D x y x' y' : Int} {wx w' : World} (t : Two W3 db g h O N D x y x' y' wx) (hb : Below wx.heap.size wx w') : Two W3 db g h O N D x y x' y' w' :=
  ⟨Nat.lt_of_lt_of_le t.g0 hb.size, Nat.lt_of_lt_of_le t.h0 hb.size, Nat.lt_of_lt_of_le t.d0 hb.size, (hb.cell (by exact t.g0)).trans t.c0, (hb.cell (by exact t.g0)).trans t.c1, (hb.cell (by exact t.h0)).trans t.c2, (hb.cell (by exact t.h0)).trans t.c3,
    (hb.cell (by exact t.d0)).trans t.c4, (hb.cell (by exact t.d0)).trans t.c5, (hb.cell (by exact t.d0)).trans t.c6, t.bl.trans (hb.mono t.bl.size)⟩

theorem pair_news {w : World} {g : Nat} {x y : Int} (c0 : w.cell? ⟨g, 0, none⟩ = some (.int .i64 x)) (c1 : w.cell? ⟨g, 1, none⟩ = some (.int .i64 y)) : ∀ j u, (flat [(x, y)])[j]? = some u → w.cell? ((⟨g, 0, none⟩ : Addr).add j) = some u := by
  intro j u hu
  rw [Go.WideShapes.add_plain, Nat.zero_add]
  match j, hu with
  | 0, hu => simp [flat] at hu; rw [← hu]; exact c0
  | 1, hu => simp [flat] at hu; rw [← hu]; exact c1
  | j + 2, hu => simp [flat] at hu
theorem wpList_append_pair (w : World) {ops : Array Oper} {rest : List Oper} {o : Oper} {a : Act} {Q : Exit → Act → World → Prop} (hgd : o.guard = none) (s x : Operand)
    (ho : o.op = .call { callee := .builtin .append, args := #[s, x], argTypes := #[42, 42] }) (base : Nat) (v : Value) (ps : List (Int × Int)) (hs : a.eval s = v) (hown : w.ownsRow base 47 2 v ps.length (flat ps))
    (g : Nat) (p q : Int) (hx : a.eval x = .slice (some ⟨g, 0, none⟩) 1 1) (c0 : w.cell? ⟨g, 0, none⟩ = some (.int .i64 p)) (c1 : w.cell? ⟨g, 1, none⟩ = some (.int .i64 q)) (hl : ps.length ≤ 1024) (hbase : base ≤ w.heap.size)
    (h : ∀ v' w', w'.ownsRow base 47 2 v' (ps ++ [(p, q)]).length (flat (ps ++ [(p, q)])) → Below base w w' → wpList Try.prog ops Q rest (a.put o.dst v') w') : wpList Try.prog ops Q (o :: rest) a w := by
  obtain ⟨i0, hi0, hz0, hz1, hz2⟩ := info_parts infoP
  refine wpList_append_own_at w hgd s x 42 ho base 47 i0 _ 2 16 Try.underlying42 hi0 hz0 hz1 hz2 rfl (by omega) v ps.length (flat ps) hs hown ⟨g, 0, none⟩ 1 1 (flat [(p, q)]) hx rfl (pair_news c0 c1) (flat_one _) (by simp only [maxLen]; omega) (by omega) hbase ?_
  intro v' w' h1 h2 _ _
  refine h v' w' ?_ ((Below.refl _ _).grown h2 hbase (fun k hk => (hown.lt k hk).1))
  rw [flat_append, List.length_append]
  exact h1
theorem own_below {w w' : World} {base e size n : Nat} {v : Value} {xs : List Value} (h : w.ownsRow base e size v n xs) (hb : Below w.heap.size w w') : w'.ownsRow base e size v n xs :=
  h.kept (row := none) ⟨hb.os, hb.tape, hb.output, hb.size, fun k hk _ => hb.block k hk⟩ (by cases v.ownBlock <;> simp)
theorem below_on {w a b : World} (h : Below w.heap.size w a) (k : Below a.heap.size a b) : Below w.heap.size w b := h.trans (k.mono h.size)

set_option maxRecDepth 8000 in
set_option maxHeartbeats 4000000 in
theorem through_walk (A : Option Addr) (m c : Nat) (ps : List (Int × Int)) (o n d : Int) (A' : Option Addr) (L c' : Nat) (zs : Nat → Int) (w : World) (hm : ps.length = m)
    (hP : Prs w (.slice A m c) ps) (_hcc : c ≤ 9223372036854775807) (hl : ps.length * 16 ≤ 140737488355328) (hLm : L ≤ 9223372036854775807)
    (hks : 2 ≤ L → ∃ b off, A' = some ⟨b, off, none⟩ ∧ b < w.heap.size ∧ ∀ j, j < L → w.cell? ⟨b, off + j, none⟩ = some (.int .i64 (zs j)) ∧ -9223372036854775808 ≤ zs j ∧ zs j ≤ 9223372036854775807) :
    Calls Try.prog 9 #[.slice A m c, .agg #[.int .i64 o, .int .i64 n, .int .i64 d], .slice A' L c'] w fun e w' => e = .returned (.bool true) ∧ Below w.heap.size w w' := by
  have HP := Lib.hid hP
  have HKS := Lib.hid hks
  have HM := Lib.hid hm
  have hmm : m ≤ 9223372036854775807 := by omega
  clear hP hks hm
  have hb0 : Hid (Below w.heap.size w (w.alloc (.cells #[.int .i64 o, .int .i64 n, .int .i64 d] 31))) := Lib.hid ((Below.refl _ _).alloc (Nat.le_refl _) _)
  have HP1 := Lib.hid (HP.out.below hb0.out)
  obtain ⟨O, N, D, W, E, hfit, hE, hend⟩ := fitR_parts ps
  have HF := Lib.hid hfit
  have HE := Lib.hid hE
  have HD := Lib.hid hend
  clear hfit hE hend
  go_enter Try.func9, Try.ntmps9
  go_upto_if 33 with (first | (at_builtin; refine wpList_append_pairs _ rfl _ _ rfl (.slice A m c) ps rfl rfl HP1.out hl ?_; intro v1 w1 hP1 hb1; have HPL := Lib.hid hP1; have HB1 := Lib.hid hb1; clear hP1 hb1) | (go_at_call 20; refine (fit_is HF.out HPL.out).mono ?_; rintro e w2 ⟨rfl, hb2⟩; have HB2 := Lib.hid hb2; clear hb2))
  go_cut [12] (fun _ wx => Hid (Below w.heap.size w wx ∧ w.heap.size < wx.heap.size ∧ wx.cell? ⟨w.heap.size, 0, none⟩ = some (.int .i64 o) ∧ wx.cell? ⟨w.heap.size, 1, none⟩ = some (.int .i64 n) ∧ wx.cell? ⟨w.heap.size, 2, none⟩ = some (.int .i64 d)))
  case first =>
    have hw1 : w.heap.size < w1.heap.size := by have := HB1.out.size; simp at this; omega
    have hw2 : w.heap.size < w2.heap.size := by have := HB2.out.size; omega
    have HB3 : Hid (Below w.heap.size w (w2.alloc (.cells #[.int .i64 O, .int .i64 N, .int .i64 D] 31))) := Lib.hid (((hb0.out.trans (HB1.out.mono (by simp))).trans (HB2.out.mono (by omega))).alloc (by omega) _)
    obtain ⟨x0, x1, x2, -, -⟩ := new_clk w o n d 31
    have HX : Hid (w2.cell? ⟨w.heap.size, 0, none⟩ = some (.int .i64 o) ∧ w2.cell? ⟨w.heap.size, 1, none⟩ = some (.int .i64 n) ∧ w2.cell? ⟨w.heap.size, 2, none⟩ = some (.int .i64 d)) := Lib.hid
      ⟨(HB2.out.cell (by exact hw1)).trans ((HB1.out.cell (by simp)).trans x0), (HB2.out.cell (by exact hw1)).trans ((HB1.out.cell (by simp)).trans x1), (HB2.out.cell (by exact hw1)).trans ((HB1.out.cell (by simp)).trans x2)⟩
    have y0 := (World.cell?_alloc_lt w2 (.cells #[.int .i64 O, .int .i64 N, .int .i64 D] 31) ⟨w.heap.size, 0, none⟩ hw2).trans HX.out.1
    have y1 := (World.cell?_alloc_lt w2 (.cells #[.int .i64 O, .int .i64 N, .int .i64 D] 31) ⟨w.heap.size, 1, none⟩ hw2).trans HX.out.2.1
    have y2 := (World.cell?_alloc_lt w2 (.cells #[.int .i64 O, .int .i64 N, .int .i64 D] 31) ⟨w.heap.size, 2, none⟩ hw2).trans HX.out.2.2
    have y3 : w.heap.size < (w2.alloc (.cells #[.int .i64 O, .int .i64 N, .int .i64 D] 31)).heap.size := by simp; omega
    have HY := Lib.hid (And.intro HB3.out (And.intro y3 (And.intro y0 (And.intro y1 y2))))
    obtain ⟨z0, z1, z2, -, z4⟩ := new_clk w2 O N D 31
    have HP3 := Lib.hid (HP.out.below HB3.out)
    clear x0 x1 x2 y0 y1 y2 y3 HB3 HX hw1 HB1 HB2 hb0 HP1 HPL hw2
    generalize w2.alloc (.cells #[.int .i64 O, .int .i64 N, .int .i64 D] 31) = W3 at *
    generalize w2.heap.size = db at *
    by_cases hz : E = 0
    · subst hz
      obtain ⟨hO, hN, hD, hW⟩ := HD.out rfl
      obtain ⟨_, h2, _, hu, _, _⟩ := Ck.fitE_zero HE.out
      have ht := Ck.fit_times HE.out
      have hW0 := Ck.fitW_nonneg ps
      rw [hW] at hW0
      rw [hO, hN, hD] at ht
      obtain ⟨x, hx⟩ : ∃ x, (Ck.fstP ps).1 = x := ⟨_, rfl⟩
      obtain ⟨y, hy⟩ : ∃ y, (Ck.fstP ps).2 = y := ⟨_, rfl⟩
      obtain ⟨x', hx'⟩ : ∃ x, (Ck.lstP ps).1 = x := ⟨_, rfl⟩
      obtain ⟨y', hy'⟩ : ∃ y, (Ck.lstP ps).2 = y := ⟨_, rfl⟩
      rw [hx, hy, hx', hy'] at ht
      have HT := Lib.hid ht
      rw [HM.out] at h2
      obtain ⟨A1, c1, eA, _, hcell⟩ := HP3.out
      rw [HM.out] at eA hcell
      obtain ⟨b, off, rfl, hb, hrow⟩ := hcell (by omega)
      injection eA with e1 e2 e3
      subst e1
      subst e3
      clear e2
      have hr1 := hrow 0 (by omega)
      have hr2 := hrow (m - 1) (by omega)
      rw [show ps.getD 0 (0, 0) = Ck.fstP ps from rfl, hx, hy] at hr1
      rw [show ps.getD (m - 1) (0, 0) = Ck.lstP ps by unfold Ck.lstP; rw [HM.out], hx', hy'] at hr2
      obtain ⟨r1, r2⟩ := hr1
      obtain ⟨r3, r4⟩ := hr2
      simp only [Nat.zero_mul, Nat.add_zero] at r1 r2
      obtain ⟨j, hj⟩ : ∃ j, m - 1 = j := ⟨_, rfl⟩
      have hw1 : IntKind.i64.wrap ((m : Int) - 1) = (j : Int) := by rw [IntWalk.i64_in _ (by omega)]; omega
      rw [hj] at r3 r4
      have hki : (j : Int) < (m : Int) := by omega
      have hkz : (0 : Int) < (m : Int) := by omega
      have hbn : ¬ b = W3.heap.size := by omega
      have hbm : b < W3.heap.size + 1 := by omega
      have hbo : ¬ b = W3.heap.size + 1 := by omega
      have hkp : 0 < m := by omega
      have hkj : j < m := by omega
      clear hj hx hy hx' hy' hO hN hD hW ht hrow hcell hu
      have HZ := Lib.hid (And.intro z4 (And.intro z0 (And.intro z1 z2)))
      clear z0 z1 z2 z4
      go_wp2_with fail
      go_cut [10, 11] (fun p q wx => ∃ g h : Nat, p = .pointer (some ⟨g, 0, none⟩) ∧ q = .pointer (some ⟨h, 0, none⟩) ∧ g < wx.heap.size ∧ h < wx.heap.size ∧ wx.cell? ⟨g, 0, none⟩ = some (.int .i64 x) ∧ wx.cell? ⟨g, 1, none⟩ = some (.int .i64 y) ∧ wx.cell? ⟨h, 0, none⟩ = some (.int .i64 x') ∧ wx.cell? ⟨h, 1, none⟩ = some (.int .i64 y') ∧ Below W3.heap.size W3 wx)
      case first =>
        go_region
        all_goals go_wp2_with fail
        all_goals go_meet
        all_goals exact ⟨_, _, rfl, rfl, by (simp; try omega), by (simp; try omega), by simp [go_sem], by simp [go_sem], by simp [go_sem], by simp [go_sem], two_new (Below.refl _ _) (Nat.le_refl _)⟩
      case rest =>
        obtain ⟨g, h, rfl, rfl, g0, h0, c0, c1, c2, c3, hF⟩ := hcut
        have HTw : Hid (Two W3 db g h O N D x y x' y' wc) := Lib.hid ⟨g0, h0, Nat.lt_of_lt_of_le HZ.out.1 hF.size, c0, c1, c2, c3, (hF.cell (by exact HZ.out.1)).trans HZ.out.2.1, (hF.cell (by exact HZ.out.1)).trans HZ.out.2.2.1, (hF.cell (by exact HZ.out.1)).trans HZ.out.2.2.2, hF⟩
        clear r1 r2 r3 r4 hbn hbm hbo c0 c1 c2 c3 hF g0 h0
        obtain ⟨-, -, -, c0, -, c2, -, c4, c5, c6, -⟩ := HTw.out
        have tok : True := trivial
        go_wp2_with (first | (go_at_call 13; have _t := tok; refine (time_ok O N D x y _ ⟨HT.out.1, HT.out.2.1⟩).mono ?_; rintro e w4 ⟨rfl, hb4⟩; clear tok c0 c2 c4 c5 c6; have HT4 := Lib.hid (HTw.out.on hb4); clear hb4; obtain ⟨-, -, -, -, -, c2, -, c4, c5, c6, -⟩ := HT4.out) | (go_at_call 13; refine (time_ok O N D x' y' _ ⟨HT.out.2.2.1, HT.out.2.2.2⟩).mono ?_; rintro e w5 ⟨rfl, hb5⟩; clear c2 c4 c5 c6; have HT5 := Lib.hid (HT4.out.on hb5); clear hb5; obtain ⟨-, -, -, -, c1, -, c3, -, -, -, -⟩ := HT5.out))
        go_meet
        exact Lib.hid ⟨HY.out.1.trans (HT5.out.bl.mono (by have := HY.out.2.1; omega)), Nat.lt_of_lt_of_le HY.out.2.1 HT5.out.bl.size, (HT5.out.bl.cell (by exact HY.out.2.1)).trans HY.out.2.2.1, (HT5.out.bl.cell (by exact HY.out.2.1)).trans HY.out.2.2.2.1, (HT5.out.bl.cell (by exact HY.out.2.1)).trans HY.out.2.2.2.2⟩
    · go_wp2_with fail
      go_meet
      exact Lib.hid HY.out
  case rest =>
    obtain ⟨HB, y3, y0, y1, y2⟩ := hcut.out
    have HB := Lib.hid HB
    clear hb0 HP1 HF HE HD HP HM hcut
    by_cases hk : Ck.okc o n d = true
    · have HK := Lib.hid hk
      clear hk
      rcases Nat.lt_or_ge L 2 with hL | hL
      · have hL' : (L : Int) < 2 := by omega
        go_wp2_with (first | (go_at_call 17; refine (check_ok o n d _ HK.out).mono ?_; rintro e w6 ⟨rfl, hb6⟩; have HB6 := Lib.hid (below_on HB.out hb6); clear hb6) | (go_at_call 12; refine (awake_true _).mono ?_; rintro e w7 ⟨rfl, hb7⟩; have HB7 := Lib.hid (below_on HB6.out hb7); clear hb7))
        go_ret
        exact ⟨rfl, HB7.out⟩
      · rcases Nat.lt_or_ge 1024 L with hL2 | hL2
        · have hL' : (1024 : Int) < (L : Int) := by omega
          have hL3 : ¬ (L : Int) < 2 := by omega
          go_wp2_with (first | (go_at_call 17; refine (check_ok o n d _ HK.out).mono ?_; rintro e w6 ⟨rfl, hb6⟩; have HB6 := Lib.hid (below_on HB.out hb6); clear hb6) | (go_at_call 12; refine (awake_true _).mono ?_; rintro e w7 ⟨rfl, hb7⟩; have HB7 := Lib.hid (below_on HB6.out hb7); clear hb7))
          go_ret
          exact ⟨rfl, HB7.out⟩
        · have hL3 : ¬ (1024 : Int) < (L : Int) := by omega
          have hL4 : ¬ (L : Int) < 2 := by omega
          obtain ⟨b, off, rfl, hb, hrow⟩ := HKS.out hL
          have HR := Lib.hid hrow
          have HYY := Lib.hid (And.intro y3 (And.intro y0 (And.intro y1 y2)))
          clear hrow HKS
          go_wp2_with (first | (go_at_call 17; refine (check_ok o n d _ HK.out).mono ?_; rintro e w6 ⟨rfl, hb6⟩; have HB6 := Lib.hid (below_on (Below.refl _ _) hb6); clear hb6 y0 y1 y2 y3) | (go_at_call 12; refine (awake_true _).mono ?_; rintro e w7 ⟨rfl, hb7⟩; have HB7 := Lib.hid (below_on HB6.out hb7); clear hb7))
          obtain ⟨n0, n1, d0, d1, o0, o1⟩ := Ck.okc_iff.1 HK.out
          have HBx : Hid (Below wc.heap.size wc w7) := HB7
          have q3 : w.heap.size < w7.heap.size := Nat.lt_of_lt_of_le HYY.out.1 HBx.out.size
          have HQ : Hid (w7.cell? ⟨w.heap.size, 0, none⟩ = some (.int .i64 o) ∧ w7.cell? ⟨w.heap.size, 1, none⟩ = some (.int .i64 n) ∧ w7.cell? ⟨w.heap.size, 2, none⟩ = some (.int .i64 d)) := Lib.hid
            ⟨(HBx.out.cell (by exact HYY.out.1)).trans HYY.out.2.1, (HBx.out.cell (by exact HYY.out.1)).trans HYY.out.2.2.1, (HBx.out.cell (by exact HYY.out.1)).trans HYY.out.2.2.2⟩
          have HW : Hid (Below w.heap.size w w7) := Lib.hid (below_on HB.out HBx.out)
          clear HB HB6 HB7 HBx HYY
          go_loopw [16, 17, 99] (fun mv nv i wr => ∃ t : Nat, t ≤ L ∧ i = .int .i64 (t : Int) ∧ nv = .int .i64 (Ck.sumK zs t * d) ∧ Hid (wr.ownsRow w7.heap.size 47 2 mv (Ck.madeL o n d zs t).length (flat (Ck.madeL o n d zs t))) ∧ Hid (Below w7.heap.size w7 wr) ∧ Hid (∀ j, j < t → Ck.inT (o + Ck.sumK zs (j + 1) * n) = true)) (fun _ _ i _ => L - (intOf i).toNat)
          case atStart => exact ⟨0, by omega, rfl, by simp [Ck.sumK], Lib.hid (World.ownsRow_nil _ _ _ _), Lib.hid (Below.refl _ _), Lib.hid (fun j hj => by omega)⟩
          case round =>
            obtain ⟨t, ht, rfl, rfl, hown, hbw, hin⟩ := hrel
            have y0 : wr.cell? ⟨w.heap.size, 0, none⟩ = some (.int .i64 o) := (hbw.out.cell (by exact q3)).trans HQ.out.1
            have y1 : wr.cell? ⟨w.heap.size, 1, none⟩ = some (.int .i64 n) := (hbw.out.cell (by exact q3)).trans HQ.out.2.1
            have y2 : wr.cell? ⟨w.heap.size, 2, none⟩ = some (.int .i64 d) := (hbw.out.cell (by exact q3)).trans HQ.out.2.2
            have y3 : w.heap.size < wr.heap.size := Nat.lt_of_lt_of_le q3 hbw.out.size
            have HWr : Hid (Below w.heap.size w wr) := Lib.hid (below_on HW.out hbw.out)
            by_cases hlt : t < L
            · obtain ⟨hcell, z0, z1⟩ := HR.out t hlt
              have hcell := (HWr.out.cell (by exact hb)).trans hcell
              obtain ⟨z, hz⟩ : ∃ z, zs t = z := ⟨_, rfl⟩
              rw [hz] at hcell z0 z1
              obtain ⟨X, hX⟩ : ∃ X, Ck.sumK zs t * d = X := ⟨_, rfl⟩
              have hs0 := Ck.sumK_count (zs := zs) (t := t) (by omega) d0 d1
              have hs1 := Ck.sumK_count (zs := zs) (t := t + 1) (by omega) d0 d1
              obtain ⟨k, hkk⟩ : ∃ k, Ck.clampK z = k := ⟨_, rfl⟩
              have hkb := Ck.clampK_bd z
              rw [hkk] at hkb
              obtain ⟨Y, hY⟩ : ∃ Y, k * d = Y := ⟨_, rfl⟩
              have hXY : Ck.sumK zs (t + 1) * d = X + Y := by simp only [Ck.sumK]; rw [hz, hkk, Int.add_mul, hX, hY]
              have hY0 : 0 ≤ Y ∧ Y ≤ 1000000000000 := by
                rw [← hY]
                refine ⟨Int.mul_nonneg (by omega) (by omega), ?_⟩
                have h1 : k * d ≤ 1000 * d := Int.mul_le_mul_of_nonneg_right hkb.2 (by omega)
                omega
              rw [hX] at hs0
              rw [hXY] at hs1
              obtain ⟨T, hT⟩ : ∃ T, o + Ck.sumK zs (t + 1) * n = T := ⟨_, rfl⟩
              have hdiv : o + (X + Y) * n / d = T := by rw [← hXY, Ck.made_at_div d0, hT]
              have HT := Lib.hid (And.intro hT (And.intro hdiv (And.intro hXY (And.intro hX hY))))
              have HZK := Lib.hid (And.intro hz hkk)
              rw [hX]
              clear hz hX hkk hXY hT hdiv hY
              obtain ⟨s0, s1⟩ := hs0
              obtain ⟨s2, s3⟩ := hs1
              obtain ⟨k0, k1⟩ := hkb
              obtain ⟨Y0, Y1⟩ := hY0
              have hki : (t : Int) < (L : Int) := by omega
              have hti : Ck.inT (X + Y) = true := Ck.inT_iff.2 ⟨by omega, by omega⟩
              by_cases iT : Ck.inT T = true
              · have IT := Lib.hid iT
                have hc := fun W => time_ok o n d (X + Y) T W ⟨Ck.timeOk_iff.2 ⟨HK.out, hti, by rw [HT.out.2.1]; exact iT⟩, HT.out.2.1⟩
                have HC := Lib.hid hc
                clear hc iT hti
                by_cases h1 : z < 1
                · have hK1 : k = 1 := by have := HZK.out.2; unfold Ck.clampK at this; rw [if_pos (by omega)] at this; exact this.symm
                  have hYd : d = Y := by have := HT.out.2.2.2.2; rw [hK1, Int.one_mul] at this; exact this
                  subst hYd
                  clear hK1
                  go_wp2_with (first | (at_builtin; refine wpList_append_pair _ rfl _ _ rfl w7.heap.size _ (Ck.madeL o n d zs t) rfl HO8.out _ (X + d) T rfl (by simp [go_sem]) (by simp [go_sem]) (by rw [Ck.madeL_length]; omega) HS8.out ?_; intro v9 w9 hown9 hb9; have HO9 := Lib.hid hown9; have HB9 := Lib.hid hb9; clear hown9 hb9) | (go_at_call 13; refine (HC.out _).mono ?_; rintro e w8 ⟨rfl, hb8⟩; have HO8 := Lib.hid ((own_below hown.out hb8).alloc (.cells #[.int .i64 (X + d), .int .i64 T] 47)); have HB8 := Lib.hid ((below_on hbw.out hb8).alloc (by have := hbw.out.size; have := hb8.size; omega) (.cells #[.int .i64 (X + d), .int .i64 T] 47)); have HS8 : Hid (w7.heap.size ≤ (w8.alloc (.cells #[.int .i64 (X + d), .int .i64 T] 47)).heap.size) := Lib.hid HB8.out.size; clear hb8 y0 y1 y2))
                  go_roundw
                  case rel => exact ⟨t + 1, by omega, by go_num, by rw [HT.out.2.2.1], Lib.hid (by rw [Ck.madeL_succ]; have := HO9.out; rw [show Ck.madeP o n d zs t = (X + d, T) by unfold Ck.madeP; rw [HT.out.2.2.1, HT.out.1]]; exact this), Lib.hid (HB8.out.trans HB9.out), Lib.hid (fun j hj => by
                    rcases Nat.lt_or_ge j t with h | h
                    · exact hin.out j h
                    · rw [show j = t by omega, HT.out.1]; exact IT.out)⟩
                  case measure => simp [intOf]; omega
                · by_cases h2 : 1000 < z
                  · have hK1 : k = 1 := by have := HZK.out.2; unfold Ck.clampK at this; rw [if_pos (by omega)] at this; exact this.symm
                    have hYd : d = Y := by have := HT.out.2.2.2.2; rw [hK1, Int.one_mul] at this; exact this
                    subst hYd
                    clear hK1
                    go_wp2_with (first | (at_builtin; refine wpList_append_pair _ rfl _ _ rfl w7.heap.size _ (Ck.madeL o n d zs t) rfl HO8.out _ (X + d) T rfl (by simp [go_sem]) (by simp [go_sem]) (by rw [Ck.madeL_length]; omega) HS8.out ?_; intro v9 w9 hown9 hb9; have HO9 := Lib.hid hown9; have HB9 := Lib.hid hb9; clear hown9 hb9) | (go_at_call 13; refine (HC.out _).mono ?_; rintro e w8 ⟨rfl, hb8⟩; have HO8 := Lib.hid ((own_below hown.out hb8).alloc (.cells #[.int .i64 (X + d), .int .i64 T] 47)); have HB8 := Lib.hid ((below_on hbw.out hb8).alloc (by have := hbw.out.size; have := hb8.size; omega) (.cells #[.int .i64 (X + d), .int .i64 T] 47)); have HS8 : Hid (w7.heap.size ≤ (w8.alloc (.cells #[.int .i64 (X + d), .int .i64 T] 47)).heap.size) := Lib.hid HB8.out.size; clear hb8 y0 y1 y2))
                    go_roundw
                    case rel => exact ⟨t + 1, by omega, by go_num, by rw [HT.out.2.2.1], Lib.hid (by rw [Ck.madeL_succ]; have := HO9.out; rw [show Ck.madeP o n d zs t = (X + d, T) by unfold Ck.madeP; rw [HT.out.2.2.1, HT.out.1]]; exact this), Lib.hid (HB8.out.trans HB9.out), Lib.hid (fun j hj => by
                      rcases Nat.lt_or_ge j t with h | h
                      · exact hin.out j h
                      · rw [show j = t by omega, HT.out.1]; exact IT.out)⟩
                    case measure => simp [intOf]; omega
                  · have hKz : k = z := by have := HZK.out.2; unfold Ck.clampK at this; rw [if_neg (by omega)] at this; exact this.symm
                    subst hKz
                    have hYd : Y = k * d := HT.out.2.2.2.2.symm
                    subst hYd
                    go_wp2_with (first | (at_builtin; refine wpList_append_pair _ rfl _ _ rfl w7.heap.size _ (Ck.madeL o n d zs t) rfl HO8.out _ (X + k * d) T rfl (by simp [go_sem]) (by simp [go_sem]) (by rw [Ck.madeL_length]; omega) HS8.out ?_; intro v9 w9 hown9 hb9; have HO9 := Lib.hid hown9; have HB9 := Lib.hid hb9; clear hown9 hb9) | (go_at_call 13; refine (HC.out _).mono ?_; rintro e w8 ⟨rfl, hb8⟩; have HO8 := Lib.hid ((own_below hown.out hb8).alloc (.cells #[.int .i64 (X + k * d), .int .i64 T] 47)); have HB8 := Lib.hid ((below_on hbw.out hb8).alloc (by have := hbw.out.size; have := hb8.size; omega) (.cells #[.int .i64 (X + k * d), .int .i64 T] 47)); have HS8 : Hid (w7.heap.size ≤ (w8.alloc (.cells #[.int .i64 (X + k * d), .int .i64 T] 47)).heap.size) := Lib.hid HB8.out.size; clear hb8 y0 y1 y2))
                    go_roundw
                    case rel => exact ⟨t + 1, by omega, by go_num, by rw [HT.out.2.2.1], Lib.hid (by rw [Ck.madeL_succ]; have := HO9.out; rw [show Ck.madeP o n d zs t = (X + k * d, T) by unfold Ck.madeP; rw [HT.out.2.2.1, HT.out.1]]; exact this), Lib.hid (HB8.out.trans HB9.out), Lib.hid (fun j hj => by
                      rcases Nat.lt_or_ge j t with h | h
                      · exact hin.out j h
                      · rw [show j = t by omega, HT.out.1]; exact IT.out)⟩
                    case measure => simp [intOf]; omega
              · have IT : Hid (Ck.inT T = false) := Lib.hid (by simpa using iT)
                have hc := fun W => time_no o n d (X + Y) W (by
                  rw [← Bool.not_eq_true]
                  intro hh
                  have := (Ck.timeOk_iff.1 hh).2.2
                  rw [HT.out.2.1, IT.out] at this
                  cases this)
                rw [HK.out] at hc
                simp only [if_true] at hc
                have HC := Lib.hid hc
                clear hc iT hti
                by_cases h1 : z < 1
                · have hK1 : k = 1 := by have := HZK.out.2; unfold Ck.clampK at this; rw [if_pos (by omega)] at this; exact this.symm
                  have hYd : d = Y := by have := HT.out.2.2.2.2; rw [hK1, Int.one_mul] at this; exact this
                  subst hYd
                  clear hK1
                  go_wp2_with (go_at_call 13; refine (HC.out _).mono ?_; rintro e w8 ⟨rfl, hb8⟩; have HB8 := Lib.hid (below_on HWr.out hb8); clear hb8)
                  go_ret
                  exact ⟨rfl, HB8.out⟩
                · by_cases h2 : 1000 < z
                  · have hK1 : k = 1 := by have := HZK.out.2; unfold Ck.clampK at this; rw [if_pos (by omega)] at this; exact this.symm
                    have hYd : d = Y := by have := HT.out.2.2.2.2; rw [hK1, Int.one_mul] at this; exact this
                    subst hYd
                    clear hK1
                    go_wp2_with (go_at_call 13; refine (HC.out _).mono ?_; rintro e w8 ⟨rfl, hb8⟩; have HB8 := Lib.hid (below_on HWr.out hb8); clear hb8)
                    go_ret
                    exact ⟨rfl, HB8.out⟩
                  · have hKz : k = z := by have := HZK.out.2; unfold Ck.clampK at this; rw [if_neg (by omega)] at this; exact this.symm
                    subst hKz
                    have hYd : Y = k * d := HT.out.2.2.2.2.symm
                    subst hYd
                    go_wp2_with (go_at_call 13; refine (HC.out _).mono ?_; rintro e w8 ⟨rfl, hb8⟩; have HB8 := Lib.hid (below_on HWr.out hb8); clear hb8)
                    go_ret
                    exact ⟨rfl, HB8.out⟩
            · have htL : t = L := by omega
              subst htL
              obtain ⟨N, hN⟩ : ∃ N, Ck.fitN (Ck.fstP (Ck.madeL o n d zs t)) (Ck.lstP (Ck.madeL o n d zs t)) = N := ⟨_, rfl⟩
              obtain ⟨D, hD⟩ : ∃ D, Ck.fitD (Ck.fstP (Ck.madeL o n d zs t)) (Ck.lstP (Ck.madeL o n d zs t)) = D := ⟨_, rfl⟩
              have hfit : fitR (Ck.madeL o n d zs t) = .tuple #[.agg #[.int .i64 o, .int .i64 N, .int .i64 D], .int .i64 0, .int .i64 0] := by
                unfold fitR
                rw [if_pos (Ck.made_e HK.out hL hL2 hin.out), Ck.made_o HK.out hL, hN, hD, Ck.made_w HK.out hL]
                rfl
              have hfound := Ck.made_found (zs := zs) HK.out hL
              have hline := Ck.made_line (zs := zs) HK.out hL
              have hrl := Ck.rate_le n0 d0
              rw [← hline.1, ← hline.2, hN, hD] at hrl
              rw [hN, hD] at hfound
              obtain ⟨r0, r1, r2, r3⟩ := hrl
              have p0 := mul_bd r0 (by omega) d0 d1
              have p1 := mul_bd n0 n1 r2 (by omega)
              obtain ⟨p0, p2⟩ := p0
              obtain ⟨p1, p3⟩ := p1
              have HFR := Lib.hid hfit
              have HFO := Lib.hid hfound
              clear hN hD hfit hfound hline
              go_wp2_with (go_at_call 20; refine (fit_is HFR.out (Prs.of_own hown.out)).mono ?_; rintro e w8 ⟨rfl, hb8⟩; have z1 := (hb8.cell (p := ⟨w.heap.size, 1, none⟩) y3).trans y1; have z2 := (hb8.cell (p := ⟨w.heap.size, 2, none⟩) y3).trans y2; have z3 : w.heap.size < w8.heap.size := Nat.lt_of_lt_of_le y3 hb8.size; have HB8 := Lib.hid (below_on HWr.out hb8); clear hb8 y0 y1 y2)
              go_ret
              exact ⟨by rw [HFO.out]; simp, HB8.out.alloc (by omega) _⟩
    · have hk' : Ck.okc o n d = false := by simpa using hk
      have HK := Lib.hid hk'
      clear hk hk'
      go_wp2_with (first | (go_at_call 17; refine (check_bad o n d _ HK.out).mono ?_; rintro e w6 ⟨rfl, hb6⟩; have HB6 := Lib.hid (below_on HB.out hb6); clear hb6) | (go_at_call 12; refine (awake_true _).mono ?_; rintro e w7 ⟨rfl, hb7⟩; have HB7 := Lib.hid (below_on HB6.out hb7); clear hb7))
      go_ret
      exact ⟨rfl, HB7.out⟩
end Go.Proofs.Ytiohemofidphjaa
