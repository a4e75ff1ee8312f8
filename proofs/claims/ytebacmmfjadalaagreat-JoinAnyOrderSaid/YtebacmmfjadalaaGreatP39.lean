/- Q5 Q8 in one text. -/
import Derived.Test.YtebacmmfjadalaaGreatP38

namespace Go.Proofs.YtebacmmfjadalaaGreat.Bg
open Go Go.RowKit

def cmpN (m n : Nat) : Int := if m < n then -1 else if n < m then 1 else 0

/-- comparing word lists -/
theorem drewN3 (w : World) (a b c : Nat) : ((w.drewN a).drewN b).drewN c = w.drewN (a + b + c) := by rw [World.drewN_drewN, World.drewN_drewN, Nat.add_assoc]
/-- a quiet call in a region that stands behind another quiet region -/
theorem quiet_more {P : Program} {f : FuncId} {args : Array Value} {w : World} {a n : Nat} {v : Value}
    (h : Calls P f args (w.drewN (a + n)) fun e w' => e = .returned v ∧ ∃ m, w' = (w.drewN (a + n)).drewN m) :
    Calls P f args (w.drewN (a + n)) fun e w'' => e = .returned v ∧ ∃ m, w'' = w.drewN (a + m) :=
  h.mono fun _ _ ⟨he, m, hm⟩ => ⟨he, n + m, by rw [hm, World.drewN_drewN, Nat.add_assoc]⟩
def CmpSt (a b : List Nat) (k : Nat) : Prop := a.drop k = b.drop k

theorem cmp_case_lt {a b : List Nat} {k : Nat} (wa : W32 a) (hl : a.length = b.length) (hk : k ≤ a.length) (h0 : ¬ k = 0) (he : CmpSt a b k) (h : a.getD (k - 1) 0 < b.getD (k - 1) 0) : -1 = cmpN (val a) (val b) := by
  have := cmp_lt wa (k := k - 1) hl (by omega) (by rw [show k - 1 + 1 = k by omega]; exact he) h
  simp [cmpN, this]
theorem cmp_case_gt {a b : List Nat} {k : Nat} (wb : W32 b) (hl : a.length = b.length) (hk : k ≤ a.length) (h0 : ¬ k = 0) (he : CmpSt a b k) (h : b.getD (k - 1) 0 < a.getD (k - 1) 0) : 1 = cmpN (val a) (val b) := by
  have := cmp_lt wb (k := k - 1) hl.symm (by omega) (by rw [show k - 1 + 1 = k by omega]; exact he.symm) h
  simp [cmpN, this]; omega
theorem cmp_case_eq {a b : List Nat} {k : Nat} (hl : a.length = b.length) (hk : k ≤ a.length) (h0 : ¬ k = 0) (he : CmpSt a b k) (h : a.getD (k - 1) 0 = b.getD (k - 1) 0) : CmpSt a b (k - 1) :=
  drop_step hl (by omega) (by rw [show k - 1 + 1 = k by omega]; exact he) h

set_option maxHeartbeats 1000000 in
theorem compare_core (A B : Option Addr) (ca cb : Nat) (a b : List Nat) (w : World) (ha : Mag w (.slice A a.length ca) a) (hb : Mag w (.slice B b.length cb) b) (na : Norm a) (nb : Norm b) (hla : a.length ≤ 1099511627776) (hlb : b.length ≤ 1099511627776) :
    Calls Tryz.prog 66 #[.slice A a.length ca, .slice B b.length cb] w fun e w' => e = .returned (.int .i64 (cmpN (val a) (val b))) ∧ ∃ n, w' = w.drewN n := by
  obtain ⟨A', c', h1, -, -, wa, ha5⟩ := ha
  obtain ⟨B', d', g1, -, -, wb, hb5⟩ := hb
  injection h1 with h1 _ h6
  injection g1 with g1 _ g6
  subst h1 h6 g1 g6
  obtain ⟨n, hn⟩ : ∃ n, a.length = n := ⟨_, rfl⟩
  obtain ⟨m, hm⟩ : ∃ m, b.length = m := ⟨_, rfl⟩
  rw [hn] at ha5 hla ⊢
  rw [hm] at hb5 hlb ⊢
  by_cases c1 : n < m
  · have hv : cmpN (val a) (val b) = -1 := by have := norm_len_lt wa nb (by omega); simp [cmpN, this]
    rw [hv]
    clear ha5 hb5 hv hn hm
    have hne : ((n : Int) != (m : Int)) = true := by simp; omega
    go_enter Tryz.func66, Tryz.ntmps66
    go_wp2_with fail
    go_ret
    exact ⟨rfl, 0, rfl⟩
  · by_cases c2 : m < n
    · have hv : cmpN (val a) (val b) = 1 := by have := norm_len_lt wb na (by omega); simp [cmpN, this]; omega
      rw [hv]
      clear ha5 hb5 hv hn hm
      have hne : ((n : Int) != (m : Int)) = true := by simp; omega
      go_enter Tryz.func66, Tryz.ntmps66
      go_wp2_with fail
      go_ret
      exact ⟨rfl, 0, rfl⟩
    · obtain rfl : n = m := by omega
      have H1 := Lib.hid ha5
      have H2 := Lib.hid hb5
      have HN := Lib.hid (And.intro hn hm)
      have HE := Lib.hid (And.intro (show CmpSt a b n by unfold CmpSt; rw [List.drop_of_length_le (by omega), List.drop_of_length_le (by omega)]) (And.intro wa wb))
      clear ha5 hb5 hn hm wa wb na nb c1 c2
      go_enter Tryz.func66, Tryz.ntmps66
      go_wp2_with fail
      go_loopw [5] (fun v wr => ∃ k : Nat, k ≤ n ∧ v = .int .i64 ((k : Int) - 1) ∧ Hid (CmpSt a b k) ∧ ∃ j, wr = w.drewN j) (fun v _ => (intOf v + 1).toNat)
      case atStart => exact ⟨n, Nat.le_refl _, rfl, HE.out.1, 0, rfl⟩
      case round =>
        obtain ⟨k, hk, rfl, he, j, rfl⟩ := hrel
        by_cases h0 : k = 0
        · subst h0
          have hv : val a = val b := by have := he.out; unfold CmpSt at this; simpa using congrArg val this
          go_wp2_with fail
          go_ret
          exact ⟨by simp [cmpN, hv], j, rfl⟩
        · obtain ⟨b1, o1, rfl, hb1, hc1⟩ := H1.out (by omega)
          obtain ⟨b2, o2, rfl, hb2, hc2⟩ := H2.out (by omega)
          have hx := hc1 (k - 1) (by omega)
          have hy := hc2 (k - 1) (by omega)
          obtain ⟨x, ex⟩ : ∃ x, a.getD (k - 1) 0 = x := ⟨_, rfl⟩
          obtain ⟨y, ey⟩ : ∃ y, b.getD (k - 1) 0 = y := ⟨_, rfl⟩
          rw [ex] at hx
          rw [ey] at hy
          have EX := Lib.hid (And.intro ex ey)
          clear ex ey hc1 hc2
          have hk0 : (0 : Int) ≤ (k : Int) - 1 := by omega
          have hkn : (k : Int) - 1 < (n : Int) := by omega
          have hix : ((k : Int) - 1).toNat = k - 1 := by omega
          by_cases c1 : x < y
          · go_wp2_with fail
            go_quiet (fail)
            go_wp2_with fail
            go_ret
            exact ⟨congrArg Ending.returned (int_eq (cmp_case_lt HE.out.2.1 (HN.out.1.trans HN.out.2.symm) (by have := HN.out.1; omega) h0 he.out (by rw [EX.out.1, EX.out.2]; exact c1))), _, World.drewN_drewN _ _ _⟩
          · by_cases c2 : y < x
            · go_wp2_with fail
              go_quiet (fail)
              go_wp2_with fail
              go_quiet (fail)
              go_wp2_with fail
              go_ret
              exact ⟨congrArg Ending.returned (int_eq (cmp_case_gt HE.out.2.2 (HN.out.1.trans HN.out.2.symm) (by have := HN.out.1; omega) h0 he.out (by rw [EX.out.1, EX.out.2]; exact c2))), _, drewN3 _ _ _ _⟩
            · go_wp2_with fail
              go_quiet (fail)
              go_wp2_with fail
              go_quiet (fail)
              go_wp2_with fail
              go_roundw
              case rel => exact ⟨k - 1, by omega, int_eq (by omega), cmp_case_eq (HN.out.1.trans HN.out.2.symm) (by have := HN.out.1; omega) h0 he.out (by rw [EX.out.1, EX.out.2]; omega), _, rfl⟩
              case measure => simp [intOf]; omega

/-- compare: of two magnitudes -/
theorem compare_any (u v : Value) (m n L : Nat) (w : World) (hu : MagN w u m L) (hv : MagN w v n L) (hL : L ≤ 1099511627776) :
    Calls Tryz.prog 66 #[u, v] w fun e w' => e = .returned (.int .i64 (cmpN m n)) ∧ ∃ j, w' = w.drewN j := by
  obtain ⟨a, h1, h2, rfl, h4⟩ := hu
  obtain ⟨b, g1, g2, rfl, g4⟩ := hv
  have h1' := h1
  have g1' := g1
  obtain ⟨A, ca, rfl, -⟩ := h1
  obtain ⟨B, cb, rfl, -⟩ := g1
  exact compare_core A B ca cb a b w h1' g1' h2 g2 (by omega) (by omega)

def cmpI (x y : Int) : Int := if x < y then -1 else if y < x then 1 else 0

theorem cmp_pp {x y : Int} {m n : Nat} (hx : x = if false = true then -(m : Int) else (m : Int)) (hy : y = if false = true then -(n : Int) else (n : Int)) : cmpN m n = cmpI x y := by
  simp at hx hy; subst hx hy; unfold cmpN cmpI; (repeat' split) <;> omega
theorem cmp_nn {x y : Int} {m n : Nat} (hx : x = if true = true then -(m : Int) else (m : Int)) (hy : y = if true = true then -(n : Int) else (n : Int)) : -cmpN m n = cmpI x y := by
  simp at hx hy; subst hx hy; unfold cmpN cmpI; (repeat' split) <;> omega
theorem cmp_pn {x y : Int} {m n : Nat} (hx : x = if false = true then -(m : Int) else (m : Int)) (hy : y = if true = true then -(n : Int) else (n : Int)) (hn : n ≠ 0) : 1 = cmpI x y := by
  simp at hx hy; subst hx hy; unfold cmpI; (repeat' split) <;> omega
theorem cmp_np {x y : Int} {m n : Nat} (hx : x = if true = true then -(m : Int) else (m : Int)) (hy : y = if false = true then -(n : Int) else (n : Int)) (hm : m ≠ 0) : -1 = cmpI x y := by
  simp at hx hy; subst hx hy; unfold cmpI; (repeat' split) <;> omega

set_option maxHeartbeats 1000000 in
/-- Cmp: of two whole numbers -/
theorem Cmp_any (p q : Addr) (x y : Int) (L : Nat) (w : World) (hp : IntAt w p x L) (hq : IntAt w q y L) (hL : L ≤ 1099511627776) :
    Calls Tryz.prog 51 #[.pointer (some p), .pointer (some q)] w fun e w' => e = .returned (.int .i64 (cmpI x y)) ∧ ∃ j, w' = w.drewN j := by
  obtain ⟨b, off, neg, u, m, rfl, hb, h3, h4, h5, h6, h7⟩ := hp
  obtain ⟨b', off', neg', v, n, rfl, hb', g3, g4, g5, g6, g7⟩ := hq
  have hc := fun (W : World) (hu : MagN W u m L) (hv : MagN W v n L) => compare_any u v m n L W hu hv hL
  have HC := Lib.hid hc
  have H5 := Lib.hid h5
  have G5 := Lib.hid g5
  have HX := Lib.hid (And.intro (And.intro h6 h7) (And.intro g6 g7))
  clear hc h5 g5 h6 h7 g6 g7
  have k0 : -1 ≤ cmpN m n := by unfold cmpN; split <;> (try split) <;> omega
  have k1 : cmpN m n ≤ 1 := by unfold cmpN; split <;> (try split) <;> omega
  cases neg <;> cases neg'
  · go_enter Tryz.func51, Tryz.ntmps51
    go_wp2_with fail
    go_quiet (fail)
    go_wp2_with fail
    go_quiet ((go_at_call 66; refine quiet_more (HC.out _ ?_ ?_); exact H5.out; exact G5.out))
    go_wp2_with fail
    go_ret
    exact ⟨congrArg Ending.returned (int_eq (cmp_pp HX.out.1.1 HX.out.2.1)), _, rfl⟩
  · go_enter Tryz.func51, Tryz.ntmps51
    go_wp2_with fail
    go_quiet (fail)
    go_wp2_with fail
    go_ret
    exact ⟨congrArg Ending.returned (int_eq (cmp_pn HX.out.1.1 HX.out.2.1 (HX.out.2.2 trivial))), _, rfl⟩
  · go_enter Tryz.func51, Tryz.ntmps51
    go_wp2_with fail
    go_quiet (fail)
    go_wp2_with fail
    go_ret
    exact ⟨congrArg Ending.returned (int_eq (cmp_np HX.out.1.1 HX.out.2.1 (HX.out.1.2 trivial))), _, rfl⟩
  · go_enter Tryz.func51, Tryz.ntmps51
    go_wp2_with fail
    go_quiet (fail)
    go_wp2_with fail
    go_quiet ((go_at_call 66; refine quiet_more (HC.out _ ?_ ?_); exact H5.out; exact G5.out))
    go_wp2_with fail
    go_ret
    exact ⟨congrArg Ending.returned (int_eq (cmp_nn HX.out.1.1 HX.out.2.1)), _, rfl⟩

/-- append(nil, x.mag...) handed to put: Abs -/
theorem Abs_any (z p : Addr) (x : Int) (L : Nat) (w : World) (hz : Slot w z) (hp : IntAt w p x L) (hL : L ≤ 1099511627776) :
    Calls Tryz.prog 50 #[.pointer (some z), .pointer (some p)] w (Gives w z (x.natAbs : Int) L) := by
  obtain ⟨b, off, neg, u, m, rfl, hb, h3, h4, h5, h6, h7⟩ := hp
  have hm : (m : Int) = (x.natAbs : Int) := by subst h6; cases neg <;> simp
  obtain ⟨ws, g1, g2, g3, g4⟩ := h5
  have G1 := Lib.hid g1
  have G2 := Lib.hid (And.intro g2 (And.intro g3 g4))
  have HZ := Lib.hid hz
  have HM := Lib.hid hm
  clear g1 g2 g3 g4 hz hm h6 h7
  go_enter Tryz.func50, Tryz.ntmps50
  go_wp2_with (at_builtin; refine wpList_append_words w rfl _ _ rfl u ws rfl rfl G1.out (by have := G2.out.2.2; omega) ?_; intro v1 w1 hm1 hb1)
  refine (put_pos z v1 m L _ _ (HZ.out.below hb1) ⟨ws, hm1, G2.out⟩ HM.out.symm).mono ?_
  rintro e w2 hg
  have HG := Lib.hid (hg.of_below hb1)
  obtain ⟨rfl, -, -⟩ := hg
  clear hb1 hm1
  go_wp2_with fail
  go_ret
  exact HG.out
end Go.Proofs.YtebacmmfjadalaaGreat.Bg

namespace Go.Proofs.YtebacmmfjadalaaGreat.Bg
open Go Go.RowKit

/-- what a list of words offers the walk: each word's cell, under its bound -/
theorem Mag.open {w : World} {v : Value} {ws : List Nat} (h : Mag w v ws) : ∃ (A : Option Addr) (c : Nat), v = .slice A ws.length c ∧ ws.length ≤ c ∧ c ≤ 9223372036854775807 := by
  obtain ⟨A, c, h1, h2, h3, -⟩ := h
  exact ⟨A, c, h1, h2, h3⟩
theorem Mag.at {w : World} {A : Option Addr} {n c : Nat} {ws : List Nat} (h : Mag w (.slice A n c) ws) {j : Nat} (hj : j < n) :
    ∃ b off, A = some ⟨b, off, none⟩ ∧ b < w.heap.size ∧ w.cell? ⟨b, off + j, none⟩ = some (.int .u32 (ws.getD j 0 : Nat)) := by
  obtain ⟨A', c', h1, -, -, -, h5⟩ := h
  injection h1 with h1 h2 _
  subst h1 h2
  obtain ⟨b, off, e, hb, hc⟩ := h5 (by omega)
  exact ⟨b, off, e, hb, hc j hj⟩
theorem Mag.len {w : World} {A : Option Addr} {n c : Nat} {ws : List Nat} (h : Mag w (.slice A n c) ws) : n = ws.length := by
  obtain ⟨A', c', h1, -⟩ := h
  injection h1 with _ h1 _

theorem blk_end {w : World} {g k y : Nat} {ws : List Nat} {x : Int} (h : Blk w g ws) (hx : x = (y : Int)) : Blk (w.setCell ⟨g, k, none⟩ (.int .u32 x)) g (ws.set k y) := by
  rw [hx]; exact h.set k y

def PlusSt (w : World) (g n : Nat) (a b : List Nat) (i c : Nat) (wr : World) : Prop :=
  ∃ os, Blk wr g os ∧ os.length = n + 1 ∧ W32 os ∧ SumSt a b os i c ∧ Below g w wr

set_option maxHeartbeats 2000000 in
theorem plus_core (A B : Option Addr) (n m ca cb : Nat) (a b : List Nat) (w : World) (ha : Mag w (.slice A n ca) a) (hb : Mag w (.slice B m cb) b) (hl : n ≤ 1073741824) (hm : m ≤ 1073741824) :
    Calls Tryz.prog 85 #[.slice A n ca, .slice B m cb] w fun e w' => ∃ v L, e = .returned v ∧ MagN w' v (val a + val b) L ∧ L ≤ n + m + 1 ∧ L ≤ (max n m) + 1 ∧ Below w.heap.size w w' := by
  have hla := ha.len
  have hlb := hb.len
  have HA := Lib.hid ha
  have HB := Lib.hid hb
  have HL := Lib.hid (And.intro hla hlb)
  have hmk := fun (k : Nat) (h : k ≤ 1073741825) => run_make_row' (P := Tryz.prog) 48 32 (.int .u32 0) 4 Tryz.underlying48 infoW rfl .i64 .i64 k (by omega) (by omega)
  clear ha hb hla hlb
  by_cases c : n < m
  · have hmk1 := hmk (m + 1) (by omega)
    rw [show (((m + 1 : Nat)) : Int) = (m : Int) + 1 from by omega] at hmk1
    clear hmk
    go_enter Tryz.func85, Tryz.ntmps85
    go_wp2_with fail
    clear hmk1
    have H0 := Lib.hid (show PlusSt w w.heap.size m b a 0 0 (w.alloc (.cells (madeCells #[.int .u32 0] (m + 1)) 32)) from ⟨_, Blk.made w (m + 1), by simp, W32.rep _, by simp [SumSt, val], (Below.refl _ _).alloc (Nat.le_refl _) _⟩)
    go_loopw [7, 8] (fun cy i wr => ∃ k cc : Nat, k ≤ m ∧ i = .int .i64 k ∧ cy = .int .u64 cc ∧ cc ≤ 1 ∧ Hid (PlusSt w w.heap.size m b a k cc wr)) (fun _ i _ => m - (intOf i).toNat)
    case atStart => exact ⟨0, 0, Nat.zero_le _, rfl, rfl, by omega, H0⟩
    case round =>
      obtain ⟨k, cc, hk, rfl, rfl, hcc, hp⟩ := hrel
      by_cases hlt : k < m
      · obtain ⟨os, hbk, hlen, hw, hst, hbel⟩ := hp.out
        have HO := Lib.hid (And.intro hbk (And.intro hlen (And.intro hw (And.intro hst hbel))))
        have hfr : wr.frozen? ⟨w.heap.size, k, none⟩ = false := hbk.frozen k
        obtain ⟨o, ho⟩ : ∃ o, os.getD k 0 = o := ⟨_, rfl⟩
        have hco : wr.cell? ⟨w.heap.size, k, none⟩ = some (.int .u32 (o : Nat)) := by rw [← ho]; exact hbk.cell (by omega)
        obtain ⟨b1, o1, e1, hb1, hc1⟩ := HB.out.at hlt
        subst e1
        have hx := (hbel.cell (p := ⟨b1, o1 + k, none⟩) hb1).trans hc1
        obtain ⟨x, ex⟩ : ∃ x, b.getD k 0 = x := ⟨_, rfl⟩
        have wx := HB.out.w32.get k
        rw [ex] at hx wx
        have EX := Lib.hid ex
        clear hbk hlen hw hst hbel hc1 ex ho hb1
        by_cases hlt2 : k < n
        · obtain ⟨b2, o2, e2, hb2, hc2⟩ := HA.out.at hlt2
          subst e2
          have hbel := HO.out.2.2.2.2
          have hy := (hbel.cell (p := ⟨b2, o2 + k, none⟩) hb2).trans hc2
          obtain ⟨y, ey⟩ : ∃ y, a.getD k 0 = y := ⟨_, rfl⟩
          have wy := HA.out.w32.get k
          rw [ey] at hy wy
          have EY := Lib.hid ey
          clear hbel hc2 ey hb2
          go_wp2_with fail
          go_roundw
          case rel => exact ⟨k + 1, (x + cc + y) / 4294967296, by omega, by go_num, int_eq (by omega), by omega, os.set k ((x + cc + y) % 4294967296), blk_end HO.out.1 (by omega), by rw [List.length_set]; exact HO.out.2.1, HO.out.2.2.1.set (by omega), sum_step HO.out.2.2.2.1 (by have := HO.out.2.1; omega) (by rw [EX.out, EY.out]), HO.out.2.2.2.2.setCell (p := ⟨w.heap.size, k, none⟩) (Nat.le_refl _) _⟩
          case measure => simp [intOf]; omega
        · have hy0 : a.getD k 0 = 0 := by rw [List.getD_eq_getElem?_getD, List.getElem?_eq_none (by have := HL.out.1; omega)]; rfl
          have EY := Lib.hid hy0
          clear hy0
          go_wp2_with fail
          go_roundw
          case rel => exact ⟨k + 1, (x + cc) / 4294967296, by omega, by go_num, int_eq (by omega), by omega, os.set k ((x + cc) % 4294967296), blk_end HO.out.1 (by omega), by rw [List.length_set]; exact HO.out.2.1, HO.out.2.2.1.set (by omega), sum_step HO.out.2.2.2.1 (by have := HO.out.2.1; omega) (by rw [EX.out, EY.out]; omega), HO.out.2.2.2.2.setCell (p := ⟨w.heap.size, k, none⟩) (Nat.le_refl _) _⟩
          case measure => simp [intOf]; omega
      · obtain rfl : k = m := by omega
        obtain ⟨os, hbk, hlen, hw, hst, hbel⟩ := hp.out
        have HO := Lib.hid (And.intro hbk (And.intro hlen (And.intro hw (And.intro hst hbel))))
        have hfr : wr.frozen? ⟨w.heap.size, k, none⟩ = false := hbk.frozen k
        obtain ⟨o, ho⟩ : ∃ o, os.getD k 0 = o := ⟨_, rfl⟩
        have hco : wr.cell? ⟨w.heap.size, k, none⟩ = some (.int .u32 (o : Nat)) := by rw [← ho]; exact hbk.cell (by omega)
        clear hbk hlen hw hst hbel ho
        go_wp2_with fail
        have hms := ((blk_end (k := k) (y := cc) HO.out.1 rfl).mag (HO.out.2.2.1.set (by omega)) (by rw [List.length_set, HO.out.2.1]; omega))
        rw [List.length_set, HO.out.2.1] at hms
        refine (cut_any _ _ _ hms).mono ?_
        rintro e w2 ⟨A2, k2, c2, -, rfl, hm2, rfl⟩
        rw [sum_end HO.out.2.2.2.1 (by have := HL.out.2; omega) (by have := HL.out.1; omega) HO.out.2.1] at hm2
        have HF := Lib.hid (show MagN _ _ _ (k + 1) from hm2.more (by rw [List.length_set, HO.out.2.1]; omega))
        clear hm2 hms
        go_wp2_with fail
        go_ret
        exact ⟨_, k + 1, rfl, (by have h9 := HF.out; rw [Nat.add_comm (val b) (val a)] at h9; exact h9), by omega, by omega, HO.out.2.2.2.2.setCell (p := ⟨w.heap.size, k, none⟩) (Nat.le_refl _) _⟩
  · have hmk1 := hmk (n + 1) (by omega)
    rw [show (((n + 1 : Nat)) : Int) = (n : Int) + 1 from by omega] at hmk1
    clear hmk
    go_enter Tryz.func85, Tryz.ntmps85
    go_wp2_with fail
    clear hmk1
    have H0 := Lib.hid (show PlusSt w w.heap.size n a b 0 0 (w.alloc (.cells (madeCells #[.int .u32 0] (n + 1)) 32)) from ⟨_, Blk.made w (n + 1), by simp, W32.rep _, by simp [SumSt, val], (Below.refl _ _).alloc (Nat.le_refl _) _⟩)
    go_loopw [7, 8] (fun cy i wr => ∃ k cc : Nat, k ≤ n ∧ i = .int .i64 k ∧ cy = .int .u64 cc ∧ cc ≤ 1 ∧ Hid (PlusSt w w.heap.size n a b k cc wr)) (fun _ i _ => n - (intOf i).toNat)
    case atStart => exact ⟨0, 0, Nat.zero_le _, rfl, rfl, by omega, H0⟩
    case round =>
      obtain ⟨k, cc, hk, rfl, rfl, hcc, hp⟩ := hrel
      by_cases hlt : k < n
      · obtain ⟨os, hbk, hlen, hw, hst, hbel⟩ := hp.out
        have HO := Lib.hid (And.intro hbk (And.intro hlen (And.intro hw (And.intro hst hbel))))
        have hfr : wr.frozen? ⟨w.heap.size, k, none⟩ = false := hbk.frozen k
        obtain ⟨o, ho⟩ : ∃ o, os.getD k 0 = o := ⟨_, rfl⟩
        have hco : wr.cell? ⟨w.heap.size, k, none⟩ = some (.int .u32 (o : Nat)) := by rw [← ho]; exact hbk.cell (by omega)
        obtain ⟨b1, o1, e1, hb1, hc1⟩ := HA.out.at hlt
        subst e1
        have hx := (hbel.cell (p := ⟨b1, o1 + k, none⟩) hb1).trans hc1
        obtain ⟨x, ex⟩ : ∃ x, a.getD k 0 = x := ⟨_, rfl⟩
        have wx := HA.out.w32.get k
        rw [ex] at hx wx
        have EX := Lib.hid ex
        clear hbk hlen hw hst hbel hc1 ex ho hb1
        by_cases hlt2 : k < m
        · obtain ⟨b2, o2, e2, hb2, hc2⟩ := HB.out.at hlt2
          subst e2
          have hbel := HO.out.2.2.2.2
          have hy := (hbel.cell (p := ⟨b2, o2 + k, none⟩) hb2).trans hc2
          obtain ⟨y, ey⟩ : ∃ y, b.getD k 0 = y := ⟨_, rfl⟩
          have wy := HB.out.w32.get k
          rw [ey] at hy wy
          have EY := Lib.hid ey
          clear hbel hc2 ey hb2
          go_wp2_with fail
          go_roundw
          case rel => exact ⟨k + 1, (x + cc + y) / 4294967296, by omega, by go_num, int_eq (by omega), by omega, os.set k ((x + cc + y) % 4294967296), blk_end HO.out.1 (by omega), by rw [List.length_set]; exact HO.out.2.1, HO.out.2.2.1.set (by omega), sum_step HO.out.2.2.2.1 (by have := HO.out.2.1; omega) (by rw [EX.out, EY.out]), HO.out.2.2.2.2.setCell (p := ⟨w.heap.size, k, none⟩) (Nat.le_refl _) _⟩
          case measure => simp [intOf]; omega
        · have hy0 : b.getD k 0 = 0 := by rw [List.getD_eq_getElem?_getD, List.getElem?_eq_none (by have := HL.out.2; omega)]; rfl
          have EY := Lib.hid hy0
          clear hy0
          go_wp2_with fail
          go_roundw
          case rel => exact ⟨k + 1, (x + cc) / 4294967296, by omega, by go_num, int_eq (by omega), by omega, os.set k ((x + cc) % 4294967296), blk_end HO.out.1 (by omega), by rw [List.length_set]; exact HO.out.2.1, HO.out.2.2.1.set (by omega), sum_step HO.out.2.2.2.1 (by have := HO.out.2.1; omega) (by rw [EX.out, EY.out]; omega), HO.out.2.2.2.2.setCell (p := ⟨w.heap.size, k, none⟩) (Nat.le_refl _) _⟩
          case measure => simp [intOf]; omega
      · obtain rfl : k = n := by omega
        obtain ⟨os, hbk, hlen, hw, hst, hbel⟩ := hp.out
        have HO := Lib.hid (And.intro hbk (And.intro hlen (And.intro hw (And.intro hst hbel))))
        have hfr : wr.frozen? ⟨w.heap.size, k, none⟩ = false := hbk.frozen k
        obtain ⟨o, ho⟩ : ∃ o, os.getD k 0 = o := ⟨_, rfl⟩
        have hco : wr.cell? ⟨w.heap.size, k, none⟩ = some (.int .u32 (o : Nat)) := by rw [← ho]; exact hbk.cell (by omega)
        clear hbk hlen hw hst hbel ho
        go_wp2_with fail
        have hms := ((blk_end (k := k) (y := cc) HO.out.1 rfl).mag (HO.out.2.2.1.set (by omega)) (by rw [List.length_set, HO.out.2.1]; omega))
        rw [List.length_set, HO.out.2.1] at hms
        refine (cut_any _ _ _ hms).mono ?_
        rintro e w2 ⟨A2, k2, c2, -, rfl, hm2, rfl⟩
        rw [sum_end HO.out.2.2.2.1 (by have := HL.out.1; omega) (by have := HL.out.2; omega) HO.out.2.1] at hm2
        have HF := Lib.hid (show MagN _ _ _ (k + 1) from hm2.more (by rw [List.length_set, HO.out.2.1]; omega))
        clear hm2 hms
        go_wp2_with fail
        go_ret
        exact ⟨_, k + 1, rfl, HF.out, by omega, by omega, HO.out.2.2.2.2.setCell (p := ⟨w.heap.size, k, none⟩) (Nat.le_refl _) _⟩

/-- plus: of two magnitudes -/
theorem plus_any (u v : Value) (m n L : Nat) (w : World) (hu : MagN w u m L) (hv : MagN w v n L) (hL : L ≤ 1073741824) :
    Calls Tryz.prog 85 #[u, v] w fun e w' => ∃ x, e = .returned x ∧ MagN w' x (m + n) (L + 1) ∧ Below w.heap.size w w' := by
  obtain ⟨a, h1, h2, rfl, h4⟩ := hu
  obtain ⟨b, g1, g2, rfl, g4⟩ := hv
  have h1' := h1
  have g1' := g1
  obtain ⟨A, ca, rfl, -⟩ := h1
  obtain ⟨B, cb, rfl, -⟩ := g1
  exact (plus_core A B a.length b.length ca cb a b w h1' g1' (by omega) (by omega)).mono fun e w' ⟨x, L', he, hx, _, hL', hb⟩ => ⟨x, he, hx.more (by omega), hb⟩
end Go.Proofs.YtebacmmfjadalaaGreat.Bg
