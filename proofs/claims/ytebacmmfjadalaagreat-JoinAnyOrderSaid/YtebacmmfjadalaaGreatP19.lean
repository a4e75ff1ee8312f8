/- K7 K8 in one text. -/
import Derived.Test.YtebacmmfjadalaaGreatP18

namespace Go.Proofs.YtebacmmfjadalaaGreat
open Go Go.RowKit

theorem rless_any (a b : Int) (w : World) : Calls Tryz.prog 76 #[.int .i64 a, .int .i64 b] w fun e w' => e = .returned (.int .i64 (cmpO a b)) ∧ w = w' := by
  unfold cmpO
  by_cases h : a < b
  · rw [if_pos h]
    go_enter Tryz.func76, Tryz.ntmps76
    go_wp2
    go_ret
    exact ⟨rfl, rfl⟩
  · rw [if_neg h]
    by_cases h2 : b < a
    · rw [if_pos h2]
      go_enter Tryz.func76, Tryz.ntmps76
      go_wp2
      go_ret
      exact ⟨rfl, rfl⟩
    · rw [if_neg h2]
      go_enter Tryz.func76, Tryz.ntmps76
      go_wp2
      go_ret
      exact ⟨rfl, rfl⟩

/-- a head by head, then the values -/
def Zc (a1 a2 a3 a4 b1 b2 b3 b4 : Int) (n m : Nat) (xa xb : List Nat) : Int := if orL [cmpO a1 b1, cmpO a2 b2, cmpO a3 b3, cmpO a4 b4, cmpO n m] = 0 then Zl xa xb else orL [cmpO a1 b1, cmpO a2 b2, cmpO a3 b3, cmpO a4 b4, cmpO n m]
set_option maxRecDepth 8000 in
set_option maxHeartbeats 8000000 in
theorem rfull_walk (a1 a2 a3 a4 b1 b2 b3 b4 : Int) (A B : Option Addr) (n m c d : Nat) (xa xb : List Nat) (w : World) (fa : FlAt w A n xa) (fb : FlAt w B m xb) (la : Lt64 xa) (lb : Lt64 xb) (hl : n * 8 ≤ 140737488355328)
    (u3 : 0 ≤ a3) (u3' : a3 ≤ 4294967295) (v3 : 0 ≤ b3) (v3' : b3 ≤ 4294967295) (u4 : 0 ≤ a4) (u4' : a4 ≤ 4294967295) (v4 : 0 ≤ b4) (v4' : b4 ≤ 4294967295) :
    Calls Tryz.prog 61 #[.agg #[.int .i64 a1, .int .i64 a2, .int .u32 a3, .int .u32 a4, .slice A n c], .agg #[.int .i64 b1, .int .i64 b2, .int .u32 b3, .int .u32 b4, .slice B m d]] w fun e w' =>
      e = .returned (.int .i64 (Zc a1 a2 a3 a4 b1 b2 b3 b4 n m xa xb)) ∧ Below w.heap.size w w' := by
  have HL := Lib.hid (And.intro la lb)
  have HFA := Lib.hid fa
  have HFB := Lib.hid fb
  clear la lb fa fb
  go_enter Tryz.func61, Tryz.ntmps61
  go_wp2_with fail
  have HC0 := Lib.hid (show Cells5 ((w.alloc (.cells #[.int .i64 a1, .int .i64 a2, .int .u32 a3, .int .u32 a4, .slice A n c] 63)).alloc (.cells #[.int .i64 b1, .int .i64 b2, .int .u32 b3, .int .u32 b4, .slice B m d] 63)) w.heap.size a1 a2 a3 a4 b1 b2 b3 b4 A B n m c d from by unfold Cells5; simp [go_sem])
  have HB := Lib.hid (show Below w.heap.size w ((w.alloc (.cells #[.int .i64 a1, .int .i64 a2, .int .u32 a3, .int .u32 a4, .slice A n c] 63)).alloc (.cells #[.int .i64 b1, .int .i64 b2, .int .u32 b3, .int .u32 b4, .slice B m d] 63)) from (((Below.refl _ _).alloc (Nat.le_refl _) _).alloc (by simp) _))
  have hw0 : w.heap.size + 1 < ((w.alloc (.cells #[.int .i64 a1, .int .i64 a2, .int .u32 a3, .int .u32 a4, .slice A n c] 63)).alloc (.cells #[.int .i64 b1, .int .i64 b2, .int .u32 b3, .int .u32 b4, .slice B m d] 63)).heap.size := by simp
  generalize (w.alloc (.cells #[.int .i64 a1, .int .i64 a2, .int .u32 a3, .int .u32 a4, .slice A n c] 63)).alloc (.cells #[.int .i64 b1, .int .i64 b2, .int .u32 b3, .int .u32 b4, .slice B m d] 63) = W0 at *
  have HC := Lib.hid (HC0.out.below (Below.refl _ _).drew hw0)
  unfold Cells5 at HC
  have e1 : IntKind.i64.wrap a3 = a3 := IntWalk.i64_in _ (by omega)
  have e2 : IntKind.i64.wrap b3 = b3 := IntWalk.i64_in _ (by omega)
  have e3 : IntKind.i64.wrap a4 = a4 := IntWalk.i64_in _ (by omega)
  have e4 : IntKind.i64.wrap b4 = b4 := IntWalk.i64_in _ (by omega)
  go_region_held3 (fun w' => w'.cell? ⟨w.heap.size, 0, none⟩ = some (.int .i64 a1) ∧ w'.cell? ⟨w.heap.size + 1, 0, none⟩ = some (.int .i64 b1) ∧ w'.cell? ⟨w.heap.size, 1, none⟩ = some (.int .i64 a2) ∧ w'.cell? ⟨w.heap.size + 1, 1, none⟩ = some (.int .i64 b2) ∧ w'.cell? ⟨w.heap.size, 2, none⟩ = some (.int .u32 a3) ∧ w'.cell? ⟨w.heap.size + 1, 2, none⟩ = some (.int .u32 b3) ∧
      w'.cell? ⟨w.heap.size, 3, none⟩ = some (.int .u32 a4) ∧ w'.cell? ⟨w.heap.size + 1, 3, none⟩ = some (.int .u32 b4) ∧ w'.cell? ⟨w.heap.size, 4, none⟩ = some (.slice A n c) ∧ w'.cell? ⟨w.heap.size + 1, 4, none⟩ = some (.slice B m d))
    (first | exact HC.out | exact Cells5.below HC0.out ((Below.refl _ _).alloc (Nat.le_refl _) _).drew hw0)
    (first | (go_at_call 76; refine (rless_any _ _ _).mono ?_; rintro e w1 ⟨rfl, rfl⟩))
  clear e1 e2 e3 e4
  have HX := Lib.hid (or_cells W0 (cmpO a1 b1) (cmpO a2 b2) (cmpO a3 b3) (cmpO a4 b4) (cmpO n m) 3)
  have hc8 := (Cells5.below HC0.out ((Below.refl _ _).alloc (Nat.le_refl _) (.cells #[.int .i64 (cmpO a1 b1), .int .i64 (cmpO a2 b2), .int .i64 (cmpO a3 b3), .int .i64 (cmpO a4 b4), .int .i64 (cmpO n m)] 3)).drew hw0).2.2.2.2.2.2.2.2
  have HC8 := Lib.hid hc8
  have HE := Lib.hid (HB.out.trans (((Below.refl W0.heap.size W0).alloc (Nat.le_refl _) (.cells #[.int .i64 (cmpO a1 b1), .int .i64 (cmpO a2 b2), .int .i64 (cmpO a3 b3), .int .i64 (cmpO a4 b4), .int .i64 (cmpO n m)] 3)).drew.mono HB.out.size))
  have hs5 : w.heap.size + 1 < ((W0.alloc (.cells #[.int .i64 (cmpO a1 b1), .int .i64 (cmpO a2 b2), .int .i64 (cmpO a3 b3), .int .i64 (cmpO a4 b4), .int .i64 (cmpO n m)] 3)).drew).heap.size := by simp; omega
  clear hc8 HC HC0 HB
  generalize hxs : [cmpO a1 b1, cmpO a2 b2, cmpO a3 b3, cmpO a4 b4, cmpO (n : Int) m] = xs at *
  have hxl : xs.length = 5 := by rw [← hxs]; rfl
  have HXL := Lib.hid hxl
  have hx4 : orL xs = 0 → n = m := by
    intro h
    have : cmpO (n : Int) m = 0 := by
      rw [← hxs] at h
      unfold orL at h
      split at h
      · unfold orL at h
        split at h
        · unfold orL at h
          split at h
          · unfold orL at h
            split at h
            · unfold orL at h
              split at h
              · assumption
              · exact h
            · rename_i q; exact absurd h q
          · rename_i q; exact absurd h q
        · rename_i q; exact absurd h q
      · rename_i q; exact absurd h q
    have := cmpO_zero this
    omega
  have HX4 := Lib.hid hx4
  have HZ := Lib.hid (show Zc a1 a2 a3 a4 b1 b2 b3 b4 n m xa xb = if orL xs = 0 then Zl xa xb else orL xs from by rw [← hxs]; rfl)
  clear hxs hxl hx4
  generalize (W0.alloc (.cells #[.int .i64 (cmpO a1 b1), .int .i64 (cmpO a2 b2), .int .i64 (cmpO a3 b3), .int .i64 (cmpO a4 b4), .int .i64 (cmpO n m)] 3)).drew = W1 at *
  generalize W0.heap.size = g at *
  go_wp2_with fail
  go_loopw [50] (fun i wr => ∃ k : Nat, k ≤ 5 ∧ i = .int .i64 (k : Int) ∧ Hid (∀ j, j < k → xs.getD j 0 = 0) ∧ W1 = wr) (fun i _ => 5 - (intOf i).toNat)
  case atStart => exact ⟨0, by omega, rfl, Lib.hid (fun j hj => by omega), rfl⟩
  case round =>
    obtain ⟨k, hk, rfl, hz, rfl⟩ := hrel
    by_cases hlt : k < 5
    · obtain ⟨x, hx⟩ : ∃ x, xs.getD k 0 = x := ⟨_, rfl⟩
      have hcell := HX.out k hlt
      rw [hx] at hcell
      have HXX := Lib.hid hx
      clear hx
      have hki : (k : Int) < 5 := by omega
      by_cases h0 : x = 0
      · subst h0
        go_wp2_with fail
        go_roundw
        case rel => exact ⟨k + 1, by omega, by go_num, Lib.hid (fun j hj => by
            rcases Nat.lt_or_ge j k with h | h
            · exact hz.out j h
            · rw [show j = k by omega]; exact HXX.out), by first | rfl | trivial⟩
        case measure => simp [intOf]; omega
      · have h0' : (x == 0) = false := by simpa using h0
        have h0'' : (x != 0) = true := by simpa using h0
        go_wp2_with fail
        go_ret
        refine ⟨?_, HE.out⟩
        have ho := orL_at hz.out (by have := HXL.out; omega) (by rw [HXX.out]; exact h0)
        rw [HZ.out, if_neg (by rw [ho, HXX.out]; exact h0), ho, HXX.out]
        rfl
    · have hkn : k = 5 := by omega
      subst hkn
      have ho : orL xs = 0 := by rw [orL_zero hz.out (by have := HXL.out; omega), List.drop_eq_nil_of_le (by have := HXL.out; omega)]; rfl
      have hnm := HX4.out ho
      subst hnm
      have HO := Lib.hid ho
      have c8 := HC8.out.1
      clear ho
      go_wp2_with fail
      clear c8
      obtain ⟨wo, rfl⟩ : ∃ wo : World, wo = W1 := ⟨_, rfl⟩
      go_loopw [62] (fun i wr => ∃ k : Nat, k ≤ n ∧ i = .int .i64 (k : Int) ∧ Hid ((xa.take k).map keyN = (xb.take k).map keyN ∧ Below wo.heap.size wo wr)) (fun i _ => n - (intOf i).toNat)
      case atStart => exact ⟨0, by omega, rfl, Lib.hid ⟨rfl, Below.refl _ _⟩⟩
      case round =>
        obtain ⟨k, hk, rfl, hh⟩ := hrel
        have c8 := (hh.out.2.cell (p := ⟨w.heap.size, 4, none⟩) (by show w.heap.size < _; omega)).trans HC8.out.1
        have c9 := (hh.out.2.cell (p := ⟨w.heap.size + 1, 4, none⟩) hs5).trans HC8.out.2
        by_cases hlt : k < n
        · have hb0 := HE.out.trans (hh.out.2.mono HE.out.size)
          obtain ⟨g1, o1, rfl, q1, hc1⟩ := (HFA.out.below hb0).at hlt
          obtain ⟨g2, o2, rfl, q2, hc2⟩ := (HFB.out.below hb0).at hlt
          have hl1 := HL.out.1 k
          have hl2 := HL.out.2 k
          obtain ⟨y, hy⟩ : ∃ y, xa.getD k 0 = y := ⟨_, rfl⟩
          obtain ⟨u, hu⟩ : ∃ u, xb.getD k 0 = u := ⟨_, rfl⟩
          rw [hy] at hc1 hl1
          rw [hu] at hc2 hl2
          have HYU := Lib.hid (And.intro hy hu)
          have HCP := Lib.hid (fun W => rcmp_any y u W hl1 hl2)
          obtain ⟨r, hr⟩ : ∃ r, cmpO (keyN y) (keyN u) = r := ⟨_, rfl⟩
          rw [hr] at HCP
          have HR := Lib.hid hr
          have hki : (k : Int) < (n : Int) := by omega
          have hk0 : (0 : Int) ≤ (k : Int) := by omega
          have la := HFA.out.1
          have lb := HFB.out.1
          have HLA := Lib.hid (And.intro la lb)
          clear hb0 hy hu hr hl1 hl2 la lb
          by_cases hr0 : r = 0
          · subst hr0
            go_wp2_with fail
            go_quiet ((go_at_call 77; exact Calls.quiet_of_same ((HCP.out _).mono fun _ _ h => ⟨h.1, h.2.symm⟩)))
            clear hc1 hc2 c8 c9
            go_wp2_with fail
            go_roundw
            case rel => exact ⟨k + 1, by omega, by go_num, Lib.hid ⟨key_step hh.out.1 (by have := HLA.out.1; omega) (by have := HLA.out.2; omega) (by rw [HYU.out.1, HYU.out.2, HR.out]), below_drewN hh.out.2 _⟩⟩
            case measure => simp [intOf]; omega
          · have hr1 : (r == 0) = false := by simpa using hr0
            have hr2 : (r != 0) = true := by simpa using hr0
            go_wp2_with fail
            go_quiet ((go_at_call 77; exact Calls.quiet_of_same ((HCP.out _).mono fun _ _ h => ⟨h.1, h.2.symm⟩)))
            clear hc1 hc2 c8 c9
            go_wp2_with fail
            go_ret
            refine ⟨?_, below_drewN (back_of HE.out hh.out.2) _⟩
            have hno := key_no hh.out.1 (by have := HLA.out.1; omega) (by have := HLA.out.2; omega) (by rw [HYU.out.1, HYU.out.2, HR.out]; exact hr0)
            rw [HYU.out.1, HYU.out.2, HR.out] at hno
            rw [HZ.out, if_pos HO.out]
            unfold Zl
            rw [hno]
            rfl
        · have hkn : k = n := by omega
          subst hkn
          clear c8 c9
          go_wp2_with fail
          go_ret
          refine ⟨?_, back_of HE.out hh.out.2⟩
          rw [HZ.out, if_pos HO.out]
          unfold Zl
          rw [key_all hh.out.1 HFA.out.1 HFB.out.1]
          rfl
theorem rorder_any (a b : El) (w : World) (ha : ElOk w a) (hb : ElOk w b) (u3 : 0 ≤ a.sq ∧ a.sq ≤ 4294967295) (v3 : 0 ≤ b.sq ∧ b.sq ≤ 4294967295) (u4 : 0 ≤ a.st ∧ a.st ≤ 4294967295) (v4 : 0 ≤ b.st ∧ b.st ≤ 4294967295) :
    Calls Tryz.prog 61 #[a.val, b.val] w fun e w' => e = .returned (.int .i64 (cmpK a b)) ∧ Below w.heap.size w w' := by
  have h := rfull_walk a.at_ a.se a.sq a.st b.at_ b.se b.sq b.st a.v b.v a.n b.n a.c b.c a.bs b.bs w ha.1 hb.1 ha.2.1 hb.2.1 ha.2.2 u3.1 u3.2 v3.1 v3.2 u4.1 u4.2 v4.1 v4.2
  have e : Zc a.at_ a.se a.sq a.st b.at_ b.se b.sq b.st a.n b.n a.bs b.bs = cmpK a b := by
    unfold Zc
    by_cases c : headC a b = 0
    · rw [(headK_zero c).1]
      exact if_pos c
    · rw [headK c]
      exact if_neg c
  rw [e] at h
  exact h
end Go.Proofs.YtebacmmfjadalaaGreat

namespace Go.Proofs.YtebacmmfjadalaaGreat
open Go Go.RowKit

theorem map_key {a b : List Nat} (la : Lt64 a) (lb : Lt64 b) : a.map cnN = b.map cnN ↔ a.map keyN = b.map keyN := by
  constructor
  · intro h
    apply List.ext_getElem?
    intro i
    have hi := congrArg (fun l : List Nat => l[i]?) h
    simp only [List.getElem?_map] at hi ⊢
    cases ha : a[i]? with
    | none => rw [ha] at hi; cases hb : b[i]? with
      | none => rfl
      | some y => rw [hb] at hi; cases hi
    | some x => rw [ha] at hi; cases hb : b[i]? with
      | none => rw [hb] at hi; cases hi
      | some y =>
        rw [hb] at hi
        simp only [Option.map_some, Option.some.injEq] at hi ⊢
        exact key_cn hi
  · intro h
    apply List.ext_getElem?
    intro i
    have hi := congrArg (fun l : List Int => l[i]?) h
    simp only [List.getElem?_map] at hi ⊢
    have l1 := la i
    have l2 := lb i
    rw [List.getD_eq_getElem?_getD] at l1 l2
    cases ha : a[i]? with
    | none => rw [ha] at hi; cases hb : b[i]? with
      | none => rfl
      | some y => rw [hb] at hi; cases hi
    | some x => rw [ha] at hi l1; cases hb : b[i]? with
      | none => rw [hb] at hi; cases hi
      | some y =>
        rw [hb] at hi l2
        simp only [Option.map_some, Option.some.injEq, Option.getD_some] at hi l1 l2 ⊢
        exact key_inj l1 l2 hi

/-- two readings alike -/
def sameR (a b : El) : Bool := decide (a.se = b.se ∧ a.sq = b.sq ∧ a.st = b.st ∧ sameL a.bs b.bs = true)
theorem same_key {w w' : World} {a b : El} (ha : ElOk w a) (hb : ElOk w' b) : (a.at_ = b.at_ ∧ sameR a b = true) ↔ a.key = b.key := by
  have la := ha.1.1
  have lb := hb.1.1
  unfold sameR sameL El.key
  simp only [decide_eq_true_eq, List.cons.injEq]
  rw [map_key ha.2.1 hb.2.1]
  constructor
  · rintro ⟨h1, h2, h3, h4, h5⟩
    have := congrArg List.length h5
    simp only [List.length_map] at this
    exact ⟨h1, h2, h3, h4, by omega, h5⟩
  · rintro ⟨h1, h2, h3, h4, -, h5⟩
    exact ⟨h1, h2, h3, h4, h5⟩

set_option maxRecDepth 8000 in
set_option maxHeartbeats 4000000 in
theorem rsame_walk (a2 a3 a4 b2 b3 b4 : Int) (A B : Option Addr) (n m c d : Nat) (xa xb : List Nat) (w : World) (fa : FlAt w A n xa) (fb : FlAt w B m xb) (hl : n * 8 ≤ 140737488355328) :
    Calls Tryz.prog 43 #[.agg #[.int .i64 a2, .int .u32 a3, .int .u32 a4, .slice A n c], .agg #[.int .i64 b2, .int .u32 b3, .int .u32 b4, .slice B m d]] w fun e w' =>
      e = .returned (.bool (decide (a2 = b2 ∧ a3 = b3 ∧ a4 = b4 ∧ sameL xa xb = true))) ∧ Below w.heap.size w w' := by
  have hb := ((Below.refl w.heap.size w).alloc (Nat.le_refl _) (.cells #[.int .i64 a2, .int .u32 a3, .int .u32 a4, .slice A n c] 38)).alloc (by simp) (.cells #[.int .i64 b2, .int .u32 b3, .int .u32 b4, .slice B m d] 38)
  have HB := Lib.hid hb
  have HS := Lib.hid (slist_any A B n m c d xa xb _ (fa.below hb) (fb.below hb) hl)
  obtain ⟨q, hq⟩ : ∃ q, sameL xa xb = q := ⟨_, rfl⟩
  rw [hq] at HS ⊢
  clear hq hb fa fb
  by_cases c2 : a2 = b2
  · subst c2
    by_cases c3 : a3 = b3
    · subst c3
      by_cases c4 : a4 = b4
      · subst c4
        go_enter Tryz.func43, Tryz.ntmps43
        go_wp2_with fail
        refine HS.out.mono ?_
        rintro e w1 ⟨rfl, hb1⟩
        go_wp2_with fail
        go_ret
        exact ⟨by cases q <;> simp, back_of HB.out hb1⟩
      · have h1 : (a4 == b4) = false := by simpa using c4
        go_enter Tryz.func43, Tryz.ntmps43
        go_wp2_with fail
        go_ret
        exact ⟨by rw [decide_eq_false (fun h => c4 h.2.2.1)]; rfl, HB.out⟩
    · have h1 : (a3 == b3) = false := by simpa using c3
      go_enter Tryz.func43, Tryz.ntmps43
      go_wp2_with fail
      go_ret
      exact ⟨by rw [decide_eq_false (fun h => c3 h.2.1)]; rfl, HB.out⟩
  · have h1 : (a2 == b2) = false := by simpa using c2
    go_enter Tryz.func43, Tryz.ntmps43
    go_wp2_with fail
    go_ret
    exact ⟨by rw [decide_eq_false (fun h => c2 h.1)]; rfl, HB.out⟩

/-- timed readings lie behind a slice -/
def TlAt (w : World) (v : Value) (xs : List El) : Prop := ∃ A c, v = .slice A xs.length c ∧ ((A = none ∧ xs = []) ∨ ∃ b off, A = some ⟨b, off, none⟩ ∧ b < w.heap.size ∧ ∀ i e, xs[i]? = some e → ∀ j, j < 5 → w.cell? ⟨b, off + i * 5 + j, none⟩ = e.row[j]?)
theorem TlAt.below {w w' : World} {v : Value} {xs : List El} (h : TlAt w v xs) (hb : Below w.heap.size w w') : TlAt w' v xs := by
  obtain ⟨A, c, h1, h2⟩ := h
  refine ⟨A, c, h1, h2.imp id ?_⟩
  rintro ⟨b, off, h3, h4, h5⟩
  exact ⟨b, off, h3, Nat.lt_of_lt_of_le h4 hb.size, fun i e he j hj => (hb.cell (p := ⟨b, off + i * 5 + j, none⟩) h4).trans (h5 i e he j hj)⟩
theorem Row.tl {B : Nat} {w : World} {v : Value} {xs : List El} (h : Row B w v xs) : TlAt w v xs := by
  rcases h.2 with ⟨hn, h0⟩ | ⟨g, cap, cur, hv, h1, h2, -⟩
  · have hx : xs = [] := by
      cases xs with
      | nil => rfl
      | cons a l => simp at h0
    subst hx
    exact ⟨none, 0, hn, .inl ⟨rfl, rfl⟩⟩
  · have hg := (Array.getElem?_eq_some_iff.1 h2).1
    subst hv
    refine ⟨_, _, rfl, .inr ⟨g, 0, rfl, hg, fun i e he j hj => ?_⟩⟩
    have hi : i < xs.length := (List.getElem?_eq_some_iff.1 he).1
    have := (World.ownsRow.cellAt h (i * 5 + j) (by omega)).trans (flat_get xs i j e he hj)
    rw [Nat.zero_add]
    exact this
/-- so far alike -/
theorem tsame_step {xs ys : List El} {k : Nat} {a b : El} (h : (xs.take k).map El.key = (ys.take k).map El.key) (ha : xs[k]? = some a) (hb : ys[k]? = some b) (e : a.key = b.key) : (xs.take (k + 1)).map El.key = (ys.take (k + 1)).map El.key := by
  rw [List.take_add_one, List.take_add_one, ha, hb, List.map_append, List.map_append, h]
  simp [e]
theorem tsame_no {xs ys : List El} {k : Nat} {a b : El} (ha : xs[k]? = some a) (hb : ys[k]? = some b) (e : a.key ≠ b.key) : xs.map El.key ≠ ys.map El.key := by
  intro h
  apply e
  have := congrArg (fun l : List (List Int) => l[k]?) h
  simpa [ha, hb] using this
theorem El.rowAt (e : El) : e.row[0]? = some (.int .i64 e.at_) ∧ e.row[1]? = some (.int .i64 e.se) ∧ e.row[2]? = some (.int .u32 e.sq) ∧ e.row[3]? = some (.int .u32 e.st) ∧ e.row[4]? = some (.slice e.v e.n e.c) := ⟨rfl, rfl, rfl, rfl, rfl⟩

set_option maxRecDepth 8000 in
set_option maxHeartbeats 4000000 in
theorem tsame_any (v u : Value) (xs ys : List El) (w : World) (hx : TlAt w v xs) (hy : TlAt w u ys) (ox : ∀ e ∈ xs, ElOk w e) (oy : ∀ e ∈ ys, ElOk w e) (hlen : xs.length ≤ 1099511627776) :
    Calls Tryz.prog 17 #[v, u] w fun e w' => e = .returned (.bool (decide (xs.map El.key = ys.map El.key))) ∧ Below w.heap.size w w' := by
  have HX := Lib.hid (And.intro hx ox)
  have HY := Lib.hid (And.intro hy oy)
  obtain ⟨A, c, rfl, hxx⟩ := hx
  obtain ⟨B, d, rfl, hyy⟩ := hy
  obtain ⟨n, hn⟩ : ∃ n, xs.length = n := ⟨_, rfl⟩
  obtain ⟨m, hm⟩ : ∃ m, ys.length = m := ⟨_, rfl⟩
  have HN := Lib.hid (And.intro hn hm)
  rw [hn] at hlen ⊢
  rw [hm]
  have HXX := Lib.hid hxx
  have HYY := Lib.hid hyy
  clear hxx hyy ox oy hn hm
  by_cases hnm : n = m
  · subst hnm
    go_enter Tryz.func17, Tryz.ntmps17
    go_wp2_with fail
    go_loopw [13] (fun iv wr => ∃ k : Nat, k ≤ n ∧ iv = .int .i64 (k : Int) ∧ Hid ((xs.take k).map El.key = (ys.take k).map El.key ∧ Below w.heap.size w wr)) (fun iv _ => n - (intOf iv).toNat)
    case atStart => exact ⟨0, by omega, rfl, Lib.hid ⟨rfl, Below.refl _ _⟩⟩
    case round =>
      obtain ⟨k, hk, rfl, hh⟩ := hrel
      by_cases hlt : k < n
      · obtain ⟨a, ha⟩ := get_some (xs := xs) (i := k) (by have := HN.out.1; omega)
        obtain ⟨b, hb⟩ := get_some (xs := ys) (i := k) (by have := HN.out.2; omega)
        rcases HXX.out with ⟨-, h0⟩ | ⟨g1, o1, rfl, q1, hc1⟩
        · rw [h0] at ha; simp at ha
        rcases HYY.out with ⟨-, h0⟩ | ⟨g2, o2, rfl, q2, hc2⟩
        · rw [h0] at hb; simp at hb
        have oa := (HX.out.2 a (List.mem_of_getElem? ha)).below hh.out.2
        have ob := (HY.out.2 b (List.mem_of_getElem? hb)).below hh.out.2
        have HAB := Lib.hid (And.intro (And.intro ha hb) (And.intro oa ob))
        have d1 := fun j hj => (hh.out.2.cell (p := ⟨g1, o1 + k * 5 + j, none⟩) q1).trans (hc1 k a ha j hj)
        have d2 := fun j hj => (hh.out.2.cell (p := ⟨g2, o2 + k * 5 + j, none⟩) q2).trans (hc2 k b hb j hj)
        have x0 := d1 0 (by omega)
        have x1 := d1 1 (by omega)
        have x2 := d1 2 (by omega)
        have x3 := d1 3 (by omega)
        have x4 := d1 4 (by omega)
        have y0 := d2 0 (by omega)
        have y1 := d2 1 (by omega)
        have y2 := d2 2 (by omega)
        have y3 := d2 3 (by omega)
        have y4 := d2 4 (by omega)
        clear d1 d2 hc1 hc2 ha hb oa ob
        have HS := Lib.hid (fun W hW => rsame_walk a.se a.sq a.st b.se b.sq b.st a.v b.v a.n b.n a.c b.c a.bs b.bs W ((HAB.out.2.1.below hW).1) ((HAB.out.2.2.below hW).1) HAB.out.2.1.2.2)
        obtain ⟨q, hq⟩ : ∃ q, sameR a b = q := ⟨_, rfl⟩
        have HQ := Lib.hid hq
        unfold sameR at hq
        rw [hq] at HS
        clear hq
        obtain ⟨at_, se, sq, st, av, an, ac, abs⟩ := a
        obtain ⟨at2, se2, sq2, st2, bv, bn, bc, bbs⟩ := b
        rw [Nat.add_zero] at x0 y0
        simp only [El.row, List.getElem?_cons_zero, List.getElem?_cons_succ] at x0 x1 x2 x3 x4 y0 y1 y2 y3 y4
        simp only at HS
        have hki : (k : Int) < (n : Int) := by omega
        have hk0 : (0 : Int) ≤ (k : Int) := by omega
        have r1 : g1 < wr.heap.size := Nat.lt_of_lt_of_le q1 hh.out.2.size
        have r2 : g2 < wr.heap.size := Nat.lt_of_lt_of_le q2 hh.out.2.size
        by_cases hat : at_ = at2
        · subst hat
          have h1 : (at_ != at_) = false := by simp
          go_wp2_with fail
          go_region_held3 (fun w' => w'.cell? ⟨g1, o1 + k * 5, none⟩ = some (.int .i64 at_) ∧ w'.cell? ⟨g1, o1 + k * 5 + 1, none⟩ = some (.int .i64 se) ∧ w'.cell? ⟨g1, o1 + k * 5 + 2, none⟩ = some (.int .u32 sq) ∧ w'.cell? ⟨g1, o1 + k * 5 + 3, none⟩ = some (.int .u32 st) ∧ w'.cell? ⟨g1, o1 + k * 5 + 4, none⟩ = some (.slice av an ac) ∧
              w'.cell? ⟨g2, o2 + k * 5, none⟩ = some (.int .i64 at_) ∧ w'.cell? ⟨g2, o2 + k * 5 + 1, none⟩ = some (.int .i64 se2) ∧ w'.cell? ⟨g2, o2 + k * 5 + 2, none⟩ = some (.int .u32 sq2) ∧ w'.cell? ⟨g2, o2 + k * 5 + 3, none⟩ = some (.int .u32 st2) ∧ w'.cell? ⟨g2, o2 + k * 5 + 4, none⟩ = some (.slice bv bn bc))
            (first | exact ⟨x0, x1, x2, x3, x4, y0, y1, y2, y3, y4⟩ | exact ⟨(hb6.cell (by exact r1)).trans x0, (hb6.cell (by exact r1)).trans x1, (hb6.cell (by exact r1)).trans x2, (hb6.cell (by exact r1)).trans x3, (hb6.cell (by exact r1)).trans x4, (hb6.cell (by exact r2)).trans y0, (hb6.cell (by exact r2)).trans y1, (hb6.cell (by exact r2)).trans y2, (hb6.cell (by exact r2)).trans y3, (hb6.cell (by exact r2)).trans y4⟩)
            (first | (go_at_call 43; refine (HS.out _ (Below.refl wr.heap.size wr).drew).mono ?_; rintro e w6 ⟨rfl, hb6⟩))
          have HB6 := Lib.hid (back_of hh.out.2 ((Below.refl wr.heap.size wr).drew.trans hb6))
          clear hb6 x0 x1 x2 x3 x4 y0 y1 y2 y3 y4 HS
          cases q
          · go_wp2_with fail
            go_ret
            refine ⟨?_, HB6.out⟩
            rw [decide_eq_false (tsame_no HAB.out.1.1 HAB.out.1.2 (fun e => by have := (same_key HAB.out.2.1 HAB.out.2.2).2 e; rw [HQ.out] at this; exact Bool.noConfusion this.2))]
            rfl
          · go_wp2_with fail
            go_roundw
            case rel => exact ⟨k + 1, by omega, by go_num, Lib.hid ⟨tsame_step hh.out.1 HAB.out.1.1 HAB.out.1.2 ((same_key HAB.out.2.1 HAB.out.2.2).1 ⟨rfl, HQ.out⟩), HB6.out⟩⟩
            case measure => simp [intOf]; omega
        · have h1 : (at_ != at2) = true := by simpa using hat
          go_wp2_with fail
          go_quiet (fail)
          clear x0 x1 x2 x3 x4 y0 y1 y2 y3 y4 HS
          go_wp2_with fail
          go_ret
          refine ⟨?_, below_drewN hh.out.2 _⟩
          rw [decide_eq_false (tsame_no HAB.out.1.1 HAB.out.1.2 (fun e => hat ((same_key HAB.out.2.1 HAB.out.2.2).2 e).1))]
          rfl
      · have hkn : k = n := by omega
        subst hkn
        go_wp2_with fail
        go_ret
        refine ⟨?_, hh.out.2⟩
        have := hh.out.1
        rw [List.take_of_length_le (by have := HN.out; omega), List.take_of_length_le (by have := HN.out; omega)] at this
        rw [decide_eq_true this]
        rfl
  · have hnb : ((n : Int) != (m : Int)) = true := bne_iff_ne.2 (by omega)
    go_enter Tryz.func17, Tryz.ntmps17
    go_wp2_with fail
    go_ret
    refine ⟨?_, Below.refl _ _⟩
    rw [decide_eq_false (fun e => hnm (by have := congrArg List.length e; simpa [HN.out.1, HN.out.2] using this))]
    rfl
end Go.Proofs.YtebacmmfjadalaaGreat
