/- K7 in one text. -/
import Derived.Test.YtebacmmfjadalaaGreatP16

namespace Go.Proofs.YtebacmmfjadalaaGreat
open Go Go.RowKit

theorem rless_any (a b : Int) (w : World) : Calls Tryz.prog 76 #[.int .i64 a, .int .i64 b] w fun e w' => e = .returned (.int .i64 (cmpO a b)) ∧ w = w' := by
  unfold cmpO
  by_cases h : a < b
  · rw [if_pos h]
    go_enter Tryz.func76, Tryz.ntmps76
    go_wp2
    go_ret
    exact ⟨rfl, rfl⟩
  · rw [if_neg h]
    by_cases h2 : b < a
    · rw [if_pos h2]
      go_enter Tryz.func76, Tryz.ntmps76
      go_wp2
      go_ret
      exact ⟨rfl, rfl⟩
    · rw [if_neg h2]
      go_enter Tryz.func76, Tryz.ntmps76
      go_wp2
      go_ret
      exact ⟨rfl, rfl⟩

/-- a head by head, then the values -/
def Zc (a1 a2 a3 a4 b1 b2 b3 b4 : Int) (n m : Nat) (xa xb : List Nat) : Int := if orL [cmpO a1 b1, cmpO a2 b2, cmpO a3 b3, cmpO a4 b4, cmpO n m] = 0 then Zl xa xb else orL [cmpO a1 b1, cmpO a2 b2, cmpO a3 b3, cmpO a4 b4, cmpO n m]
set_option maxRecDepth 8000 in
set_option maxHeartbeats 8000000 in
theorem rfull_walk (a1 a2 a3 a4 b1 b2 b3 b4 : Int) (A B : Option Addr) (n m c d : Nat) (xa xb : List Nat) (w : World) (fa : FlAt w A n xa) (fb : FlAt w B m xb) (la : Lt64 xa) (lb : Lt64 xb) (hl : n * 8 ≤ 140737488355328)
    (u3 : 0 ≤ a3) (u3' : a3 ≤ 4294967295) (v3 : 0 ≤ b3) (v3' : b3 ≤ 4294967295) (u4 : 0 ≤ a4) (u4' : a4 ≤ 4294967295) (v4 : 0 ≤ b4) (v4' : b4 ≤ 4294967295) :
    Calls Tryz.prog 61 #[.agg #[.int .i64 a1, .int .i64 a2, .int .u32 a3, .int .u32 a4, .slice A n c], .agg #[.int .i64 b1, .int .i64 b2, .int .u32 b3, .int .u32 b4, .slice B m d]] w fun e w' =>
      e = .returned (.int .i64 (Zc a1 a2 a3 a4 b1 b2 b3 b4 n m xa xb)) ∧ Below w.heap.size w w' := by
  have HL := Lib.hid (And.intro la lb)
  have HFA := Lib.hid fa
  have HFB := Lib.hid fb
  clear la lb fa fb
  go_enter Tryz.func61, Tryz.ntmps61
  go_wp2_with fail
  have HC0 := Lib.hid (show Cells5 ((w.alloc (.cells #[.int .i64 a1, .int .i64 a2, .int .u32 a3, .int .u32 a4, .slice A n c] 63)).alloc (.cells #[.int .i64 b1, .int .i64 b2, .int .u32 b3, .int .u32 b4, .slice B m d] 63)) w.heap.size a1 a2 a3 a4 b1 b2 b3 b4 A B n m c d from by unfold Cells5; simp [go_sem])
  have HB := Lib.hid (show Below w.heap.size w ((w.alloc (.cells #[.int .i64 a1, .int .i64 a2, .int .u32 a3, .int .u32 a4, .slice A n c] 63)).alloc (.cells #[.int .i64 b1, .int .i64 b2, .int .u32 b3, .int .u32 b4, .slice B m d] 63)) from (((Below.refl _ _).alloc (Nat.le_refl _) _).alloc (by simp) _))
  have hw0 : w.heap.size + 1 < ((w.alloc (.cells #[.int .i64 a1, .int .i64 a2, .int .u32 a3, .int .u32 a4, .slice A n c] 63)).alloc (.cells #[.int .i64 b1, .int .i64 b2, .int .u32 b3, .int .u32 b4, .slice B m d] 63)).heap.size := by simp
  generalize (w.alloc (.cells #[.int .i64 a1, .int .i64 a2, .int .u32 a3, .int .u32 a4, .slice A n c] 63)).alloc (.cells #[.int .i64 b1, .int .i64 b2, .int .u32 b3, .int .u32 b4, .slice B m d] 63) = W0 at *
  have HC := Lib.hid (HC0.out.below (Below.refl _ _).drew hw0)
  unfold Cells5 at HC
  have e1 : IntKind.i64.wrap a3 = a3 := IntWalk.i64_in _ (by omega)
  have e2 : IntKind.i64.wrap b3 = b3 := IntWalk.i64_in _ (by omega)
  have e3 : IntKind.i64.wrap a4 = a4 := IntWalk.i64_in _ (by omega)
  have e4 : IntKind.i64.wrap b4 = b4 := IntWalk.i64_in _ (by omega)
  go_region_held3 (fun w' => w'.cell? ⟨w.heap.size, 0, none⟩ = some (.int .i64 a1) ∧ w'.cell? ⟨w.heap.size + 1, 0, none⟩ = some (.int .i64 b1) ∧ w'.cell? ⟨w.heap.size, 1, none⟩ = some (.int .i64 a2) ∧ w'.cell? ⟨w.heap.size + 1, 1, none⟩ = some (.int .i64 b2) ∧ w'.cell? ⟨w.heap.size, 2, none⟩ = some (.int .u32 a3) ∧ w'.cell? ⟨w.heap.size + 1, 2, none⟩ = some (.int .u32 b3) ∧
      w'.cell? ⟨w.heap.size, 3, none⟩ = some (.int .u32 a4) ∧ w'.cell? ⟨w.heap.size + 1, 3, none⟩ = some (.int .u32 b4) ∧ w'.cell? ⟨w.heap.size, 4, none⟩ = some (.slice A n c) ∧ w'.cell? ⟨w.heap.size + 1, 4, none⟩ = some (.slice B m d))
    (first | exact HC.out | exact Cells5.below HC0.out ((Below.refl _ _).alloc (Nat.le_refl _) _).drew hw0)
    (first | (go_at_call 76; refine (rless_any _ _ _).mono ?_; rintro e w1 ⟨rfl, rfl⟩))
  clear e1 e2 e3 e4
  have HX := Lib.hid (or_cells W0 (cmpO a1 b1) (cmpO a2 b2) (cmpO a3 b3) (cmpO a4 b4) (cmpO n m) 3)
  have hc8 := (Cells5.below HC0.out ((Below.refl _ _).alloc (Nat.le_refl _) (.cells #[.int .i64 (cmpO a1 b1), .int .i64 (cmpO a2 b2), .int .i64 (cmpO a3 b3), .int .i64 (cmpO a4 b4), .int .i64 (cmpO n m)] 3)).drew hw0).2.2.2.2.2.2.2.2
  have HC8 := Lib.hid hc8
  have HE := Lib.hid (HB.out.trans (((Below.refl W0.heap.size W0).alloc (Nat.le_refl _) (.cells #[.int .i64 (cmpO a1 b1), .int .i64 (cmpO a2 b2), .int .i64 (cmpO a3 b3), .int .i64 (cmpO a4 b4), .int .i64 (cmpO n m)] 3)).drew.mono HB.out.size))
  have hs5 : w.heap.size + 1 < ((W0.alloc (.cells #[.int .i64 (cmpO a1 b1), .int .i64 (cmpO a2 b2), .int .i64 (cmpO a3 b3), .int .i64 (cmpO a4 b4), .int .i64 (cmpO n m)] 3)).drew).heap.size := by simp; omega
  clear hc8 HC HC0 HB
  generalize hxs : [cmpO a1 b1, cmpO a2 b2, cmpO a3 b3, cmpO a4 b4, cmpO (n : Int) m] = xs at *
  have hxl : xs.length = 5 := by rw [← hxs]; rfl
  have HXL := Lib.hid hxl
  have hx4 : orL xs = 0 → n = m := by
    intro h
    have : cmpO (n : Int) m = 0 := by
      rw [← hxs] at h
      unfold orL at h
      split at h
      · unfold orL at h
        split at h
        · unfold orL at h
          split at h
          · unfold orL at h
            split at h
            · unfold orL at h
              split at h
              · assumption
              · exact h
            · rename_i q; exact absurd h q
          · rename_i q; exact absurd h q
        · rename_i q; exact absurd h q
      · rename_i q; exact absurd h q
    have := cmpO_zero this
    omega
  have HX4 := Lib.hid hx4
  have HZ := Lib.hid (show Zc a1 a2 a3 a4 b1 b2 b3 b4 n m xa xb = if orL xs = 0 then Zl xa xb else orL xs from by rw [← hxs]; rfl)
  clear hxs hxl hx4
  generalize (W0.alloc (.cells #[.int .i64 (cmpO a1 b1), .int .i64 (cmpO a2 b2), .int .i64 (cmpO a3 b3), .int .i64 (cmpO a4 b4), .int .i64 (cmpO n m)] 3)).drew = W1 at *
  generalize W0.heap.size = g at *
  go_wp2_with fail
  go_loopw [50] (fun i wr => ∃ k : Nat, k ≤ 5 ∧ i = .int .i64 (k : Int) ∧ Hid (∀ j, j < k → xs.getD j 0 = 0) ∧ W1 = wr) (fun i _ => 5 - (intOf i).toNat)
  case atStart => exact ⟨0, by omega, rfl, Lib.hid (fun j hj => by omega), rfl⟩
  case round =>
    obtain ⟨k, hk, rfl, hz, rfl⟩ := hrel
    by_cases hlt : k < 5
    · obtain ⟨x, hx⟩ : ∃ x, xs.getD k 0 = x := ⟨_, rfl⟩
      have hcell := HX.out k hlt
      rw [hx] at hcell
      have HXX := Lib.hid hx
      clear hx
      have hki : (k : Int) < 5 := by omega
      by_cases h0 : x = 0
      · subst h0
        go_wp2_with fail
        go_roundw
        case rel => exact ⟨k + 1, by omega, by go_num, Lib.hid (fun j hj => by
            rcases Nat.lt_or_ge j k with h | h
            · exact hz.out j h
            · rw [show j = k by omega]; exact HXX.out), by first | rfl | trivial⟩
        case measure => simp [intOf]; omega
      · have h0' : (x == 0) = false := by simpa using h0
        have h0'' : (x != 0) = true := by simpa using h0
        go_wp2_with fail
        go_ret
        refine ⟨?_, HE.out⟩
        have ho := orL_at hz.out (by have := HXL.out; omega) (by rw [HXX.out]; exact h0)
        rw [HZ.out, if_neg (by rw [ho, HXX.out]; exact h0), ho, HXX.out]
        rfl
    · have hkn : k = 5 := by omega
      subst hkn
      have ho : orL xs = 0 := by rw [orL_zero hz.out (by have := HXL.out; omega), List.drop_eq_nil_of_le (by have := HXL.out; omega)]; rfl
      have hnm := HX4.out ho
      subst hnm
      have HO := Lib.hid ho
      have c8 := HC8.out.1
      clear ho
      go_wp2_with fail
      clear c8
      obtain ⟨wo, rfl⟩ : ∃ wo : World, wo = W1 := ⟨_, rfl⟩
      go_loopw [62] (fun i wr => ∃ k : Nat, k ≤ n ∧ i = .int .i64 (k : Int) ∧ Hid ((xa.take k).map keyN = (xb.take k).map keyN ∧ Below wo.heap.size wo wr)) (fun i _ => n - (intOf i).toNat)
      case atStart => exact ⟨0, by omega, rfl, Lib.hid ⟨rfl, Below.refl _ _⟩⟩
      case round =>
        obtain ⟨k, hk, rfl, hh⟩ := hrel
        have c8 := (hh.out.2.cell (p := ⟨w.heap.size, 4, none⟩) (by show w.heap.size < _; omega)).trans HC8.out.1
        have c9 := (hh.out.2.cell (p := ⟨w.heap.size + 1, 4, none⟩) hs5).trans HC8.out.2
        by_cases hlt : k < n
        · have hb0 := HE.out.trans (hh.out.2.mono HE.out.size)
          obtain ⟨g1, o1, rfl, q1, hc1⟩ := (HFA.out.below hb0).at hlt
          obtain ⟨g2, o2, rfl, q2, hc2⟩ := (HFB.out.below hb0).at hlt
          have hl1 := HL.out.1 k
          have hl2 := HL.out.2 k
          obtain ⟨y, hy⟩ : ∃ y, xa.getD k 0 = y := ⟨_, rfl⟩
          obtain ⟨u, hu⟩ : ∃ u, xb.getD k 0 = u := ⟨_, rfl⟩
          rw [hy] at hc1 hl1
          rw [hu] at hc2 hl2
          have HYU := Lib.hid (And.intro hy hu)
          have HCP := Lib.hid (fun W => rcmp_any y u W hl1 hl2)
          obtain ⟨r, hr⟩ : ∃ r, cmpO (keyN y) (keyN u) = r := ⟨_, rfl⟩
          rw [hr] at HCP
          have HR := Lib.hid hr
          have hki : (k : Int) < (n : Int) := by omega
          have hk0 : (0 : Int) ≤ (k : Int) := by omega
          have la := HFA.out.1
          have lb := HFB.out.1
          have HLA := Lib.hid (And.intro la lb)
          clear hb0 hy hu hr hl1 hl2 la lb
          by_cases hr0 : r = 0
          · subst hr0
            go_wp2_with fail
            go_quiet ((go_at_call 77; exact Calls.quiet_of_same ((HCP.out _).mono fun _ _ h => ⟨h.1, h.2.symm⟩)))
            clear hc1 hc2 c8 c9
            go_wp2_with fail
            go_roundw
            case rel => exact ⟨k + 1, by omega, by go_num, Lib.hid ⟨key_step hh.out.1 (by have := HLA.out.1; omega) (by have := HLA.out.2; omega) (by rw [HYU.out.1, HYU.out.2, HR.out]), below_drewN hh.out.2 _⟩⟩
            case measure => simp [intOf]; omega
          · have hr1 : (r == 0) = false := by simpa using hr0
            have hr2 : (r != 0) = true := by simpa using hr0
            go_wp2_with fail
            go_quiet ((go_at_call 77; exact Calls.quiet_of_same ((HCP.out _).mono fun _ _ h => ⟨h.1, h.2.symm⟩)))
            clear hc1 hc2 c8 c9
            go_wp2_with fail
            go_ret
            refine ⟨?_, below_drewN (back_of HE.out hh.out.2) _⟩
            have hno := key_no hh.out.1 (by have := HLA.out.1; omega) (by have := HLA.out.2; omega) (by rw [HYU.out.1, HYU.out.2, HR.out]; exact hr0)
            rw [HYU.out.1, HYU.out.2, HR.out] at hno
            rw [HZ.out, if_pos HO.out]
            unfold Zl
            rw [hno]
            rfl
        · have hkn : k = n := by omega
          subst hkn
          clear c8 c9
          go_wp2_with fail
          go_ret
          refine ⟨?_, back_of HE.out hh.out.2⟩
          rw [HZ.out, if_pos HO.out]
          unfold Zl
          rw [key_all hh.out.1 HFA.out.1 HFB.out.1]
          rfl
theorem rorder_any (a b : El) (w : World) (ha : ElOk w a) (hb : ElOk w b) (u3 : 0 ≤ a.sq ∧ a.sq ≤ 4294967295) (v3 : 0 ≤ b.sq ∧ b.sq ≤ 4294967295) (u4 : 0 ≤ a.st ∧ a.st ≤ 4294967295) (v4 : 0 ≤ b.st ∧ b.st ≤ 4294967295) :
    Calls Tryz.prog 61 #[a.val, b.val] w fun e w' => e = .returned (.int .i64 (cmpK a b)) ∧ Below w.heap.size w w' := by
  have h := rfull_walk a.at_ a.se a.sq a.st b.at_ b.se b.sq b.st a.v b.v a.n b.n a.c b.c a.bs b.bs w ha.1 hb.1 ha.2.1 hb.2.1 ha.2.2 u3.1 u3.2 v3.1 v3.2 u4.1 u4.2 v4.1 v4.2
  have e : Zc a.at_ a.se a.sq a.st b.at_ b.se b.sq b.st a.n b.n a.bs b.bs = cmpK a b := by
    unfold Zc
    by_cases c : headC a b = 0
    · rw [(headK_zero c).1]
      exact if_pos c
    · rw [headK c]
      exact if_neg c
  rw [e] at h
  exact h
end Go.Proofs.YtebacmmfjadalaaGreat
