/- J6 J7 J8 J9 J10 J11 in one text. -/
import Derived.Test.YtebacmmfjadalaaGreatP07
import Derived.Test.YtebacmmfjadalaaGreatP02
import Derived.Deep.LoopGhost
import Derived.Maps.AppendAt
import Derived.OwnWalk
import Derived.Deep.RegionLaw

namespace Go.Proofs.YtebacmmfjadalaaGreat
open Go Go.RowKit

theorem get_some {xs : List El} {i : Nat} (h : i < xs.length) : ∃ a, xs[i]? = some a := ⟨xs[i], List.getElem?_eq_getElem h⟩
theorem sw_eq {xs : List El} {i k : Nat} {a b : El} (ha : xs[i]? = some a) (hb : xs[k]? = some b) : sw xs i k = (xs.set i b).set k a := by simp [sw, ha, hb]
theorem sw_len (xs : List El) (i k : Nat) : (sw xs i k).length = xs.length := by
  unfold sw
  split <;> simp
theorem sw_mem {xs : List El} {i k : Nat} {e : El} (h : e ∈ sw xs i k) : e ∈ xs := by
  unfold sw at h
  split at h
  · rename_i a b ha hb
    rcases List.mem_or_eq_of_mem_set h with h | h
    · rcases List.mem_or_eq_of_mem_set h with h | h
      · exact h
      · rw [h]; exact List.mem_of_getElem? hb
    · rw [h]; exact List.mem_of_getElem? ha
  · exact h
/-- a world in which only block g and new blocks may have turned -/
theorem grown_cell {w w' : World} {g : Nat} (h : w.grownBy w' (some g)) {p : Addr} (hp : p.block < w.heap.size) (hn : p.block ≠ g) : w'.cell? p = w.cell? p :=
  World.cell?_of_block (h.block _ hp (by intro e; injection e with e; exact hn e))
theorem grown_of_below {w w' : World} (h : Below w.heap.size w w') (g : Nat) : w.grownBy w' (some g) := ⟨h.os, h.tape, h.output, h.size, fun k hk _ => h.block k hk⟩
theorem Pl.below {w w' : World} {g cap : Nat} {xs : List El} (h : Pl w g cap xs) (hb : Below w.heap.size w w') : Pl w' g cap xs := by
  have hg := h.lt
  refine ⟨h.1, ?_⟩
  rcases h.2 with ⟨h', _⟩ | ⟨g', cap', cur, h', h1, h2, h3⟩
  · simp at h'
  · have e1 : g = g' := by injection h' with e1; injection e1 with e1; injection e1
    subst e1
    exact .inr ⟨g, cap', cur, h', h1, (hb.block g hg).trans h2, h3⟩
theorem upL_stop {C : El → El → Int} {f : Nat} {xs : List El} {j : Nat} (h : (j - 1) / 2 = j ∨ ltAt C xs j ((j - 1) / 2) = false) : upL C (f + 1) xs j = xs := by rw [upL, if_pos h]
theorem upL_go {C : El → El → Int} {f : Nat} {xs : List El} {j : Nat} (h1 : ¬ (j - 1) / 2 = j) (h2 : ltAt C xs j ((j - 1) / 2) = true) : upL C (f + 1) xs j = upL C f (sw xs ((j - 1) / 2) j) ((j - 1) / 2) := by
  rw [upL, if_neg]
  rintro (h | h)
  · exact h1 h
  · rw [h2] at h; cases h

set_option maxRecDepth 8000 in
set_option maxHeartbeats 4000000 in
theorem up_any (C : El → El → Int) (pa : Addr) (g cap n j : Nat) (xs : List El) (w : World) (hp : Pl w g cap xs) (hn : xs.length = n) (hc : w.cell? pa = some (.slice (some ⟨g, 0, none⟩) n cap)) (hpg : pa.block ≠ g) (hpa : pa.block < w.heap.size) (hj : j < n) (h63 : n ≤ 4611686018427387904)
    (hC : ∀ a ∈ xs, ∀ b ∈ xs, ∀ W, w.grownBy W (some g) → Calls Tryz.prog 81 #[a.val, b.val] W fun e w' => e = .returned (.int .i64 (C a b)) ∧ Below W.heap.size W w') :
    Calls Tryz.prog 58 #[.iface 101 (.pointer (some pa)), .int .i64 j] w fun e w' => e = .returned (.tuple #[]) ∧ Pl w' g cap (upL C (j + 1) xs j) ∧ w.grownBy w' (some g) := by
  obtain ⟨T, hT⟩ : ∃ T, upL C (j + 1) xs j = T := ⟨_, rfl⟩
  rw [hT]
  have H0 := Lib.hid (show Pl w g cap xs ∧ xs.length = n ∧ upL C (j + 1) xs j = T ∧ (∀ a ∈ xs, a ∈ xs) ∧ w.grownBy w (some g) from ⟨hp, hn, hT, fun _ h => h, grown_of_below (Below.refl _ _) g⟩)
  have HC := Lib.hid hC
  have HP := Lib.hid hc
  clear hp hn hC hT hc
  go_enter Tryz.func58, Tryz.ntmps58
  go_wp2_with fail
  go_loopw [1] (fun jv wr => ∃ (k f : Nat) (ys : List El), jv = .int .i64 (k : Int) ∧ k < n ∧ k < f ∧ Hid (Pl wr g cap ys ∧ ys.length = n ∧ upL C f ys k = T ∧ (∀ a ∈ ys, a ∈ xs) ∧ w.grownBy wr (some g))) (fun jv _ => (intOf jv).toNat)
  case atStart => exact ⟨j, j + 1, xs, rfl, hj, by omega, H0⟩
  case round =>
    obtain ⟨k, f, ys, rfl, hk, hf, hh⟩ := hrel
    have hcell := (grown_cell hh.out.2.2.2.2 hpa hpg).trans HP.out
    by_cases k0 : k = 0
    · subst k0
      obtain ⟨f, rfl⟩ : ∃ f', f = f' + 1 := ⟨f - 1, by omega⟩
      have HE := Lib.hid (upL_stop (C := C) (f := f) (xs := ys) (j := 0) (.inl rfl))
      go_wp2_with fail
      go_end0
      exact ⟨rfl, by rw [← hh.out.2.2.1, HE.out]; exact hh.out.1, hh.out.2.2.2.2⟩
    · obtain ⟨f, rfl⟩ : ∃ f', f = f' + 1 := ⟨f - 1, by omega⟩
      obtain ⟨i, hi⟩ : ∃ i, (k - 1) / 2 = i := ⟨_, rfl⟩
      have hik : i < k := by omega
      have hin : i < n := by omega
      obtain ⟨a, ha⟩ := get_some (xs := ys) (i := k) (by have := hh.out.2.1; omega)
      obtain ⟨b, hb⟩ := get_some (xs := ys) (i := i) (by have := hh.out.2.1; omega)
      have hq : ((k : Int) - 1).tdiv 2 = (i : Int) := by
        rw [show (k : Int) - 1 = ((k - 1 : Nat) : Int) by omega, ← hi]
        rfl
      have hne : ((i : Int) == (k : Int)) = false := by simp; omega
      have HI := Lib.hid hi
      have HAB := Lib.hid (And.intro ha hb)
      have hless := method_val (fuel := 309) m_less pa _ _ _ wr hcell
      clear hi ha hb
      go_wp2_with fail
      refine (less_any g cap n k i ys a b (C a b) wr hh.out.1 HAB.out.1 HAB.out.2 hk hin (fun W hW => HC.out a (hh.out.2.2.2.1 a (List.mem_of_getElem? HAB.out.1)) b (hh.out.2.2.2.1 b (List.mem_of_getElem? HAB.out.2)) W (grown_trans hh.out.2.2.2.2 (grown_of_below hW g)))).mono ?_
      rintro e w1 ⟨rfl, hb1⟩
      have hl : ltAt C ys k ((k - 1) / 2) = decide (C a b < 0) := by rw [HI.out]; simp [ltAt, HAB.out.1, HAB.out.2]
      have hcell1 := (hb1.cell (Nat.lt_of_lt_of_le hpa hh.out.2.2.2.2.size)).trans hcell
      have HB1 := Lib.hid hb1
      clear hb1 hless hcell
      by_cases hz : C a b < 0
      · have HE := Lib.hid (upL_go (C := C) (f := f) (xs := ys) (j := k) (by omega) (by rw [hl]; simpa using hz))
        have hswap := method_val (fuel := 309) m_swap pa _ _ _ w1 hcell1
        have hz' : decide (C a b < 0) = true := by simpa using hz
        clear hl
        go_wp2_with fail
        refine (swap_any g cap n i k ys b a w1 (hh.out.1.below HB1.out) hh.out.2.1 HAB.out.2 HAB.out.1 hin hk).mono ?_
        rintro e w2 ⟨rfl, hp2, hg2⟩
        have HP2 := Lib.hid (And.intro hp2 (grown_trans (grown_trans hh.out.2.2.2.2 (grown_of_below HB1.out g)) hg2))
        clear hp2 hg2 hswap hcell1
        go_wp2_with fail
        go_roundw
        case rel => exact ⟨i, f, sw ys i k, rfl, hin, by omega, Lib.hid ⟨by rw [sw_eq HAB.out.2 HAB.out.1]; exact HP2.out.1, by rw [sw_len]; exact hh.out.2.1, by rw [← hh.out.2.2.1, HE.out, HI.out], fun e he => hh.out.2.2.2.1 e (sw_mem he), HP2.out.2⟩⟩
        case measure => simp [intOf]; omega
      · have HE := Lib.hid (upL_stop (C := C) (f := f) (xs := ys) (j := k) (.inr (by rw [hl]; simpa using hz)))
        have hz' : decide (C a b < 0) = false := by simpa using hz
        clear hl
        go_wp2_with fail
        go_end0
        exact ⟨rfl, by rw [← hh.out.2.2.1, HE.out]; exact hh.out.1.below HB1.out, grown_trans hh.out.2.2.2.2 (grown_of_below HB1.out g)⟩
end Go.Proofs.YtebacmmfjadalaaGreat

namespace Go.Proofs.YtebacmmfjadalaaGreat
open Go Go.RowKit

theorem downL_stop {C : El → El → Int} {f : Nat} {xs : List El} {i m : Nat} (h : m ≤ 2 * i + 1 ∨ ltAt C xs (kid C xs i m) i = false) : downL C (f + 1) xs i m = xs := by rw [downL, if_pos h]
theorem downL_go {C : El → El → Int} {f : Nat} {xs : List El} {i m j : Nat} (hj : kid C xs i m = j) (h1 : ¬ m ≤ 2 * i + 1) (h2 : ltAt C xs j i = true) : downL C (f + 1) xs i m = downL C f (sw xs i j) j m := by
  rw [downL, if_neg, hj]
  rw [hj]
  rintro (h | h)
  · exact h1 h
  · rw [h2] at h; cases h
theorem lt_at {C : El → El → Int} {xs : List El} {i k : Nat} {a b : El} (ha : xs[i]? = some a) (hb : xs[k]? = some b) : ltAt C xs i k = decide (C a b < 0) := by simp [ltAt, ha, hb]

set_option maxRecDepth 8000 in
set_option maxHeartbeats 8000000 in
theorem down_any (C : El → El → Int) (pa : Addr) (g cap n m : Nat) (xs : List El) (w : World) (hp : Pl w g cap xs) (hn : xs.length = n) (hc : w.cell? pa = some (.slice (some ⟨g, 0, none⟩) n cap)) (hpg : pa.block ≠ g) (hpa : pa.block < w.heap.size) (hm : m < n) (h63 : n ≤ 2305843009213693952)
    (hC : ∀ a ∈ xs, ∀ b ∈ xs, ∀ W, w.grownBy W (some g) → Calls Tryz.prog 81 #[a.val, b.val] W fun e w' => e = .returned (.int .i64 (C a b)) ∧ Below W.heap.size W w') :
    Calls Tryz.prog 75 #[.iface 101 (.pointer (some pa)), .int .i64 0, .int .i64 m] w fun e w' => (∃ t, e = .returned (.bool t)) ∧ Pl w' g cap (downL C (m + 1) xs 0 m) ∧ w.grownBy w' (some g) := by
  obtain ⟨T, hT⟩ : ∃ T, downL C (m + 1) xs 0 m = T := ⟨_, rfl⟩
  rw [hT]
  have H0 := Lib.hid (show Pl w g cap xs ∧ xs.length = n ∧ downL C (m + 1) xs 0 m = T ∧ (∀ a ∈ xs, a ∈ xs) ∧ w.grownBy w (some g) from ⟨hp, hn, hT, fun _ h => h, grown_of_below (Below.refl _ _) g⟩)
  have HC := Lib.hid hC
  have HP := Lib.hid hc
  clear hp hn hC hT hc
  go_enter Tryz.func75, Tryz.ntmps75
  go_wp2_with fail
  go_loopw [7] (fun jv wr => ∃ (k f : Nat) (ys : List El), jv = .int .i64 (k : Int) ∧ k ≤ m ∧ m - k < f ∧ Hid (Pl wr g cap ys ∧ ys.length = n ∧ downL C f ys k m = T ∧ (∀ a ∈ ys, a ∈ xs) ∧ w.grownBy wr (some g))) (fun jv _ => m - (intOf jv).toNat)
  case atStart => exact ⟨0, m + 1, xs, rfl, by omega, by omega, H0⟩
  case round =>
    obtain ⟨k, f, ys, rfl, hk, hf, hh⟩ := hrel
    have hcell := (grown_cell hh.out.2.2.2.2 hpa hpg).trans HP.out
    obtain ⟨f, rfl⟩ : ∃ f', f = f' + 1 := ⟨f - 1, by omega⟩
    by_cases k0 : m ≤ 2 * k + 1
    · have HE := Lib.hid (downL_stop (C := C) (f := f) (xs := ys) (i := k) (m := m) (.inl k0))
      have k1 : (m : Int) ≤ 2 * (k : Int) + 1 := by omega
      go_wp2_with fail
      go_ret
      exact ⟨⟨_, rfl⟩, by rw [← hh.out.2.2.1, HE.out]; exact hh.out.1, hh.out.2.2.2.2⟩
    · have k1 : 2 * (k : Int) + 1 < (m : Int) := by omega
      obtain ⟨a, ha⟩ := get_some (xs := ys) (i := k) (by have := hh.out.2.1; omega)
      obtain ⟨b1, hb1⟩ := get_some (xs := ys) (i := 2 * k + 1) (by have := hh.out.2.1; omega)
      have HA := Lib.hid (And.intro ha hb1)
      have W1 : IntKind.i64.wrap (2 * (k : Int)) = 2 * (k : Int) := IntWalk.i64_in _ (by omega)
      have W2 : IntKind.i64.wrap (2 * (k : Int) + 1) = 2 * (k : Int) + 1 := IntWalk.i64_in _ (by omega)
      have W3 : IntKind.i64.wrap (2 * (k : Int) + 1 + 1) = 2 * (k : Int) + 2 := IntWalk.i64_in _ (by omega)
      clear ha hb1
      by_cases k2 : 2 * k + 2 < m
      · obtain ⟨b2, hb2⟩ := get_some (xs := ys) (i := 2 * k + 2) (by have := hh.out.2.1; omega)
        have HB := Lib.hid hb2
        clear hb2
        have k3 : 2 * (k : Int) + 2 < (m : Int) := by omega
        have hless := method_val (fuel := 309) m_less pa _ _ _ wr hcell
        have hL1 := less_any g cap n (2 * k + 2) (2 * k + 1) ys b2 b1 (C b2 b1) wr hh.out.1 HB.out HA.out.2 (by omega) (by omega) (fun W hW => HC.out b2 (hh.out.2.2.2.1 b2 (List.mem_of_getElem? HB.out)) b1 (hh.out.2.2.2.1 b1 (List.mem_of_getElem? HA.out.2)) W (grown_trans hh.out.2.2.2.2 (grown_of_below hW g)))
        rw [show ((2 * k + 2 : Nat) : Int) = 2 * (k : Int) + 2 by omega, show ((2 * k + 1 : Nat) : Int) = 2 * (k : Int) + 1 by omega] at hL1
        have HL1 := Lib.hid hL1
        clear hL1
        go_wp2_with fail
        refine HL1.out.mono ?_
        rintro e w1 ⟨rfl, hb1⟩
        have HB1 := Lib.hid hb1
        have hl1 : ltAt C ys (2 * k + 2) (2 * k + 1) = decide (C b2 b1 < 0) := lt_at HB.out HA.out.2
        have HL2 := Lib.hid hl1
        clear hb1 HL1 hless hl1
        by_cases hz : C b2 b1 < 0
        · have hz' : decide (C b2 b1 < 0) = true := by simpa using hz
          have hkid : kid C ys k m = 2 * k + 2 := by unfold kid; rw [if_pos ⟨k2, by rw [HL2.out]; exact hz'⟩]
          have hcx := (HB1.out.cell (Nat.lt_of_lt_of_le hpa hh.out.2.2.2.2.size)).trans hcell
          have hltx : ltAt C ys (2 * k + 2) k = decide (C b2 a < 0) := lt_at HB.out HA.out.1
          have HGX := Lib.hid (grown_trans hh.out.2.2.2.2 (grown_of_below HB1.out g))
          have HPX := Lib.hid (hh.out.1.below HB1.out)
          have hlessx := method_val (fuel := 309) m_less pa _ _ _ w1 hcx
          have hL := less_any g cap n (2 * k + 2) k ys b2 a (C b2 a) w1 HPX.out HB.out HA.out.1 (by omega) (by omega) (fun W hW => HC.out b2 (hh.out.2.2.2.1 b2 (List.mem_of_getElem? HB.out)) a (hh.out.2.2.2.1 a (List.mem_of_getElem? HA.out.1)) W (grown_trans HGX.out (grown_of_below hW g)))
          rw [show ((2 * k + 2 : Nat) : Int) = 2 * (k : Int) + 2 by omega] at hL
          have HLX := Lib.hid hL
          have HKX := Lib.hid (And.intro hkid hltx)
          have HCX := Lib.hid hcx
          clear hL hkid hltx hcx
          go_wp2_with fail
          refine HLX.out.mono ?_
          rintro e w2 ⟨rfl, hb2⟩
          have hcy := (hb2.cell (Nat.lt_of_lt_of_le hpa HGX.out.size)).trans HCX.out
          have HB2 := Lib.hid hb2
          clear hb2 hlessx HLX
          by_cases hz2 : C b2 a < 0
          · have HE := Lib.hid (downL_go (f := f) HKX.out.1 k0 (by rw [HKX.out.2]; simpa using hz2))
            have hswap := method_val (fuel := 309) m_swap pa _ _ _ w2 hcy
            have hz2' : decide (C b2 a < 0) = true := by simpa using hz2
            have hS := swap_any g cap n k (2 * k + 2) ys a b2 w2 (HPX.out.below HB2.out) hh.out.2.1 HA.out.1 HB.out (by omega) (by omega)
            rw [show ((2 * k + 2 : Nat) : Int) = 2 * (k : Int) + 2 by omega] at hS
            have HS := Lib.hid hS
            clear hS hcy
            go_wp2_with fail
            refine HS.out.mono ?_
            rintro e w3 ⟨rfl, hp3, hg3⟩
            have HP3 := Lib.hid (And.intro hp3 (grown_trans (grown_trans HGX.out (grown_of_below HB2.out g)) hg3))
            clear hp3 hg3 hswap HS
            go_wp2_with fail
            go_roundw
            case rel => exact ⟨2 * k + 2, f, sw ys k (2 * k + 2), congrArg (Value.int .i64) (by omega), by omega, by omega, Lib.hid ⟨by rw [sw_eq HA.out.1 HB.out]; exact HP3.out.1, by rw [sw_len]; exact hh.out.2.1, by rw [← hh.out.2.2.1, HE.out], fun e he => hh.out.2.2.2.1 e (sw_mem he), HP3.out.2⟩⟩
            case measure => simp [intOf]; omega
          · have HE := Lib.hid (downL_stop (C := C) (f := f) (xs := ys) (i := k) (m := m) (.inr (by rw [HKX.out.1, HKX.out.2]; simpa using hz2)))
            have hz2' : decide (C b2 a < 0) = false := by simpa using hz2
            clear hcy
            go_wp2_with fail
            go_ret
            exact ⟨⟨_, rfl⟩, by rw [← hh.out.2.2.1, HE.out]; exact HPX.out.below HB2.out, grown_trans HGX.out (grown_of_below HB2.out g)⟩
        · have hz' : decide (C b2 b1 < 0) = false := by simpa using hz
          have hkid : kid C ys k m = 2 * k + 1 := by unfold kid; rw [if_neg (by rw [HL2.out, hz']; simp)]
          have hcx := (HB1.out.cell (Nat.lt_of_lt_of_le hpa hh.out.2.2.2.2.size)).trans hcell
          have hltx : ltAt C ys (2 * k + 1) k = decide (C b1 a < 0) := lt_at HA.out.2 HA.out.1
          have HGX := Lib.hid (grown_trans hh.out.2.2.2.2 (grown_of_below HB1.out g))
          have HPX := Lib.hid (hh.out.1.below HB1.out)
          have hlessx := method_val (fuel := 309) m_less pa _ _ _ w1 hcx
          have hL := less_any g cap n (2 * k + 1) k ys b1 a (C b1 a) w1 HPX.out HA.out.2 HA.out.1 (by omega) (by omega) (fun W hW => HC.out b1 (hh.out.2.2.2.1 b1 (List.mem_of_getElem? HA.out.2)) a (hh.out.2.2.2.1 a (List.mem_of_getElem? HA.out.1)) W (grown_trans HGX.out (grown_of_below hW g)))
          rw [show ((2 * k + 1 : Nat) : Int) = 2 * (k : Int) + 1 by omega] at hL
          have HLX := Lib.hid hL
          have HKX := Lib.hid (And.intro hkid hltx)
          have HCX := Lib.hid hcx
          clear hL hkid hltx hcx
          go_wp2_with fail
          refine HLX.out.mono ?_
          rintro e w2 ⟨rfl, hb2⟩
          have hcy := (hb2.cell (Nat.lt_of_lt_of_le hpa HGX.out.size)).trans HCX.out
          have HB2 := Lib.hid hb2
          clear hb2 hlessx HLX
          by_cases hz2 : C b1 a < 0
          · have HE := Lib.hid (downL_go (f := f) HKX.out.1 k0 (by rw [HKX.out.2]; simpa using hz2))
            have hswap := method_val (fuel := 309) m_swap pa _ _ _ w2 hcy
            have hz2' : decide (C b1 a < 0) = true := by simpa using hz2
            have hS := swap_any g cap n k (2 * k + 1) ys a b1 w2 (HPX.out.below HB2.out) hh.out.2.1 HA.out.1 HA.out.2 (by omega) (by omega)
            rw [show ((2 * k + 1 : Nat) : Int) = 2 * (k : Int) + 1 by omega] at hS
            have HS := Lib.hid hS
            clear hS hcy
            go_wp2_with fail
            refine HS.out.mono ?_
            rintro e w3 ⟨rfl, hp3, hg3⟩
            have HP3 := Lib.hid (And.intro hp3 (grown_trans (grown_trans HGX.out (grown_of_below HB2.out g)) hg3))
            clear hp3 hg3 hswap HS
            go_wp2_with fail
            go_roundw
            case rel => exact ⟨2 * k + 1, f, sw ys k (2 * k + 1), congrArg (Value.int .i64) (by omega), by omega, by omega, Lib.hid ⟨by rw [sw_eq HA.out.1 HA.out.2]; exact HP3.out.1, by rw [sw_len]; exact hh.out.2.1, by rw [← hh.out.2.2.1, HE.out], fun e he => hh.out.2.2.2.1 e (sw_mem he), HP3.out.2⟩⟩
            case measure => simp [intOf]; omega
          · have HE := Lib.hid (downL_stop (C := C) (f := f) (xs := ys) (i := k) (m := m) (.inr (by rw [HKX.out.1, HKX.out.2]; simpa using hz2)))
            have hz2' : decide (C b1 a < 0) = false := by simpa using hz2
            clear hcy
            go_wp2_with fail
            go_ret
            exact ⟨⟨_, rfl⟩, by rw [← hh.out.2.2.1, HE.out]; exact HPX.out.below HB2.out, grown_trans HGX.out (grown_of_below HB2.out g)⟩
      · have k3 : ¬ 2 * (k : Int) + 2 < (m : Int) := by omega
        have HB1 := Lib.hid (Below.refl wr.heap.size wr)
        have hkid : kid C ys k m = 2 * k + 1 := by unfold kid; rw [if_neg (fun h => k2 h.1)]
        have hcx := (HB1.out.cell (Nat.lt_of_lt_of_le hpa hh.out.2.2.2.2.size)).trans hcell
        have hltx : ltAt C ys (2 * k + 1) k = decide (C b1 a < 0) := lt_at HA.out.2 HA.out.1
        have HGX := Lib.hid (grown_trans hh.out.2.2.2.2 (grown_of_below HB1.out g))
        have HPX := Lib.hid (hh.out.1.below HB1.out)
        have hlessx := method_val (fuel := 309) m_less pa _ _ _ wr hcx
        have hL := less_any g cap n (2 * k + 1) k ys b1 a (C b1 a) wr HPX.out HA.out.2 HA.out.1 (by omega) (by omega) (fun W hW => HC.out b1 (hh.out.2.2.2.1 b1 (List.mem_of_getElem? HA.out.2)) a (hh.out.2.2.2.1 a (List.mem_of_getElem? HA.out.1)) W (grown_trans HGX.out (grown_of_below hW g)))
        rw [show ((2 * k + 1 : Nat) : Int) = 2 * (k : Int) + 1 by omega] at hL
        have HLX := Lib.hid hL
        have HKX := Lib.hid (And.intro hkid hltx)
        have HCX := Lib.hid hcx
        clear hL hkid hltx hcx
        go_wp2_with fail
        refine HLX.out.mono ?_
        rintro e w2 ⟨rfl, hb2⟩
        have hcy := (hb2.cell (Nat.lt_of_lt_of_le hpa HGX.out.size)).trans HCX.out
        have HB2 := Lib.hid hb2
        clear hb2 hlessx HLX
        by_cases hz2 : C b1 a < 0
        · have HE := Lib.hid (downL_go (f := f) HKX.out.1 k0 (by rw [HKX.out.2]; simpa using hz2))
          have hswap := method_val (fuel := 309) m_swap pa _ _ _ w2 hcy
          have hz2' : decide (C b1 a < 0) = true := by simpa using hz2
          have hS := swap_any g cap n k (2 * k + 1) ys a b1 w2 (HPX.out.below HB2.out) hh.out.2.1 HA.out.1 HA.out.2 (by omega) (by omega)
          rw [show ((2 * k + 1 : Nat) : Int) = 2 * (k : Int) + 1 by omega] at hS
          have HS := Lib.hid hS
          clear hS hcy
          go_wp2_with fail
          refine HS.out.mono ?_
          rintro e w3 ⟨rfl, hp3, hg3⟩
          have HP3 := Lib.hid (And.intro hp3 (grown_trans (grown_trans HGX.out (grown_of_below HB2.out g)) hg3))
          clear hp3 hg3 hswap HS
          go_wp2_with fail
          go_roundw
          case rel => exact ⟨2 * k + 1, f, sw ys k (2 * k + 1), congrArg (Value.int .i64) (by omega), by omega, by omega, Lib.hid ⟨by rw [sw_eq HA.out.1 HA.out.2]; exact HP3.out.1, by rw [sw_len]; exact hh.out.2.1, by rw [← hh.out.2.2.1, HE.out], fun e he => hh.out.2.2.2.1 e (sw_mem he), HP3.out.2⟩⟩
          case measure => simp [intOf]; omega
        · have HE := Lib.hid (downL_stop (C := C) (f := f) (xs := ys) (i := k) (m := m) (.inr (by rw [HKX.out.1, HKX.out.2]; simpa using hz2)))
          have hz2' : decide (C b1 a < 0) = false := by simpa using hz2
          clear hcy
          go_wp2_with fail
          go_ret
          exact ⟨⟨_, rfl⟩, by rw [← hh.out.2.2.1, HE.out]; exact HPX.out.below HB2.out, grown_trans HGX.out (grown_of_below HB2.out g)⟩
end Go.Proofs.YtebacmmfjadalaaGreat

namespace Go.Proofs.YtebacmmfjadalaaGreat
open Go Go.RowKit Go.WideShapes

theorem infoT : (Tryz.prog.info? 63).map (fun i => (i.zero, i.size, i.bytes)) = some (some (.agg #[.int .i64 0, .int .i64 0, .int .u32 0, .int .u32 0, .slice none 0 0]), 5, 48) := by kernel_rfl
/-- readings in a row of the call's own: none yet, or an array -/
/- (in blocks from B on) -/
def Row (B : Nat) (w : World) (v : Value) (xs : List El) : Prop := w.ownsRow B 63 5 v xs.length (flat xs)
theorem flat_one : ∀ xs : List El, ∀ u ∈ flat xs, u.oneCell' = true
  | [], u, h => by simp [flat] at h
  | e :: l, u, h => by
    rw [flat, List.mem_append] at h
    rcases h with h | h
    · simp only [El.row, List.mem_cons, List.not_mem_nil, or_false] at h
      rcases h with rfl | rfl | rfl | rfl | rfl <;> rfl
    · exact flat_one l u h
theorem Row.below {B : Nat} {w w' : World} {v : Value} {xs : List El} (h : Row B w v xs) (hb : Below w.heap.size w w') : Row B w' v xs := by
  refine ⟨h.1, ?_⟩
  rcases h.2 with hn | ⟨g, cap, cur, hv, h1, h2, h3⟩
  · exact .inl hn
  · exact .inr ⟨g, cap, cur, hv, h1, (hb.block g (Array.getElem?_eq_some_iff.1 h2).1).trans h2, h3⟩
theorem Row.slice {B : Nat} {w : World} {v : Value} {xs : List El} (h : Row B w v xs) : ∃ A c, v = .slice A xs.length c := by
  rcases h.2 with ⟨hn, h0⟩ | ⟨g, cap, cur, hv, -⟩
  · exact ⟨none, 0, by rw [hn, h0]⟩
  · exact ⟨_, _, hv⟩
theorem Row.own {B : Nat} {w : World} {v : Value} {xs : List El} (h : Row B w v xs) {k : Nat} (hk : k < B) : v.ownBlock ≠ some k := by
  rcases h.2 with ⟨hn, h0⟩ | ⟨g, cap, cur, hv, h1, -⟩
  · rw [hn]; simp [Value.ownBlock]
  · rw [hv]
    simp only [Value.ownBlock]
    intro e
    injection e with e
    omega
theorem Row.set {B : Nat} {w : World} {v : Value} {xs : List El} (h : Row B w v xs) {p : Addr} (hk : p.block < B) (u : Value) : Row B (w.setCell p u) v xs := by
  refine ⟨h.1, ?_⟩
  rcases h.2 with hn | ⟨g, cap, cur, hv, h1, h2, h3⟩
  · exact .inl hn
  · refine .inr ⟨g, cap, cur, hv, h1, ?_, h3⟩
    rw [← h2]
    simp only [World.setCell, Array.getElem?_modify]
    rw [if_neg (by omega)]
theorem run_append_el (B : Nat) (t : TypeId) (ht : Tryz.prog.underlying t = some (.slice 63)) (w : World) (v : Value) (xs : List El) (e : El) (hr : Row B w v xs) (hB : B ≤ w.heap.size) (hlen : xs.length ≤ 1099511627776) (ad : Addr) (c : Nat)
    (hnews : ∀ j, j < 5 → w.cell? (ad.add j) = e.row[j]?) (ty : TypeId) :
    ∃ v' w', (Builtin.append_ #[t, t] ty #[v, .slice (some ad) 1 c]).run Tryz.prog w = .ok v' w' ∧ Row B w' v' (xs ++ [e]) ∧ w.grownBy w' v.ownBlock ∧ (v'.ownBlock = v.ownBlock ∨ v'.ownBlock = some w.heap.size) := by
  obtain ⟨i0, hi0, hz0, hz1, hz2⟩ := info_parts infoT
  obtain ⟨v', w', hrun, hown, hg, -, hat⟩ := run_append_own_at (P := Tryz.prog) w B t ty 63 i0 _ 5 48 ht hi0 hz0 hz1 hz2 rfl (by omega) v xs.length (flat xs) hr
    ad 1 c (flat [e]) (flat_len _) (fun j u hu => by
      have hj : j < 5 := by
        have := (List.getElem?_eq_some_iff.1 hu).1
        rwa [flat_len] at this
      rw [hnews j hj]
      rwa [flat, flat, List.append_nil] at hu) (flat_one _) (by simp only [maxLen]; omega) (by omega) hB
  refine ⟨v', w', hrun, ?_, hg, hat⟩
  unfold Row
  rw [List.length_append, flat_app]
  exact hown
theorem step_append_el {B : Nat} {ops : Array Oper} {o : Oper} {a : Act} {w : World} {K : Act → World → Prop} {Q : Exit → Act → World → Prop} {E : Prop} (hg : o.guard = none) (s x : Operand) (t : TypeId)
    (hop : o.op = Op.call { callee := Callee.builtin Builtin.append, args := #[s, x], argTypes := #[t, t] }) (ht : Tryz.prog.underlying t = some (.slice 63)) (v : Value) (xs : List El) (e : El) (hs : a.eval s = v) (hr : Row B w v xs) (hB : B ≤ w.heap.size) (hlen : xs.length ≤ 1099511627776)
    (ad : Addr) (c : Nat) (hx : a.eval x = .slice (some ad) 1 c) (hnews : ∀ j, j < 5 → w.cell? (ad.add j) = e.row[j]?)
    (hK : ∀ v' w', Row B w' v' (xs ++ [e]) → w.grownBy w' v.ownBlock → (v'.ownBlock = v.ownBlock ∨ v'.ownBlock = some w.heap.size) → K (a.put o.dst v') w') :
    if Region.wanted o (yielded ops a.tmps) = true then Oper.wp Tryz.prog o a w K Q else E := by
  have hw : Region.wanted o (yielded ops a.tmps) = true := by simp [Region.wanted, hg]
  rw [if_pos hw]
  obtain ⟨v', w', hrun, r1, r2, r3⟩ := run_append_el B t ht w v xs e hr hB hlen ad c hnews o.type
  unfold Oper.wp
  simp [execOp, hop, resolve, invoke, builtin, hs, hx, hrun, Result.andThen]
  exact hK v' w' r1 r2 r3

theorem assert_timed (v : Value) (w : World) : Sem.run Tryz.prog (Instr.typeAssert (.iface 63 v) 20 63 false) w = .ok v w := by kernel_rfl

/-- where a row lies behind an append: where it lay, or in a new block -/
def At (v' v : Value) (w : World) : Prop := v'.ownBlock = v.ownBlock ∨ ∃ g, v'.ownBlock = some g ∧ w.heap.size ≤ g

/-- what a call may turn: block g, the cell at p, new blocks -/
structure Fr (w w' : World) (g : Option Nat) (p : Addr) : Prop where
  os : w'.os = w.os
  tape : w'.tape = w.tape
  output : w'.output = w.output
  size : w.heap.size ≤ w'.heap.size
  block : ∀ k, k < w.heap.size → k ≠ p.block → some k ≠ g → w'.heap[k]? = w.heap[k]?
  cell : ∀ a : Addr, a.block = p.block → a ≠ p → w'.cell? a = w.cell? a
  frozen : ∀ a : Addr, a.block = p.block → w'.frozen? a = w.frozen? a

theorem row_new (w : World) (a b c d : Int) (v : Option Addr) (n k : Nat) (T : TypeId) : ∀ j, j < 5 → (w.alloc (.cells #[.int .i64 a, .int .i64 b, .int .u32 c, .int .u32 d, .slice v n k] T)).drew.cell? ((⟨w.heap.size, 0, none⟩ : Addr).add j) = (El.row ⟨a, b, c, d, v, n, k, []⟩)[j]? := by
  intro j hj
  rw [Go.WideShapes.add_plain, Nat.zero_add]
  rcases (by omega : j = 0 ∨ j = 1 ∨ j = 2 ∨ j = 3 ∨ j = 4) with rfl | rfl | rfl | rfl | rfl <;> simp [go_sem, El.row]

theorem grownO_cell {w w' : World} {g : Option Nat} (h : w.grownBy w' g) {p : Addr} (hp : p.block < w.heap.size) (hn : g ≠ some p.block) : w'.cell? p = w.cell? p :=
  World.cell?_of_block (h.block _ hp (fun e => hn e.symm))
theorem grownO_frozen {w w' : World} {g : Option Nat} (h : w.grownBy w' g) {p : Addr} (hp : p.block < w.heap.size) (hn : g ≠ some p.block) : w'.frozen? p = w.frozen? p :=
  World.frozen?_of_block (h.block _ hp (fun e => hn e.symm))

theorem push_fin {B : Nat} {w X w' : World} {g : Option Nat} {pa : Addr} {u : Value} {A : Option Addr} {xs : List El} {k n : Nat} (hb : Below w.heap.size w X) (hg : X.grownBy w' g) (hr : Row B w' (.slice A xs.length k) xs) (hpa : pa.block < w.heap.size) (hpB : pa.block < B) (hpv : g ≠ some pa.block) (hn : xs.length = n)
    (hc : w'.cell? pa = some u) {v : Value} (ha : (Value.slice A xs.length k).ownBlock = v.ownBlock ∨ (Value.slice A xs.length k).ownBlock = some X.heap.size) :
    Ending.returned (Value.tuple #[]) = Ending.returned (Value.tuple #[]) ∧ (∃ v', Row B (w'.setCell pa (.slice A n k)) v' xs ∧ (w'.setCell pa (.slice A n k)).cell? pa = some v' ∧ At v' v w) ∧ Fr w (w'.setCell pa (.slice A n k)) g pa := by
  subst hn
  have hne : ∀ a : Addr, a ≠ pa → (w'.setCell pa (.slice A xs.length k)).cell? a = w'.cell? a := fun a ha => World.cell?_setCell_other _ _ _ _ (fun e => ha e.symm)
  have hbl : ∀ k', k' ≠ pa.block → (w'.setCell pa (.slice A xs.length k)).heap[k']? = w'.heap[k']? := fun k' hk => by
    simp only [World.setCell, Array.getElem?_modify]
    rw [if_neg (fun e => hk e.symm)]
  have hfz : ∀ a : Addr, (w'.setCell pa (.slice A xs.length k)).frozen? a = w'.frozen? a := fun a => by simp [go_sem]
  refine ⟨rfl, ⟨_, hr.set hpB _, by simp [go_sem, hc], ha.imp id (fun h => ⟨_, h, hb.size⟩)⟩, hg.os.trans hb.os, hg.tape.trans hb.tape, hg.output.trans hb.output, by simp [World.setCell]; exact Nat.le_trans hb.size hg.size, fun k' h1 h2 h3 => ?_, fun a h1 h2 => ?_, fun a h1 => ?_⟩
  · rw [hbl k' h2, hg.block k' (Nat.lt_of_lt_of_le h1 hb.size) h3, hb.block k' h1]
  · rw [hne a h2, grownO_cell hg (by rw [h1]; exact Nat.lt_of_lt_of_le hpa hb.size) (by rw [h1]; exact hpv)]
    exact hb.cell (by rw [h1]; exact hpa)
  · rw [hfz, grownO_frozen hg (by rw [h1]; exact Nat.lt_of_lt_of_le hpa hb.size) (by rw [h1]; exact hpv)]
    exact hb.frozen (by rw [h1]; exact hpa)

set_option maxRecDepth 8000 in
set_option maxHeartbeats 2000000 in
theorem push_any (B : Nat) (pa : Addr) (v : Value) (xs : List El) (e : El) (w : World) (hr : Row B w v xs) (hB : B ≤ w.heap.size) (hc : w.cell? pa = some v) (hf : w.frozen? pa = false) (hpB : pa.block < B) (hlen : xs.length ≤ 1099511627776) :
    Calls Tryz.prog 151 #[.pointer (some pa), .iface 63 e.val] w fun e' w' => e' = .returned (.tuple #[]) ∧ (∃ v', Row B w' v' (xs ++ [e]) ∧ w'.cell? pa = some v' ∧ At v' v w) ∧ Fr w w' v.ownBlock pa := by
  obtain ⟨at_, se, sq, st, vv, vn, vc, vb⟩ := e
  unfold El.val
  simp only
  have HB := Lib.hid (((Below.refl w.heap.size w).alloc (Nat.le_refl _) (.cells #[.int .i64 at_, .int .i64 se, .int .u32 sq, .int .u32 st, .slice vv vn vc] 63)).drew)
  have HR := Lib.hid (hr.below HB.out)
  have hpa : pa.block < w.heap.size := by omega
  have hpv := hr.own hpB
  have hBs : B ≤ ((w.alloc (.cells #[.int .i64 at_, .int .i64 se, .int .u32 sq, .int .u32 st, .slice vv vn vc] 63)).drew).heap.size := Nat.le_trans hB HB.out.size
  clear hr
  have hta := fun W => assert_timed (.agg #[.int .i64 at_, .int .i64 se, .int .u32 sq, .int .u32 st, .slice vv vn vc]) W
  go_enter Tryz.func151, Tryz.ntmps151
  go_wp2_with fail
  go_region_law ((refine step_append_el rfl (.tmp 7) (.tmp 10) 75 rfl Tryz.underlying75 v xs ⟨at_, se, sq, st, vv, vn, vc, vb⟩ (by simp [Act.eval]) HR.out hBs hlen ⟨w.heap.size, 0, none⟩ 1 (by simp [Act.eval]) (row_new w _ _ _ _ _ _ _ _) ?_); intro v' w' hr1 hg1 ha1; obtain ⟨A1, k1, rfl⟩ := hr1.slice; have c1 := (grownO_cell hg1 (p := pa) (Nat.lt_of_lt_of_le hpa HB.out.size) hpv).trans ((HB.out.cell hpa).trans hc); have f1 := (grownO_frozen hg1 (p := pa) (Nat.lt_of_lt_of_le hpa HB.out.size) hpv).trans ((HB.out.frozen hpa).trans hf); have HR1 := Lib.hid hr1; have HG1 := Lib.hid hg1; have HA1 := Lib.hid ha1; clear hr1 hg1 ha1)
  all_goals go_end0
  all_goals exact push_fin HB.out HG1.out HR1.out hpa hpB hpv (by first | rfl | exact List.length_append) c1 HA1.out
end Go.Proofs.YtebacmmfjadalaaGreat

namespace Go.Proofs.YtebacmmfjadalaaGreat
open Go Go.RowKit

theorem len_any (v : Option Addr) (n c : Nat) (w : World) : Calls Tryz.prog 144 #[.slice v n c] w fun e w' => e = .returned (.int .i64 n) ∧ w = w' := by
  go_enter Tryz.func144, Tryz.ntmps144
  go_wp2_with fail
  go_ret
  exact ⟨rfl, rfl⟩

theorem Fr.grown {w w1 w2 : World} {o : Option Nat} {pa : Addr} {g : Nat} (h : Fr w w1 o pa) (k : w1.grownBy w2 (some g)) (hg : some g = o ∨ w.heap.size ≤ g) (hgp : pa.block ≠ g) (hpa : pa.block < w.heap.size) : Fr w w2 o pa := by
  refine ⟨k.os.trans h.os, k.tape.trans h.tape, k.output.trans h.output, Nat.le_trans h.size k.size, fun i h1 h2 h3 => ?_, fun a h1 h2 => ?_, fun a h1 => ?_⟩
  · rw [k.block i (Nat.lt_of_lt_of_le h1 h.size) (by
      intro e
      injection e with e
      subst e
      rcases hg with hg | hg
      · exact h3 hg
      · omega), h.block i h1 h2 h3]
  · rw [grown_cell k (by rw [h1]; exact Nat.lt_of_lt_of_le hpa h.size) (by rw [h1]; exact hgp), h.cell a h1 h2]
  · rw [World.frozen?_of_block (k.block a.block (by rw [h1]; exact Nat.lt_of_lt_of_le hpa h.size) (by rw [h1]; intro e; injection e with e; exact hgp e)), h.frozen a h1]
theorem Row.pl {B : Nat} {w : World} {v : Value} {xs : List El} (h : Row B w v xs) (hx : 0 < xs.length) : ∃ g cap, v = .slice (some ⟨g, 0, none⟩) xs.length cap ∧ B ≤ g ∧ Pl w g cap xs := by
  rcases h.2 with ⟨hn, h0⟩ | ⟨g, cap, cur, hv, h1, h2⟩
  · omega
  · subst hv
    exact ⟨g, cap, rfl, h1, h.1, .inr ⟨g, cap, cur, rfl, Nat.zero_le _, h2⟩⟩
theorem Pl.row {B : Nat} {w : World} {g cap : Nat} {xs : List El} (h : Pl w g cap xs) (hB : B ≤ g) : Row B w (.slice (some ⟨g, 0, none⟩) xs.length cap) xs := by
  refine ⟨h.1, ?_⟩
  rcases h.2 with ⟨h', _⟩ | ⟨g', cap', cur, h', h1, h2⟩
  · simp at h'
  · have e1 : g = g' := by injection h' with e1; injection e1 with e1; injection e1
    subst e1
    exact .inr ⟨g, cap', cur, h', hB, h2⟩
theorem upL_len (C : El → El → Int) : ∀ (f : Nat) (xs : List El) (j : Nat), (upL C f xs j).length = xs.length
  | 0, _, _ => rfl
  | f + 1, xs, j => by
    rw [upL]
    split
    · rfl
    · rw [upL_len, sw_len]
theorem upL_mem (C : El → El → Int) : ∀ (f : Nat) (xs : List El) (j : Nat) (e : El), e ∈ upL C f xs j → e ∈ xs
  | 0, _, _, _, h => h
  | f + 1, xs, j, e, h => by
    rw [upL] at h
    split at h
    · exact h
    · exact sw_mem (upL_mem C f _ _ e h)

set_option maxRecDepth 8000 in
set_option maxHeartbeats 2000000 in
theorem hpush_any (C : El → El → Int) (B : Nat) (pa : Addr) (v : Value) (xs : List El) (n : Nat) (e : El) (w : World) (hr : Row B w v xs) (hn : xs.length = n) (hB : B ≤ w.heap.size) (hc : w.cell? pa = some v) (hf : w.frozen? pa = false) (hpB : pa.block < B) (hlen : n ≤ 1099511627776)
    (hC : ∀ a ∈ xs ++ [e], ∀ b ∈ xs ++ [e], ∀ W, Fr w W v.ownBlock pa → Calls Tryz.prog 81 #[a.val, b.val] W fun e w' => e = .returned (.int .i64 (C a b)) ∧ Below W.heap.size W w') :
    Calls Tryz.prog 35 #[.iface 101 (.pointer (some pa)), .iface 63 e.val] w fun e' w' => e' = .returned (.tuple #[]) ∧ (∃ v', Row B w' v' (upL C (n + 1) (xs ++ [e]) n) ∧ w'.cell? pa = some v' ∧ At v' v w) ∧ Fr w w' v.ownBlock pa := by
  have hpa : pa.block < w.heap.size := by omega
  have HP := Lib.hid (push_any B pa v xs e w hr hB hc hf hpB (by omega))
  have HC := Lib.hid hC
  have hpush := method_ptr (fuel := 309) m_push pa w
  obtain ⟨ev, hev⟩ : ∃ x, e.val = x := ⟨_, rfl⟩
  rw [hev] at HP ⊢
  clear hr hC hc hf hev
  go_enter Tryz.func35, Tryz.ntmps35
  go_wp2_with fail
  refine HP.out.mono ?_
  rintro e1 w1 ⟨rfl, ⟨v1, hr1, hc1, ha1⟩, hF1⟩
  have hl1 : (xs ++ [e]).length = n + 1 := by rw [List.length_append, hn]; rfl
  obtain ⟨g, cap, rfl, hBg, hp1⟩ := hr1.pl (by omega)
  rw [hl1] at hc1 ha1
  have hgp : pa.block ≠ g := by omega
  have HA := Lib.hid ha1
  have HF := Lib.hid hF1
  have HL := Lib.hid hp1
  have hlenm := method_val (fuel := 309) m_len pa _ _ _ w1 hc1
  have hg0 : some g = v.ownBlock ∨ w.heap.size ≤ g := by
    rcases ha1 with h | ⟨g', h, h'⟩
    · exact .inl h
    · injection h with h
      subst h
      exact .inr h'
  have HU := Lib.hid (up_any C pa g cap (n + 1) n (xs ++ [e]) w1 hp1 hl1 hc1 hgp (Nat.lt_of_lt_of_le hpa hF1.size) (by omega) (by omega) (fun a ha b hb W hW => HC.out a ha b hb W (hF1.grown hW hg0 hgp hpa)))
  have HC1 := Lib.hid hc1
  clear hr1 hc1 ha1 hF1 hp1 HP hpush HC
  go_wp2_with fail
  refine (len_any _ _ _ _).mono ?_
  rintro e1 w2 ⟨rfl, rfl⟩
  clear hlenm
  have hw1 : IntKind.i64.wrap (((n + 1 : Nat) : Int) - 1) = (n : Int) := by rw [IntWalk.i64_in _ (by omega)]; omega
  go_wp2_with fail
  refine HU.out.mono ?_
  rintro e1 w3 ⟨rfl, hp3, hg3⟩
  have HP3 := Lib.hid (And.intro hp3 hg3)
  clear hp3 hg3 HU
  go_wp2_with fail
  go_end0
  have hr3 := HP3.out.1.row hBg
  rw [upL_len, hl1] at hr3
  exact ⟨rfl, ⟨_, hr3, (grown_cell HP3.out.2 (Nat.lt_of_lt_of_le hpa HF.out.size) hgp).trans HC1.out, HA.out⟩, HF.out.grown HP3.out.2 hg0 hgp hpa⟩
end Go.Proofs.YtebacmmfjadalaaGreat

namespace Go.Proofs.YtebacmmfjadalaaGreat
open Go Go.RowKit

theorem Pl.take {w : World} {g cap : Nat} {xs ys : List El} (h : Pl w g cap (xs ++ ys)) : Pl w g cap xs := by
  refine ⟨flat_len xs, ?_⟩
  rcases h.2 with ⟨h', _⟩ | ⟨g', cap', cur, h', h1, h2, h3, h4, h5, h6⟩
  · simp at h'
  · have e1 : g = g' := by injection h' with e1; injection e1 with e1; injection e1
    have e2 : cap = cap' := by injection h'
    subst e1 e2
    refine .inr ⟨g, cap, cur, rfl, h1, h2, ?_, h4, h5, ?_⟩
    · rw [List.length_append] at h3; omega
    · have h7 := congrArg (List.take (xs.length * 5)) h6
      rw [flat_app, List.take_take, List.length_append, Nat.min_eq_left (by omega), List.take_left' (flat_len xs)] at h7
      exact h7
theorem Fr.of_below {w w' : World} (h : Below w.heap.size w w') (o : Option Nat) {pa : Addr} (hpa : pa.block < w.heap.size) : Fr w w' o pa :=
  ⟨h.os, h.tape, h.output, h.size, fun k hk _ _ => h.block k hk, fun a ha _ => h.cell (by rw [ha]; exact hpa), fun a ha => h.frozen (by rw [ha]; exact hpa)⟩
theorem Fr.set {w w' : World} {o : Option Nat} {pa : Addr} (h : Fr w w' o pa) (u : Value) : Fr w (w'.setCell pa u) o pa := by
  refine ⟨h.os, h.tape, h.output, by simp [World.setCell]; exact h.size, fun k h1 h2 h3 => ?_, fun a h1 h2 => ?_, fun a h1 => ?_⟩
  · rw [← h.block k h1 h2 h3]
    simp only [World.setCell, Array.getElem?_modify]
    rw [if_neg (fun e => h2 e.symm)]
  · rw [World.cell?_setCell_other _ _ _ _ (fun e => h2 e.symm), h.cell a h1 h2]
  · rw [show (w'.setCell pa u).frozen? a = w'.frozen? a by simp [go_sem], h.frozen a h1]
theorem Pl.setCell {w : World} {g cap : Nat} {xs : List El} (h : Pl w g cap xs) {p : Addr} (hp : p.block ≠ g) (u : Value) : Pl (w.setCell p u) g cap xs := by
  refine ⟨h.1, ?_⟩
  rcases h.2 with ⟨h', _⟩ | ⟨g', cap', cur, h', h1, h2, h3⟩
  · simp at h'
  · have e1 : g = g' := by injection h' with e1; injection e1 with e1; injection e1
    subst e1
    refine .inr ⟨g, cap', cur, h', h1, ?_, h3⟩
    rw [← h2]
    simp only [World.setCell, Array.getElem?_modify]
    rw [if_neg hp]

theorem box_kept (w : World) (pa : Addr) (u : Value) (a b c d : Int) (v : Option Addr) (n k : Nat) (T : TypeId) (hpa : pa.block < w.heap.size) :
    ((w.alloc (.cells #[.int .i64 a, .int .i64 b, .int .u32 c, .int .u32 d, .slice v n k] T)).setCell pa u).cell? ⟨w.heap.size, 0, none⟩ = some (.int .i64 a) ∧ ((w.alloc (.cells #[.int .i64 a, .int .i64 b, .int .u32 c, .int .u32 d, .slice v n k] T)).setCell pa u).cell? ⟨w.heap.size, 1, none⟩ = some (.int .i64 b) ∧
    ((w.alloc (.cells #[.int .i64 a, .int .i64 b, .int .u32 c, .int .u32 d, .slice v n k] T)).setCell pa u).cell? ⟨w.heap.size, 2, none⟩ = some (.int .u32 c) ∧ ((w.alloc (.cells #[.int .i64 a, .int .i64 b, .int .u32 c, .int .u32 d, .slice v n k] T)).setCell pa u).cell? ⟨w.heap.size, 3, none⟩ = some (.int .u32 d) ∧
    ((w.alloc (.cells #[.int .i64 a, .int .i64 b, .int .u32 c, .int .u32 d, .slice v n k] T)).setCell pa u).cell? ⟨w.heap.size, 4, none⟩ = some (.slice v n k) := by
  have h : ∀ i, ((w.alloc (.cells #[.int .i64 a, .int .i64 b, .int .u32 c, .int .u32 d, .slice v n k] T)).setCell pa u).cell? ⟨w.heap.size, i, none⟩ = (w.alloc (.cells #[.int .i64 a, .int .i64 b, .int .u32 c, .int .u32 d, .slice v n k] T)).cell? ⟨w.heap.size, i, none⟩ :=
    fun i => World.cell?_setCell_other _ _ _ _ (by rintro rfl; simp at hpa)
  refine ⟨(h 0).trans ?_, (h 1).trans ?_, (h 2).trans ?_, (h 3).trans ?_, (h 4).trans ?_⟩ <;> simp [go_sem]

set_option maxRecDepth 8000 in
set_option maxHeartbeats 2000000 in
theorem pop_any (pa : Addr) (g cap n : Nat) (ys : List El) (e : El) (w : World) (hp : Pl w g cap (ys ++ [e])) (hn : ys.length = n) (hc : w.cell? pa = some (.slice (some ⟨g, 0, none⟩) (n + 1) cap)) (hf : w.frozen? pa = false) (hpg : pa.block ≠ g) (hpa : pa.block < w.heap.size) (h63 : n ≤ 1099511627776) (hcap : n + 1 ≤ cap) :
    Calls Tryz.prog 150 #[.pointer (some pa)] w fun e' w' => e' = .returned (.iface 63 e.val) ∧ Pl w' g cap ys ∧ w'.cell? pa = some (.slice (some ⟨g, 0, none⟩) n cap) ∧ Fr w w' none pa := by
  have he : (ys ++ [e])[n]? = some e := by rw [← hn, List.getElem?_append_right (Nat.le_refl _)]; simp
  obtain ⟨a0, a1, a2, a3, a4⟩ := hp.cells he
  have hg := hp.lt
  obtain ⟨at_, se, sq, st, v, vn, vc, vb⟩ := e
  simp only at a0 a1 a2 a3 a4
  unfold El.val
  simp only
  have HP := Lib.hid (And.intro hp hn)
  have i0 : (0 : Int) ≤ (n : Int) := by omega
  have i1 : (n : Int) < ((n + 1 : Nat) : Int) := by omega
  have w1 : IntKind.i64.wrap (((n + 1 : Nat) : Int) - 1) = (n : Int) := by rw [IntWalk.i64_in _ (by omega)]; omega
  have i2 : (n : Int) ≤ (cap : Int) := by omega
  obtain ⟨c0, c1, c2, c3, c4⟩ := box_kept w pa (.slice (some ⟨g, 0, none⟩) n cap) at_ se sq st v vn vc 63 hpa
  have f1 : (w.alloc (.cells #[.int .i64 at_, .int .i64 se, .int .u32 sq, .int .u32 st, .slice v vn vc] 63)).frozen? pa = false := (((Below.refl w.heap.size w).alloc (Nat.le_refl _) _).frozen hpa).trans hf
  clear hp hn he
  go_enter Tryz.func150, Tryz.ntmps150
  go_wp2_with fail
  go_ret
  have hB := (Below.refl w.heap.size w).alloc (Nat.le_refl _) (.cells #[.int .i64 at_, .int .i64 se, .int .u32 sq, .int .u32 st, .slice v vn vc] 63)
  exact ⟨rfl, ((HP.out.1.take).below hB).setCell hpg _, by simp [go_sem, World.cell?_alloc_lt, hpa, hc], (Fr.of_below hB _ hpa).set _⟩

theorem kid_lt {C : El → El → Int} {xs : List El} {i m : Nat} (h : ¬ m ≤ 2 * i + 1) : i < kid C xs i m ∧ kid C xs i m < m := by
  unfold kid
  split <;> omega
theorem downL_len (C : El → El → Int) : ∀ (f : Nat) (xs : List El) (i m : Nat), (downL C f xs i m).length = xs.length
  | 0, _, _, _ => rfl
  | f + 1, xs, i, m => by
    rw [downL]
    split
    · rfl
    · rw [downL_len, sw_len]
theorem downL_mem (C : El → El → Int) : ∀ (f : Nat) (xs : List El) (i m : Nat) (e : El), e ∈ downL C f xs i m → e ∈ xs
  | 0, _, _, _, _, h => h
  | f + 1, xs, i, m, e, h => by
    rw [downL] at h
    split at h
    · exact h
    · exact sw_mem (downL_mem C f _ _ _ e h)
theorem sw_at {xs : List El} {i k j : Nat} (h1 : j ≠ i) (h2 : j ≠ k) : (sw xs i k)[j]? = xs[j]? := by
  unfold sw
  split
  · rw [List.getElem?_set_ne (fun e => h2 e.symm), List.getElem?_set_ne (fun e => h1 e.symm)]
  · rfl
theorem downL_at (C : El → El → Int) : ∀ (f : Nat) (xs : List El) (i m k : Nat), m ≤ k → (downL C f xs i m)[k]? = xs[k]?
  | 0, _, _, _, _, _ => rfl
  | f + 1, xs, i, m, k, h => by
    rw [downL]
    split
    · rfl
    · rename_i hn
      have hk := kid_lt (C := C) (xs := xs) (i := i) (m := m) (fun h => hn (.inl h))
      rw [downL_at C f _ _ m k h, sw_at (by omega) (by omega)]
theorem popL_len {C : El → El → Int} {xs : List El} {n : Nat} (h : xs.length = n + 1) : (popL C xs n).length = n := by
  unfold popL
  rw [List.length_take, downL_len, sw_len]
  omega
theorem popL_mem {C : El → El → Int} {xs : List El} {n : Nat} {e : El} (h : e ∈ popL C xs n) : e ∈ xs := sw_mem (downL_mem C _ _ _ _ e (List.mem_of_mem_take h))
theorem sw_last {xs : List El} {n : Nat} {a : El} (hn : xs.length = n + 1) (ha : xs[0]? = some a) : (sw xs 0 n)[n]? = some a := by
  obtain ⟨b, hb⟩ := get_some (xs := xs) (i := n) (by omega)
  rw [sw_eq ha hb, List.getElem?_set_self (by rw [List.length_set]; omega)]
theorem popL_eq {C : El → El → Int} {xs : List El} {n : Nat} {a : El} (hn : xs.length = n + 1) (ha : xs[0]? = some a) : downL C (n + 1) (sw xs 0 n) 0 n = popL C xs n ++ [a] := by
  have h1 := (downL_at C (n + 1) (sw xs 0 n) 0 n n (Nat.le_refl _)).trans (sw_last hn ha)
  have h2 : (downL C (n + 1) (sw xs 0 n) 0 n).length = n + 1 := by rw [downL_len, sw_len, hn]
  unfold popL
  generalize downL C (n + 1) (sw xs 0 n) 0 n = zs at *
  have h3 : zs.drop n = [a] := by
    have h4 : n < zs.length := by omega
    rw [List.drop_eq_getElem_cons h4, List.drop_eq_nil_of_le (by omega)]
    rw [List.getElem?_eq_getElem h4] at h1
    injection h1 with h1
    rw [h1]
  rw [← h3, List.take_append_drop]
theorem Pl.cap {w : World} {g cap : Nat} {xs : List El} (h : Pl w g cap xs) : xs.length ≤ cap := by
  rcases h.2 with ⟨h', _⟩ | ⟨g', cap', cur, h', h1, h2, h3, _⟩
  · simp at h'
  · have e2 : cap = cap' := by injection h'
    omega
theorem Fr.refl (w : World) (o : Option Nat) (pa : Addr) : Fr w w o pa := ⟨rfl, rfl, rfl, Nat.le_refl _, fun _ _ _ _ => rfl, fun _ _ _ => rfl, fun _ _ => rfl⟩
theorem Fr.trans {w w1 w2 : World} {o : Option Nat} {pa : Addr} (h : Fr w w1 o pa) (k : Fr w1 w2 o pa) : Fr w w2 o pa :=
  ⟨k.os.trans h.os, k.tape.trans h.tape, k.output.trans h.output, Nat.le_trans h.size k.size, fun i h1 h2 h3 => (k.block i (Nat.lt_of_lt_of_le h1 h.size) h2 h3).trans (h.block i h1 h2 h3),
    fun a h1 h2 => (k.cell a h1 h2).trans (h.cell a h1 h2), fun a h1 => (k.frozen a h1).trans (h.frozen a h1)⟩
theorem Fr.of_none {w w' : World} {o : Option Nat} {pa : Addr} (h : Fr w w' none pa) : Fr w w' o pa := ⟨h.os, h.tape, h.output, h.size, fun k h1 h2 _ => h.block k h1 h2 (by simp), h.cell, h.frozen⟩

set_option maxRecDepth 8000 in
set_option maxHeartbeats 4000000 in
theorem hpop_any (C : El → El → Int) (pa : Addr) (g cap n : Nat) (xs : List El) (a : El) (w : World) (hp : Pl w g cap xs) (hn : xs.length = n + 1) (ha : xs[0]? = some a) (hc : w.cell? pa = some (.slice (some ⟨g, 0, none⟩) (n + 1) cap)) (hf : w.frozen? pa = false) (hpg : pa.block ≠ g) (hpa : pa.block < w.heap.size) (h63 : n ≤ 1099511627776)
    (hC : ∀ a ∈ xs, ∀ b ∈ xs, ∀ W, Fr w W (some g) pa → Calls Tryz.prog 81 #[a.val, b.val] W fun e w' => e = .returned (.int .i64 (C a b)) ∧ Below W.heap.size W w') :
    Calls Tryz.prog 60 #[.iface 101 (.pointer (some pa))] w fun e' w' => e' = .returned (.iface 63 a.val) ∧ Pl w' g cap (popL C xs n) ∧ w'.cell? pa = some (.slice (some ⟨g, 0, none⟩) n cap) ∧ Fr w w' (some g) pa := by
  obtain ⟨b, hb⟩ := get_some (xs := xs) (i := n) (by omega)
  have HS := Lib.hid (swap_any g cap (n + 1) 0 n xs a b w hp hn ha hb (by omega) (by omega))
  have HAB := Lib.hid (And.intro ha hb)
  have hcap := hp.cap
  have HC := Lib.hid hC
  have HC0 := Lib.hid hc
  have HN := Lib.hid hn
  obtain ⟨av, hav⟩ : ∃ x, a.val = x := ⟨_, rfl⟩
  have hlenm := method_val (fuel := 309) m_len pa _ _ _ w hc
  have hswap := method_val (fuel := 309) m_swap pa _ _ _ w hc
  have hw1 : IntKind.i64.wrap (((n + 1 : Nat) : Int) - 1) = (n : Int) := by rw [IntWalk.i64_in _ (by omega)]; omega
  rw [hav]
  clear hC ha hb hn hc
  go_enter Tryz.func60, Tryz.ntmps60
  go_wp2_with fail
  refine (len_any _ _ _ _).mono ?_
  rintro e1 w1 ⟨rfl, rfl⟩
  go_wp2_with fail
  refine HS.out.mono ?_
  rintro e1 w1 ⟨rfl, hp1, hg1⟩
  rw [← sw_eq HAB.out.1 HAB.out.2] at hp1
  have hF1 := (Fr.refl w (some g) pa).grown hg1 (.inl rfl) hpg hpa
  have hc1 := (grown_cell hg1 hpa hpg).trans HC0.out
  have HD := Lib.hid (down_any C pa g cap (n + 1) n (sw xs 0 n) w1 hp1 (by rw [sw_len, HN.out]) hc1 hpg (Nat.lt_of_lt_of_le hpa hF1.size) (by omega) (by omega) (fun a ha b hb W hW => HC.out a (sw_mem ha) b (sw_mem hb) W (hF1.grown hW (.inl rfl) hpg hpa)))
  have HF1 := Lib.hid hF1
  have HC1 := Lib.hid hc1
  clear hp1 hg1 hF1 hc1 HS hlenm hswap
  go_wp2_with fail
  refine HD.out.mono ?_
  rintro e1 w2 ⟨⟨t, rfl⟩, hp2, hg2⟩
  rw [popL_eq HN.out HAB.out.1] at hp2
  have hF2 := HF1.out.grown hg2 (.inl rfl) hpg hpa
  have hc2 := (grown_cell hg2 (Nat.lt_of_lt_of_le hpa HF1.out.size) hpg).trans HC1.out
  have HP := Lib.hid (pop_any pa g cap n (popL C xs n) a w2 hp2 (popL_len HN.out) hc2 (by rw [hF2.frozen pa rfl]; exact hf) hpg (Nat.lt_of_lt_of_le hpa hF2.size) h63 (by have := HN.out; omega))
  have hpopm := method_ptr (fuel := 309) m_pop pa w2
  have HF2 := Lib.hid hF2
  rw [hav] at HP
  clear hp2 hg2 hF2 hc2 HD HC1 HF1
  go_wp2_with fail
  refine HP.out.mono ?_
  rintro e1 w3 ⟨rfl, hp3, hc3, hF3⟩
  have HP3 := Lib.hid (And.intro hp3 (And.intro hc3 hF3))
  clear hp3 hc3 hF3 hpopm
  go_wp2_with fail
  go_ret
  exact ⟨rfl, HP3.out.1, HP3.out.2.1, HF2.out.trans HP3.out.2.2.of_none⟩
end Go.Proofs.YtebacmmfjadalaaGreat

namespace Go.Proofs.YtebacmmfjadalaaGreat
open Go Go.RowKit

/-- what is known of a sensor -/
structure Sn where
  o : Int
  n : Int
  d : Int
  last : Int
  some : Bool
  most : Int
  taken : Int
def SnAt (w : World) (b off : Nat) (s : Sn) : Prop :=
  w.cell? ⟨b, off, none⟩ = some (.int .i64 s.o) ∧ w.cell? ⟨b, off + 1, none⟩ = some (.int .i64 s.n) ∧ w.cell? ⟨b, off + 2, none⟩ = some (.int .i64 s.d) ∧ w.cell? ⟨b, off + 3, none⟩ = some (.int .i64 s.last) ∧
  w.cell? ⟨b, off + 4, none⟩ = some (.bool s.some) ∧ w.cell? ⟨b, off + 5, none⟩ = some (.int .u32 s.most) ∧ w.cell? ⟨b, off + 6, none⟩ = some (.int .u64 s.taken)

set_option maxRecDepth 8000 in
set_option maxHeartbeats 1000000 in
theorem age_any (b off : Nat) (s : Sn) (q : Int) (w : World) (hs : SnAt w b off s) :
    Calls Tryz.prog 33 #[.pointer (some ⟨b, off, none⟩), .int .u32 q] w fun e w' => e = .returned (.tuple #[.int .u32 ((s.most - q) % 4294967296), .bool (s.some && decide (q ≤ s.most))]) ∧ w' = w.drew := by
  obtain ⟨o, n, d, last, sm, most, taken⟩ := s
  obtain ⟨-, -, -, -, h4, h5, -⟩ := hs
  simp only at h4 h5 ⊢
  cases sm
  · go_enter Tryz.func33, Tryz.ntmps33
    go_wp2_with fail
    go_region
    all_goals go_wp2_with fail
    all_goals go_ret2
    all_goals exact ⟨rfl, rfl⟩
  · go_enter Tryz.func33, Tryz.ntmps33
    go_wp2_with fail
    go_region
    all_goals go_wp2_with fail
    all_goals go_ret2
    all_goals exact ⟨by simp, rfl⟩

/-- what a call may turn: block row, the cells that ok names, new blocks -/
structure Ch (w w' : World) (row : Option Nat) (ok : Addr → Prop) : Prop where
  os : w'.os = w.os
  tape : w'.tape = w.tape
  output : w'.output = w.output
  size : w.heap.size ≤ w'.heap.size
  block : ∀ k, k < w.heap.size → some k ≠ row → (∀ i, ¬ ok ⟨k, i, none⟩) → w'.heap[k]? = w.heap[k]?
  cell : ∀ a : Addr, a.block < w.heap.size → some a.block ≠ row → ¬ ok a → w'.cell? a = w.cell? a
  frozen : ∀ a : Addr, a.block < w.heap.size → some a.block ≠ row → w'.frozen? a = w.frozen? a
theorem Ch.refl (w : World) (row : Option Nat) (ok : Addr → Prop) : Ch w w row ok := ⟨rfl, rfl, rfl, Nat.le_refl _, fun _ _ _ _ => rfl, fun _ _ _ _ => rfl, fun _ _ _ => rfl⟩
theorem Ch.drew {w w' : World} {row : Option Nat} {ok : Addr → Prop} (h : Ch w w' row ok) : Ch w w'.drew row ok := ⟨h.os, h.tape, h.output, h.size, h.block, h.cell, h.frozen⟩
theorem Ch.trans {w w1 w2 : World} {row : Option Nat} {ok : Addr → Prop} (h : Ch w w1 row ok) (k : Ch w1 w2 row ok) : Ch w w2 row ok :=
  ⟨k.os.trans h.os, k.tape.trans h.tape, k.output.trans h.output, Nat.le_trans h.size k.size, fun i h1 h2 h3 => (k.block i (Nat.lt_of_lt_of_le h1 h.size) h2 h3).trans (h.block i h1 h2 h3),
    fun a h1 h2 h3 => (k.cell a (Nat.lt_of_lt_of_le h1 h.size) h2 h3).trans (h.cell a h1 h2 h3), fun a h1 h2 => (k.frozen a (Nat.lt_of_lt_of_le h1 h.size) h2).trans (h.frozen a h1 h2)⟩
theorem Ch.mono {w w' : World} {row row' : Option Nat} {ok ok' : Addr → Prop} (h : Ch w w' row ok) (hr : row = row' ∨ row = none) (ho : ∀ a, ok a → ok' a) : Ch w w' row' ok' := by
  have hr' : ∀ k, some k ≠ row' → some k ≠ row := fun k hk e => by
    rcases hr with hr | hr
    · exact hk (e.trans hr)
    · rw [hr] at e; cases e
  exact ⟨h.os, h.tape, h.output, h.size, fun k h1 h2 h3 => h.block k h1 (hr' k h2) (fun i hi => h3 i (ho _ hi)), fun a h1 h2 h3 => h.cell a h1 (hr' _ h2) (fun hi => h3 (ho _ hi)), fun a h1 h2 => h.frozen a h1 (hr' _ h2)⟩
theorem Ch.set {w w' : World} {row : Option Nat} {ok : Addr → Prop} (h : Ch w w' row ok) {b i : Nat} (hp : ok ⟨b, i, none⟩) (u : Value) : Ch w (w'.setCell ⟨b, i, none⟩ u) row ok := by
  refine ⟨h.os, h.tape, h.output, by simp [World.setCell]; exact h.size, fun k h1 h2 h3 => ?_, fun a h1 h2 h3 => ?_, fun a h1 h2 => ?_⟩
  · rw [← h.block k h1 h2 h3]
    simp only [World.setCell, Array.getElem?_modify]
    rw [if_neg (by rintro rfl; exact h3 i hp)]
  · rw [World.cell?_setCell_other _ _ _ _ (by rintro rfl; exact h3 hp), h.cell a h1 h2 h3]
  · rw [show (w'.setCell ⟨b, i, none⟩ u).frozen? a = w'.frozen? a by simp [go_sem], h.frozen a h1 h2]
theorem Ch.of_below {w w' : World} (h : Below w.heap.size w w') (row : Option Nat) (ok : Addr → Prop) : Ch w w' row ok :=
  ⟨h.os, h.tape, h.output, h.size, fun k hk _ _ => h.block k hk, fun _ ha _ _ => h.cell ha, fun _ ha _ => h.frozen ha⟩
theorem Ch.of_fr {w w' : World} {o : Option Nat} {b i : Nat} (h : Fr w w' o ⟨b, i, none⟩) : Ch w w' o (fun a => a = ⟨b, i, none⟩) := by
  refine ⟨h.os, h.tape, h.output, h.size, fun k h1 h2 h3 => h.block k h1 (fun e => h3 i (by have e' : k = b := e; rw [e'])) h2, fun a h1 h2 h3 => ?_, fun a h1 h2 => ?_⟩
  · by_cases e : a.block = b
    · exact h.cell a e h3
    · exact World.cell?_of_block (h.block _ h1 e h2)
  · by_cases e : a.block = b
    · exact h.frozen a e
    · exact World.frozen?_of_block (h.block _ h1 e h2)

/-- a number noted -/
def tk (s : Sn) (q : Int) : Sn :=
  if s.some = true ∧ q ≤ s.most then { s with taken := bits .or .u64 s.taken (IntKind.u64.wrap (2 ^ (s.most - q).toNat)) }
  else { s with some := true, most := q, taken := bits .or .u64 (if s.some = false ∨ 64 ≤ (q - s.most) % 4294967296 then 0 else IntKind.u64.wrap (s.taken * 2 ^ (q - s.most).toNat)) 1 }

set_option maxRecDepth 8000 in
set_option maxHeartbeats 2000000 in
theorem take_any (b off : Nat) (s : Sn) (q : Int) (w : World) (hs : SnAt w b off s) (hz : ∀ i, w.frozen? ⟨b, i, none⟩ = false) (q0 : 0 ≤ q) (q1 : q < 4294967296) (m0 : 0 ≤ s.most) (m1 : s.most < 4294967296) (hn : s.some = true → q ≤ s.most → s.most - q < 64) :
    Calls Tryz.prog 34 #[.pointer (some ⟨b, off, none⟩), .int .u32 q] w fun e w' => e = .returned (.tuple #[]) ∧ SnAt w' b off (tk s q) ∧ Ch w w' none (fun a => a = ⟨b, off + 4, none⟩ ∨ a = ⟨b, off + 5, none⟩ ∨ a = ⟨b, off + 6, none⟩) := by
  have HA := Lib.hid (age_any b off s q w hs)
  have HS := Lib.hid hs
  obtain ⟨o, n, d, last, sm, most, taken⟩ := s
  obtain ⟨-, -, -, -, h4, h5, h6⟩ := hs
  simp only at h4 h5 h6 m0 m1 hn ⊢
  have HR := Lib.hid ((Ch.refl w none (fun a => a = (⟨b, off + 4, none⟩ : Addr) ∨ a = ⟨b, off + 5, none⟩ ∨ a = ⟨b, off + 6, none⟩)))
  cases sm
  · have HT := Lib.hid (show tk ⟨o, n, d, last, false, most, taken⟩ q = ⟨o, n, d, last, true, q, bits .or .u64 0 1⟩ by simp [tk])
    clear hn
    go_enter Tryz.func34, Tryz.ntmps34
    go_wp2_with fail
    refine HA.out.mono ?_
    rintro e w1 ⟨rfl, rfl⟩
    go_wp2_with fail
    go_end0
    refine ⟨rfl, ?_, (((((HR.out.set (.inr (.inr rfl)) _).set (.inr (.inr rfl)) _).set (.inr (.inl rfl)) _).set (.inl rfl) _).drew)⟩
    rw [HT.out]
    obtain ⟨g0, g1, g2, g3, g4, g5, g6⟩ := HS.out
    simp only at g0 g1 g2 g3 g4 g5 g6
    simp [SnAt, go_sem, g0, g1, g2, g3, g4, g5, g6]
  · by_cases c : q ≤ most
    · have hc := hn rfl c
      have HT := Lib.hid (show tk ⟨o, n, d, last, true, most, taken⟩ q = ⟨o, n, d, last, true, most, bits .or .u64 taken (IntKind.u64.wrap (2 ^ (most - q).toNat))⟩ by simp [tk, c])
      have hm : (most - q) % 4294967296 = most - q := by omega
      rw [hm] at HA
      have c1 : most - q < 64 := hc
      have c2 : 0 ≤ most - q := by omega
      clear hn hm
      go_enter Tryz.func34, Tryz.ntmps34
      go_wp2_with fail
      refine HA.out.mono ?_
      rintro e w1 ⟨rfl, rfl⟩
      go_wp2_with fail
      refine bodyPost_ret (results_none rfl _ _ _) rfl ?_
      refine ⟨rfl, ?_, (HR.out.set (.inr (.inr rfl)) _).drew⟩
      rw [HT.out]
      obtain ⟨g0, g1, g2, g3, g4, g5, g6⟩ := HS.out
      simp only at g0 g1 g2 g3 g4 g5 g6
      simp [SnAt, go_sem, g0, g1, g2, g3, g4, g5, g6]
    · have c3 : decide (q ≤ most) = false := by simpa using c
      have hu : (q - most) % 4294967296 = q - most := by omega
      rw [show (true && decide (q ≤ most)) = false by rw [c3]; rfl] at HA
      by_cases c2 : 64 ≤ q - most
      · have HT := Lib.hid (show tk ⟨o, n, d, last, true, most, taken⟩ q = ⟨o, n, d, last, true, q, bits .or .u64 0 1⟩ by simp [tk, c, hu, c2])
        clear hn hu c3
        go_enter Tryz.func34, Tryz.ntmps34
        go_wp2_with fail
        refine HA.out.mono ?_
        rintro e w1 ⟨rfl, rfl⟩
        go_wp2_with fail
        go_end0
        refine ⟨rfl, ?_, (((((HR.out.set (.inr (.inr rfl)) _).set (.inr (.inr rfl)) _).set (.inr (.inl rfl)) _).set (.inl rfl) _).drew)⟩
        rw [HT.out]
        obtain ⟨g0, g1, g2, g3, g4, g5, g6⟩ := HS.out
        simp only at g0 g1 g2 g3 g4 g5 g6
        simp [SnAt, go_sem, g0, g1, g2, g3, g4, g5, g6]
      · have HT := Lib.hid (show tk ⟨o, n, d, last, true, most, taken⟩ q = ⟨o, n, d, last, true, q, bits .or .u64 (IntKind.u64.wrap (taken * 2 ^ (q - most).toNat)) 1⟩ by simp [tk, c, hu, c2])
        clear hn hu c3
        go_enter Tryz.func34, Tryz.ntmps34
        go_wp2_with fail
        refine HA.out.mono ?_
        rintro e w1 ⟨rfl, rfl⟩
        go_wp2_with fail
        go_end0
        refine ⟨rfl, ?_, (((((HR.out.set (.inr (.inr rfl)) _).set (.inr (.inr rfl)) _).set (.inr (.inl rfl)) _).set (.inl rfl) _).drew)⟩
        rw [HT.out]
        obtain ⟨g0, g1, g2, g3, g4, g5, g6⟩ := HS.out
        simp only at g0 g1 g2 g3 g4 g5 g6
        simp [SnAt, go_sem, g0, g1, g2, g3, g4, g5, g6]
end Go.Proofs.YtebacmmfjadalaaGreat
