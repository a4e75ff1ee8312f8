/- J6 J7 in one text. -/
import Derived.Test.YtebacmmfjadalaaGreatP05
import Derived.Deep.LoopGhost

namespace Go.Proofs.YtebacmmfjadalaaGreat
open Go Go.RowKit

theorem get_some {xs : List El} {i : Nat} (h : i < xs.length) : ∃ a, xs[i]? = some a := ⟨xs[i], List.getElem?_eq_getElem h⟩
theorem sw_eq {xs : List El} {i k : Nat} {a b : El} (ha : xs[i]? = some a) (hb : xs[k]? = some b) : sw xs i k = (xs.set i b).set k a := by simp [sw, ha, hb]
theorem sw_len (xs : List El) (i k : Nat) : (sw xs i k).length = xs.length := by
  unfold sw
  split <;> simp
theorem sw_mem {xs : List El} {i k : Nat} {e : El} (h : e ∈ sw xs i k) : e ∈ xs := by
  unfold sw at h
  split at h
  · rename_i a b ha hb
    rcases List.mem_or_eq_of_mem_set h with h | h
    · rcases List.mem_or_eq_of_mem_set h with h | h
      · exact h
      · rw [h]; exact List.mem_of_getElem? hb
    · rw [h]; exact List.mem_of_getElem? ha
  · exact h
/-- a world in which only block g and new blocks may have turned -/
theorem grown_cell {w w' : World} {g : Nat} (h : w.grownBy w' (some g)) {p : Addr} (hp : p.block < w.heap.size) (hn : p.block ≠ g) : w'.cell? p = w.cell? p :=
  World.cell?_of_block (h.block _ hp (by intro e; injection e with e; exact hn e))
theorem grown_of_below {w w' : World} (h : Below w.heap.size w w') (g : Nat) : w.grownBy w' (some g) := ⟨h.os, h.tape, h.output, h.size, fun k hk _ => h.block k hk⟩
theorem Pl.below {w w' : World} {g cap : Nat} {xs : List El} (h : Pl w g cap xs) (hb : Below w.heap.size w w') : Pl w' g cap xs := by
  have hg := h.lt
  refine ⟨h.1, ?_⟩
  rcases h.2 with ⟨h', _⟩ | ⟨g', cap', cur, h', h1, h2, h3⟩
  · simp at h'
  · have e1 : g = g' := by injection h' with e1; injection e1 with e1; injection e1
    subst e1
    exact .inr ⟨g, cap', cur, h', h1, (hb.block g hg).trans h2, h3⟩
theorem upL_stop {C : El → El → Int} {f : Nat} {xs : List El} {j : Nat} (h : (j - 1) / 2 = j ∨ ltAt C xs j ((j - 1) / 2) = false) : upL C (f + 1) xs j = xs := by rw [upL, if_pos h]
theorem upL_go {C : El → El → Int} {f : Nat} {xs : List El} {j : Nat} (h1 : ¬ (j - 1) / 2 = j) (h2 : ltAt C xs j ((j - 1) / 2) = true) : upL C (f + 1) xs j = upL C f (sw xs ((j - 1) / 2) j) ((j - 1) / 2) := by
  rw [upL, if_neg]
  rintro (h | h)
  · exact h1 h
  · rw [h2] at h; cases h

set_option maxRecDepth 8000 in
set_option maxHeartbeats 4000000 in
theorem up_any (C : El → El → Int) (pa : Addr) (g cap n j : Nat) (xs : List El) (w : World) (hp : Pl w g cap xs) (hn : xs.length = n) (hc : w.cell? pa = some (.slice (some ⟨g, 0, none⟩) n cap)) (hpg : pa.block ≠ g) (hpa : pa.block < w.heap.size) (hj : j < n) (h63 : n ≤ 4611686018427387904)
    (hC : ∀ a ∈ xs, ∀ b ∈ xs, ∀ W, w.grownBy W (some g) → Calls Tryz.prog 81 #[a.val, b.val] W fun e w' => e = .returned (.int .i64 (C a b)) ∧ Below W.heap.size W w') :
    Calls Tryz.prog 58 #[.iface 101 (.pointer (some pa)), .int .i64 j] w fun e w' => e = .returned (.tuple #[]) ∧ Pl w' g cap (upL C (j + 1) xs j) ∧ w.grownBy w' (some g) := by
  obtain ⟨T, hT⟩ : ∃ T, upL C (j + 1) xs j = T := ⟨_, rfl⟩
  rw [hT]
  have H0 := Lib.hid (show Pl w g cap xs ∧ xs.length = n ∧ upL C (j + 1) xs j = T ∧ (∀ a ∈ xs, a ∈ xs) ∧ w.grownBy w (some g) from ⟨hp, hn, hT, fun _ h => h, grown_of_below (Below.refl _ _) g⟩)
  have HC := Lib.hid hC
  have HP := Lib.hid hc
  clear hp hn hC hT hc
  go_enter Tryz.func58, Tryz.ntmps58
  go_wp2_with fail
  go_loopw [1] (fun jv wr => ∃ (k f : Nat) (ys : List El), jv = .int .i64 (k : Int) ∧ k < n ∧ k < f ∧ Hid (Pl wr g cap ys ∧ ys.length = n ∧ upL C f ys k = T ∧ (∀ a ∈ ys, a ∈ xs) ∧ w.grownBy wr (some g))) (fun jv _ => (intOf jv).toNat)
  case atStart => exact ⟨j, j + 1, xs, rfl, hj, by omega, H0⟩
  case round =>
    obtain ⟨k, f, ys, rfl, hk, hf, hh⟩ := hrel
    have hcell := (grown_cell hh.out.2.2.2.2 hpa hpg).trans HP.out
    by_cases k0 : k = 0
    · subst k0
      obtain ⟨f, rfl⟩ : ∃ f', f = f' + 1 := ⟨f - 1, by omega⟩
      have HE := Lib.hid (upL_stop (C := C) (f := f) (xs := ys) (j := 0) (.inl rfl))
      go_wp2_with fail
      go_end0
      exact ⟨rfl, by rw [← hh.out.2.2.1, HE.out]; exact hh.out.1, hh.out.2.2.2.2⟩
    · obtain ⟨f, rfl⟩ : ∃ f', f = f' + 1 := ⟨f - 1, by omega⟩
      obtain ⟨i, hi⟩ : ∃ i, (k - 1) / 2 = i := ⟨_, rfl⟩
      have hik : i < k := by omega
      have hin : i < n := by omega
      obtain ⟨a, ha⟩ := get_some (xs := ys) (i := k) (by have := hh.out.2.1; omega)
      obtain ⟨b, hb⟩ := get_some (xs := ys) (i := i) (by have := hh.out.2.1; omega)
      have hq : ((k : Int) - 1).tdiv 2 = (i : Int) := by
        rw [show (k : Int) - 1 = ((k - 1 : Nat) : Int) by omega, ← hi]
        rfl
      have hne : ((i : Int) == (k : Int)) = false := by simp; omega
      have HI := Lib.hid hi
      have HAB := Lib.hid (And.intro ha hb)
      have hless := method_val (fuel := 309) m_less pa _ _ _ wr hcell
      clear hi ha hb
      go_wp2_with fail
      refine (less_any g cap n k i ys a b (C a b) wr hh.out.1 HAB.out.1 HAB.out.2 hk hin (fun W hW => HC.out a (hh.out.2.2.2.1 a (List.mem_of_getElem? HAB.out.1)) b (hh.out.2.2.2.1 b (List.mem_of_getElem? HAB.out.2)) W (grown_trans hh.out.2.2.2.2 (grown_of_below hW g)))).mono ?_
      rintro e w1 ⟨rfl, hb1⟩
      have hl : ltAt C ys k ((k - 1) / 2) = decide (C a b < 0) := by rw [HI.out]; simp [ltAt, HAB.out.1, HAB.out.2]
      have hcell1 := (hb1.cell (Nat.lt_of_lt_of_le hpa hh.out.2.2.2.2.size)).trans hcell
      have HB1 := Lib.hid hb1
      clear hb1 hless hcell
      by_cases hz : C a b < 0
      · have HE := Lib.hid (upL_go (C := C) (f := f) (xs := ys) (j := k) (by omega) (by rw [hl]; simpa using hz))
        have hswap := method_val (fuel := 309) m_swap pa _ _ _ w1 hcell1
        have hz' : decide (C a b < 0) = true := by simpa using hz
        clear hl
        go_wp2_with fail
        refine (swap_any g cap n i k ys b a w1 (hh.out.1.below HB1.out) hh.out.2.1 HAB.out.2 HAB.out.1 hin hk).mono ?_
        rintro e w2 ⟨rfl, hp2, hg2⟩
        have HP2 := Lib.hid (And.intro hp2 (grown_trans (grown_trans hh.out.2.2.2.2 (grown_of_below HB1.out g)) hg2))
        clear hp2 hg2 hswap hcell1
        go_wp2_with fail
        go_roundw
        case rel => exact ⟨i, f, sw ys i k, rfl, hin, by omega, Lib.hid ⟨by rw [sw_eq HAB.out.2 HAB.out.1]; exact HP2.out.1, by rw [sw_len]; exact hh.out.2.1, by rw [← hh.out.2.2.1, HE.out, HI.out], fun e he => hh.out.2.2.2.1 e (sw_mem he), HP2.out.2⟩⟩
        case measure => simp [intOf]; omega
      · have HE := Lib.hid (upL_stop (C := C) (f := f) (xs := ys) (j := k) (.inr (by rw [hl]; simpa using hz)))
        have hz' : decide (C a b < 0) = false := by simpa using hz
        clear hl
        go_wp2_with fail
        go_end0
        exact ⟨rfl, by rw [← hh.out.2.2.1, HE.out]; exact hh.out.1.below HB1.out, grown_trans hh.out.2.2.2.2 (grown_of_below HB1.out g)⟩
end Go.Proofs.YtebacmmfjadalaaGreat

namespace Go.Proofs.YtebacmmfjadalaaGreat
open Go Go.RowKit

theorem downL_stop {C : El → El → Int} {f : Nat} {xs : List El} {i m : Nat} (h : m ≤ 2 * i + 1 ∨ ltAt C xs (kid C xs i m) i = false) : downL C (f + 1) xs i m = xs := by rw [downL, if_pos h]
theorem downL_go {C : El → El → Int} {f : Nat} {xs : List El} {i m j : Nat} (hj : kid C xs i m = j) (h1 : ¬ m ≤ 2 * i + 1) (h2 : ltAt C xs j i = true) : downL C (f + 1) xs i m = downL C f (sw xs i j) j m := by
  rw [downL, if_neg, hj]
  rw [hj]
  rintro (h | h)
  · exact h1 h
  · rw [h2] at h; cases h
theorem lt_at {C : El → El → Int} {xs : List El} {i k : Nat} {a b : El} (ha : xs[i]? = some a) (hb : xs[k]? = some b) : ltAt C xs i k = decide (C a b < 0) := by simp [ltAt, ha, hb]

set_option maxRecDepth 8000 in
set_option maxHeartbeats 8000000 in
theorem down_any (C : El → El → Int) (pa : Addr) (g cap n m : Nat) (xs : List El) (w : World) (hp : Pl w g cap xs) (hn : xs.length = n) (hc : w.cell? pa = some (.slice (some ⟨g, 0, none⟩) n cap)) (hpg : pa.block ≠ g) (hpa : pa.block < w.heap.size) (hm : m < n) (h63 : n ≤ 2305843009213693952)
    (hC : ∀ a ∈ xs, ∀ b ∈ xs, ∀ W, w.grownBy W (some g) → Calls Tryz.prog 81 #[a.val, b.val] W fun e w' => e = .returned (.int .i64 (C a b)) ∧ Below W.heap.size W w') :
    Calls Tryz.prog 75 #[.iface 101 (.pointer (some pa)), .int .i64 0, .int .i64 m] w fun e w' => (∃ t, e = .returned (.bool t)) ∧ Pl w' g cap (downL C (m + 1) xs 0 m) ∧ w.grownBy w' (some g) := by
  obtain ⟨T, hT⟩ : ∃ T, downL C (m + 1) xs 0 m = T := ⟨_, rfl⟩
  rw [hT]
  have H0 := Lib.hid (show Pl w g cap xs ∧ xs.length = n ∧ downL C (m + 1) xs 0 m = T ∧ (∀ a ∈ xs, a ∈ xs) ∧ w.grownBy w (some g) from ⟨hp, hn, hT, fun _ h => h, grown_of_below (Below.refl _ _) g⟩)
  have HC := Lib.hid hC
  have HP := Lib.hid hc
  clear hp hn hC hT hc
  go_enter Tryz.func75, Tryz.ntmps75
  go_wp2_with fail
  go_loopw [7] (fun jv wr => ∃ (k f : Nat) (ys : List El), jv = .int .i64 (k : Int) ∧ k ≤ m ∧ m - k < f ∧ Hid (Pl wr g cap ys ∧ ys.length = n ∧ downL C f ys k m = T ∧ (∀ a ∈ ys, a ∈ xs) ∧ w.grownBy wr (some g))) (fun jv _ => m - (intOf jv).toNat)
  case atStart => exact ⟨0, m + 1, xs, rfl, by omega, by omega, H0⟩
  case round =>
    obtain ⟨k, f, ys, rfl, hk, hf, hh⟩ := hrel
    have hcell := (grown_cell hh.out.2.2.2.2 hpa hpg).trans HP.out
    obtain ⟨f, rfl⟩ : ∃ f', f = f' + 1 := ⟨f - 1, by omega⟩
    by_cases k0 : m ≤ 2 * k + 1
    · have HE := Lib.hid (downL_stop (C := C) (f := f) (xs := ys) (i := k) (m := m) (.inl k0))
      have k1 : (m : Int) ≤ 2 * (k : Int) + 1 := by omega
      go_wp2_with fail
      go_ret
      exact ⟨⟨_, rfl⟩, by rw [← hh.out.2.2.1, HE.out]; exact hh.out.1, hh.out.2.2.2.2⟩
    · have k1 : 2 * (k : Int) + 1 < (m : Int) := by omega
      obtain ⟨a, ha⟩ := get_some (xs := ys) (i := k) (by have := hh.out.2.1; omega)
      obtain ⟨b1, hb1⟩ := get_some (xs := ys) (i := 2 * k + 1) (by have := hh.out.2.1; omega)
      have HA := Lib.hid (And.intro ha hb1)
      have W1 : IntKind.i64.wrap (2 * (k : Int)) = 2 * (k : Int) := IntWalk.i64_in _ (by omega)
      have W2 : IntKind.i64.wrap (2 * (k : Int) + 1) = 2 * (k : Int) + 1 := IntWalk.i64_in _ (by omega)
      have W3 : IntKind.i64.wrap (2 * (k : Int) + 1 + 1) = 2 * (k : Int) + 2 := IntWalk.i64_in _ (by omega)
      clear ha hb1
      by_cases k2 : 2 * k + 2 < m
      · obtain ⟨b2, hb2⟩ := get_some (xs := ys) (i := 2 * k + 2) (by have := hh.out.2.1; omega)
        have HB := Lib.hid hb2
        clear hb2
        have k3 : 2 * (k : Int) + 2 < (m : Int) := by omega
        have hless := method_val (fuel := 309) m_less pa _ _ _ wr hcell
        have hL1 := less_any g cap n (2 * k + 2) (2 * k + 1) ys b2 b1 (C b2 b1) wr hh.out.1 HB.out HA.out.2 (by omega) (by omega) (fun W hW => HC.out b2 (hh.out.2.2.2.1 b2 (List.mem_of_getElem? HB.out)) b1 (hh.out.2.2.2.1 b1 (List.mem_of_getElem? HA.out.2)) W (grown_trans hh.out.2.2.2.2 (grown_of_below hW g)))
        rw [show ((2 * k + 2 : Nat) : Int) = 2 * (k : Int) + 2 by omega, show ((2 * k + 1 : Nat) : Int) = 2 * (k : Int) + 1 by omega] at hL1
        have HL1 := Lib.hid hL1
        clear hL1
        go_wp2_with fail
        refine HL1.out.mono ?_
        rintro e w1 ⟨rfl, hb1⟩
        have HB1 := Lib.hid hb1
        have hl1 : ltAt C ys (2 * k + 2) (2 * k + 1) = decide (C b2 b1 < 0) := lt_at HB.out HA.out.2
        have HL2 := Lib.hid hl1
        clear hb1 HL1 hless hl1
        by_cases hz : C b2 b1 < 0
        · have hz' : decide (C b2 b1 < 0) = true := by simpa using hz
          have hkid : kid C ys k m = 2 * k + 2 := by unfold kid; rw [if_pos ⟨k2, by rw [HL2.out]; exact hz'⟩]
          have hcx := (HB1.out.cell (Nat.lt_of_lt_of_le hpa hh.out.2.2.2.2.size)).trans hcell
          have hltx : ltAt C ys (2 * k + 2) k = decide (C b2 a < 0) := lt_at HB.out HA.out.1
          have HGX := Lib.hid (grown_trans hh.out.2.2.2.2 (grown_of_below HB1.out g))
          have HPX := Lib.hid (hh.out.1.below HB1.out)
          have hlessx := method_val (fuel := 309) m_less pa _ _ _ w1 hcx
          have hL := less_any g cap n (2 * k + 2) k ys b2 a (C b2 a) w1 HPX.out HB.out HA.out.1 (by omega) (by omega) (fun W hW => HC.out b2 (hh.out.2.2.2.1 b2 (List.mem_of_getElem? HB.out)) a (hh.out.2.2.2.1 a (List.mem_of_getElem? HA.out.1)) W (grown_trans HGX.out (grown_of_below hW g)))
          rw [show ((2 * k + 2 : Nat) : Int) = 2 * (k : Int) + 2 by omega] at hL
          have HLX := Lib.hid hL
          have HKX := Lib.hid (And.intro hkid hltx)
          have HCX := Lib.hid hcx
          clear hL hkid hltx hcx
          go_wp2_with fail
          refine HLX.out.mono ?_
          rintro e w2 ⟨rfl, hb2⟩
          have hcy := (hb2.cell (Nat.lt_of_lt_of_le hpa HGX.out.size)).trans HCX.out
          have HB2 := Lib.hid hb2
          clear hb2 hlessx HLX
          by_cases hz2 : C b2 a < 0
          · have HE := Lib.hid (downL_go (f := f) HKX.out.1 k0 (by rw [HKX.out.2]; simpa using hz2))
            have hswap := method_val (fuel := 309) m_swap pa _ _ _ w2 hcy
            have hz2' : decide (C b2 a < 0) = true := by simpa using hz2
            have hS := swap_any g cap n k (2 * k + 2) ys a b2 w2 (HPX.out.below HB2.out) hh.out.2.1 HA.out.1 HB.out (by omega) (by omega)
            rw [show ((2 * k + 2 : Nat) : Int) = 2 * (k : Int) + 2 by omega] at hS
            have HS := Lib.hid hS
            clear hS hcy
            go_wp2_with fail
            refine HS.out.mono ?_
            rintro e w3 ⟨rfl, hp3, hg3⟩
            have HP3 := Lib.hid (And.intro hp3 (grown_trans (grown_trans HGX.out (grown_of_below HB2.out g)) hg3))
            clear hp3 hg3 hswap HS
            go_wp2_with fail
            go_roundw
            case rel => exact ⟨2 * k + 2, f, sw ys k (2 * k + 2), congrArg (Value.int .i64) (by omega), by omega, by omega, Lib.hid ⟨by rw [sw_eq HA.out.1 HB.out]; exact HP3.out.1, by rw [sw_len]; exact hh.out.2.1, by rw [← hh.out.2.2.1, HE.out], fun e he => hh.out.2.2.2.1 e (sw_mem he), HP3.out.2⟩⟩
            case measure => simp [intOf]; omega
          · have HE := Lib.hid (downL_stop (C := C) (f := f) (xs := ys) (i := k) (m := m) (.inr (by rw [HKX.out.1, HKX.out.2]; simpa using hz2)))
            have hz2' : decide (C b2 a < 0) = false := by simpa using hz2
            clear hcy
            go_wp2_with fail
            go_ret
            exact ⟨⟨_, rfl⟩, by rw [← hh.out.2.2.1, HE.out]; exact HPX.out.below HB2.out, grown_trans HGX.out (grown_of_below HB2.out g)⟩
        · have hz' : decide (C b2 b1 < 0) = false := by simpa using hz
          have hkid : kid C ys k m = 2 * k + 1 := by unfold kid; rw [if_neg (by rw [HL2.out, hz']; simp)]
          have hcx := (HB1.out.cell (Nat.lt_of_lt_of_le hpa hh.out.2.2.2.2.size)).trans hcell
          have hltx : ltAt C ys (2 * k + 1) k = decide (C b1 a < 0) := lt_at HA.out.2 HA.out.1
          have HGX := Lib.hid (grown_trans hh.out.2.2.2.2 (grown_of_below HB1.out g))
          have HPX := Lib.hid (hh.out.1.below HB1.out)
          have hlessx := method_val (fuel := 309) m_less pa _ _ _ w1 hcx
          have hL := less_any g cap n (2 * k + 1) k ys b1 a (C b1 a) w1 HPX.out HA.out.2 HA.out.1 (by omega) (by omega) (fun W hW => HC.out b1 (hh.out.2.2.2.1 b1 (List.mem_of_getElem? HA.out.2)) a (hh.out.2.2.2.1 a (List.mem_of_getElem? HA.out.1)) W (grown_trans HGX.out (grown_of_below hW g)))
          rw [show ((2 * k + 1 : Nat) : Int) = 2 * (k : Int) + 1 by omega] at hL
          have HLX := Lib.hid hL
          have HKX := Lib.hid (And.intro hkid hltx)
          have HCX := Lib.hid hcx
          clear hL hkid hltx hcx
          go_wp2_with fail
          refine HLX.out.mono ?_
          rintro e w2 ⟨rfl, hb2⟩
          have hcy := (hb2.cell (Nat.lt_of_lt_of_le hpa HGX.out.size)).trans HCX.out
          have HB2 := Lib.hid hb2
          clear hb2 hlessx HLX
          by_cases hz2 : C b1 a < 0
          · have HE := Lib.hid (downL_go (f := f) HKX.out.1 k0 (by rw [HKX.out.2]; simpa using hz2))
            have hswap := method_val (fuel := 309) m_swap pa _ _ _ w2 hcy
            have hz2' : decide (C b1 a < 0) = true := by simpa using hz2
            have hS := swap_any g cap n k (2 * k + 1) ys a b1 w2 (HPX.out.below HB2.out) hh.out.2.1 HA.out.1 HA.out.2 (by omega) (by omega)
            rw [show ((2 * k + 1 : Nat) : Int) = 2 * (k : Int) + 1 by omega] at hS
            have HS := Lib.hid hS
            clear hS hcy
            go_wp2_with fail
            refine HS.out.mono ?_
            rintro e w3 ⟨rfl, hp3, hg3⟩
            have HP3 := Lib.hid (And.intro hp3 (grown_trans (grown_trans HGX.out (grown_of_below HB2.out g)) hg3))
            clear hp3 hg3 hswap HS
            go_wp2_with fail
            go_roundw
            case rel => exact ⟨2 * k + 1, f, sw ys k (2 * k + 1), congrArg (Value.int .i64) (by omega), by omega, by omega, Lib.hid ⟨by rw [sw_eq HA.out.1 HA.out.2]; exact HP3.out.1, by rw [sw_len]; exact hh.out.2.1, by rw [← hh.out.2.2.1, HE.out], fun e he => hh.out.2.2.2.1 e (sw_mem he), HP3.out.2⟩⟩
            case measure => simp [intOf]; omega
          · have HE := Lib.hid (downL_stop (C := C) (f := f) (xs := ys) (i := k) (m := m) (.inr (by rw [HKX.out.1, HKX.out.2]; simpa using hz2)))
            have hz2' : decide (C b1 a < 0) = false := by simpa using hz2
            clear hcy
            go_wp2_with fail
            go_ret
            exact ⟨⟨_, rfl⟩, by rw [← hh.out.2.2.1, HE.out]; exact HPX.out.below HB2.out, grown_trans HGX.out (grown_of_below HB2.out g)⟩
      · have k3 : ¬ 2 * (k : Int) + 2 < (m : Int) := by omega
        have HB1 := Lib.hid (Below.refl wr.heap.size wr)
        have hkid : kid C ys k m = 2 * k + 1 := by unfold kid; rw [if_neg (fun h => k2 h.1)]
        have hcx := (HB1.out.cell (Nat.lt_of_lt_of_le hpa hh.out.2.2.2.2.size)).trans hcell
        have hltx : ltAt C ys (2 * k + 1) k = decide (C b1 a < 0) := lt_at HA.out.2 HA.out.1
        have HGX := Lib.hid (grown_trans hh.out.2.2.2.2 (grown_of_below HB1.out g))
        have HPX := Lib.hid (hh.out.1.below HB1.out)
        have hlessx := method_val (fuel := 309) m_less pa _ _ _ wr hcx
        have hL := less_any g cap n (2 * k + 1) k ys b1 a (C b1 a) wr HPX.out HA.out.2 HA.out.1 (by omega) (by omega) (fun W hW => HC.out b1 (hh.out.2.2.2.1 b1 (List.mem_of_getElem? HA.out.2)) a (hh.out.2.2.2.1 a (List.mem_of_getElem? HA.out.1)) W (grown_trans HGX.out (grown_of_below hW g)))
        rw [show ((2 * k + 1 : Nat) : Int) = 2 * (k : Int) + 1 by omega] at hL
        have HLX := Lib.hid hL
        have HKX := Lib.hid (And.intro hkid hltx)
        have HCX := Lib.hid hcx
        clear hL hkid hltx hcx
        go_wp2_with fail
        refine HLX.out.mono ?_
        rintro e w2 ⟨rfl, hb2⟩
        have hcy := (hb2.cell (Nat.lt_of_lt_of_le hpa HGX.out.size)).trans HCX.out
        have HB2 := Lib.hid hb2
        clear hb2 hlessx HLX
        by_cases hz2 : C b1 a < 0
        · have HE := Lib.hid (downL_go (f := f) HKX.out.1 k0 (by rw [HKX.out.2]; simpa using hz2))
          have hswap := method_val (fuel := 309) m_swap pa _ _ _ w2 hcy
          have hz2' : decide (C b1 a < 0) = true := by simpa using hz2
          have hS := swap_any g cap n k (2 * k + 1) ys a b1 w2 (HPX.out.below HB2.out) hh.out.2.1 HA.out.1 HA.out.2 (by omega) (by omega)
          rw [show ((2 * k + 1 : Nat) : Int) = 2 * (k : Int) + 1 by omega] at hS
          have HS := Lib.hid hS
          clear hS hcy
          go_wp2_with fail
          refine HS.out.mono ?_
          rintro e w3 ⟨rfl, hp3, hg3⟩
          have HP3 := Lib.hid (And.intro hp3 (grown_trans (grown_trans HGX.out (grown_of_below HB2.out g)) hg3))
          clear hp3 hg3 hswap HS
          go_wp2_with fail
          go_roundw
          case rel => exact ⟨2 * k + 1, f, sw ys k (2 * k + 1), congrArg (Value.int .i64) (by omega), by omega, by omega, Lib.hid ⟨by rw [sw_eq HA.out.1 HA.out.2]; exact HP3.out.1, by rw [sw_len]; exact hh.out.2.1, by rw [← hh.out.2.2.1, HE.out], fun e he => hh.out.2.2.2.1 e (sw_mem he), HP3.out.2⟩⟩
          case measure => simp [intOf]; omega
        · have HE := Lib.hid (downL_stop (C := C) (f := f) (xs := ys) (i := k) (m := m) (.inr (by rw [HKX.out.1, HKX.out.2]; simpa using hz2)))
          have hz2' : decide (C b1 a < 0) = false := by simpa using hz2
          clear hcy
          go_wp2_with fail
          go_ret
          exact ⟨⟨_, rfl⟩, by rw [← hh.out.2.2.1, HE.out]; exact HPX.out.below HB2.out, grown_trans HGX.out (grown_of_below HB2.out g)⟩
end Go.Proofs.YtebacmmfjadalaaGreat
