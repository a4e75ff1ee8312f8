/- Contracts of the stable sort's parts: swapRange, rotate, insertionSort. -/
import Derived.Test.YtebacmmfjadalaaK9
import Derived.Test.YtebacmmfjadalaaH2
namespace Go.Proofs.Ytebacmmfjadalaa
open Go Go.RowKit

/-- the order as a function value -/
abbrev cmpV : Value := .func (.func 9) #[] #[]

theorem swap_pl {w : World} {g cap i k : Nat} {ys : List El} {a b : El} (hp : Pl w g cap ys) (ha : ys[i]? = some a) (hb : ys[k]? = some b) :
    Pl ((((((((((w.setCell ⟨g, i * 5, none⟩ (.int .i64 b.at_)).setCell ⟨g, i * 5 + 1, none⟩ (.int .i64 b.se)).setCell ⟨g, i * 5 + 2, none⟩ (.int .u32 b.sq)).setCell ⟨g, i * 5 + 3, none⟩ (.int .u32 b.st)).setCell ⟨g, i * 5 + 4, none⟩ (.slice b.v b.n b.c)).setCell ⟨g, k * 5, none⟩ (.int .i64 a.at_)).setCell ⟨g, k * 5 + 1, none⟩ (.int .i64 a.se)).setCell ⟨g, k * 5 + 2, none⟩ (.int .u32 a.sq)).setCell ⟨g, k * 5 + 3, none⟩ (.int .u32 a.st)).setCell ⟨g, k * 5 + 4, none⟩ (.slice a.v a.n a.c)).drew g cap (sw ys i k) ∧
    w.grownBy ((((((((((w.setCell ⟨g, i * 5, none⟩ (.int .i64 b.at_)).setCell ⟨g, i * 5 + 1, none⟩ (.int .i64 b.se)).setCell ⟨g, i * 5 + 2, none⟩ (.int .u32 b.sq)).setCell ⟨g, i * 5 + 3, none⟩ (.int .u32 b.st)).setCell ⟨g, i * 5 + 4, none⟩ (.slice b.v b.n b.c)).setCell ⟨g, k * 5, none⟩ (.int .i64 a.at_)).setCell ⟨g, k * 5 + 1, none⟩ (.int .i64 a.se)).setCell ⟨g, k * 5 + 2, none⟩ (.int .u32 a.sq)).setCell ⟨g, k * 5 + 3, none⟩ (.int .u32 a.st)).setCell ⟨g, k * 5 + 4, none⟩ (.slice a.v a.n a.c)).drew (some g) := by
  have e1 := Pl.set hp (i := i) (List.getElem?_eq_some_iff.1 ha).1 b
  have e2 := Pl.set e1.1 (i := k) (by rw [List.length_set]; exact (List.getElem?_eq_some_iff.1 hb).1) a
  rw [sw_eq ha hb]
  exact ⟨e2.1.drew, grown_trans (grown_trans e1.2 e2.2) (grown_drew _ _)⟩

set_option maxRecDepth 8000 in
set_option maxHeartbeats 4000000 in
theorem swr_any (g cap n a b k : Nat) (xs : List El) (w : World) (hp : Pl w g cap xs) (hn : xs.length = n) (hab : a + k ≤ b) (hb : b + k ≤ n) (h63 : n ≤ 1099511627776) :
    Calls Try.prog 82 #[.slice (some ⟨g, 0, none⟩) n cap, .int .i64 a, .int .i64 b, .int .i64 k, cmpV] w fun e w' => e = .returned (.tuple #[]) ∧ ∃ ys, Pl w' g cap ys ∧ SwR xs ys a b k ∧ w.grownBy w' (some g) := by
  have HP := Lib.hid (And.intro hp hn)
  clear hp hn
  go_enter Try.func82, Try.ntmps82
  go_wp2_with fail
  go_loopw [10] (fun i wr => ∃ (j : Nat) (ys : List El), j ≤ k ∧ i = .int .i64 (j : Int) ∧ Hid (Pl wr g cap ys ∧ SwR xs ys a b j ∧ w.grownBy wr (some g))) (fun i _ => k - (intOf i).toNat)
  case atStart => exact ⟨0, xs, by omega, rfl, Lib.hid ⟨HP.out.1, swr_start _ _ _, grown_of_below (Below.refl _ _) _⟩⟩
  case round =>
    obtain ⟨j, ys, hj, rfl, hh⟩ := hrel
    by_cases hlt : j < k
    · have hlen : ys.length = n := hh.out.2.1.1.length_eq.trans HP.out.2
      obtain ⟨p, hpp⟩ : ∃ p, a + j = p := ⟨_, rfl⟩
      obtain ⟨q, hqq⟩ : ∃ q, b + j = q := ⟨_, rfl⟩
      obtain ⟨x, hx⟩ := get_some (xs := ys) (i := p) (by omega)
      obtain ⟨y, hy⟩ := get_some (xs := ys) (i := q) (by omega)
      have HXY := Lib.hid (And.intro hx hy)
      have hz := fun m => hh.out.1.frozen m
      obtain ⟨a0, a1, a2, a3, a4⟩ := hh.out.1.cells hx
      obtain ⟨b0, b1, b2, b3, b4⟩ := hh.out.1.cells hy
      have HE := Lib.hid (swap_pl hh.out.1 hx hy)
      obtain ⟨at_, se, sq, st, v, vn, vc, vb⟩ := x
      obtain ⟨at2, se2, sq2, st2, v2, vn2, vc2, vb2⟩ := y
      simp only at a0 a1 a2 a3 a4 b0 b1 b2 b3 b4
      have hji : (j : Int) < (k : Int) := by omega
      have w1 : IntKind.i64.wrap ((a : Int) + (j : Int)) = (p : Int) := by rw [IntWalk.i64_in _ (by omega)]; omega
      have w2 : IntKind.i64.wrap ((b : Int) + (j : Int)) = (q : Int) := by rw [IntWalk.i64_in _ (by omega)]; omega
      have w3 : IntKind.i64.wrap ((j : Int) + 1) = (j : Int) + 1 := by rw [IntWalk.i64_in _ (by omega)]
      have i0 : (0 : Int) ≤ (p : Int) := by omega
      have i1 : (p : Int) < (n : Int) := by omega
      have k0 : (0 : Int) ≤ (q : Int) := by omega
      have k1 : (q : Int) < (n : Int) := by omega
      have HPQ := Lib.hid (And.intro hpp hqq)
      have HLN := Lib.hid hlen
      clear hx hy hpp hqq hlen
      go_wp2_with fail
      obtain ⟨z00, d0⟩ := set_some ⟨g, p * 5, none⟩ (.int .i64 at2) b0
      obtain ⟨z10, f10⟩ := set_some ⟨g, p * 5, none⟩ (.int .i64 at2) b1
      obtain ⟨z11, d1⟩ := set_some ⟨g, p * 5 + 1, none⟩ (.int .i64 se2) f10
      obtain ⟨z20, f20⟩ := set_some ⟨g, p * 5, none⟩ (.int .i64 at2) b2
      obtain ⟨z21, f21⟩ := set_some ⟨g, p * 5 + 1, none⟩ (.int .i64 se2) f20
      obtain ⟨z22, d2⟩ := set_some ⟨g, p * 5 + 2, none⟩ (.int .u32 sq2) f21
      obtain ⟨z30, f30⟩ := set_some ⟨g, p * 5, none⟩ (.int .i64 at2) b3
      obtain ⟨z31, f31⟩ := set_some ⟨g, p * 5 + 1, none⟩ (.int .i64 se2) f30
      obtain ⟨z32, f32⟩ := set_some ⟨g, p * 5 + 2, none⟩ (.int .u32 sq2) f31
      obtain ⟨z33, d3⟩ := set_some ⟨g, p * 5 + 3, none⟩ (.int .u32 st2) f32
      obtain ⟨z40, f40⟩ := set_some ⟨g, p * 5, none⟩ (.int .i64 at2) b4
      obtain ⟨z41, f41⟩ := set_some ⟨g, p * 5 + 1, none⟩ (.int .i64 se2) f40
      obtain ⟨z42, f42⟩ := set_some ⟨g, p * 5 + 2, none⟩ (.int .u32 sq2) f41
      obtain ⟨z43, f43⟩ := set_some ⟨g, p * 5 + 3, none⟩ (.int .u32 st2) f42
      obtain ⟨z44, d4⟩ := set_some ⟨g, p * 5 + 4, none⟩ (.slice v2 vn2 vc2) f43
      clear f10 f20 f21 f30 f31 f32 f40 f41 f42 f43
      go_region
      all_goals go_wp2_with fail
      go_roundw
      case rel =>
        refine ⟨j + 1, sw ys p q, by omega, by go_num, Lib.hid ⟨HE.out.1, ?_, grown_trans hh.out.2.2 HE.out.2⟩⟩
        rw [← HPQ.out.1, ← HPQ.out.2]
        exact swr_step hh.out.2.1 (by omega) (by have := HP.out.2; omega)
      case measure => simp [intOf]; omega
    · have hjk : j = k := by omega
      subst hjk
      go_wp2_with fail
      go_end0
      exact ⟨rfl, ys, hh.out⟩

set_option maxRecDepth 8000 in
set_option maxHeartbeats 4000000 in
theorem rot_any (g cap n a m b : Nat) (xs : List El) (w : World) (hp : Pl w g cap xs) (hn : xs.length = n) (ham : a < m) (hmb : m < b) (hb : b ≤ n) (h63 : n ≤ 1099511627776) :
    Calls Try.prog 76 #[.slice (some ⟨g, 0, none⟩) n cap, .int .i64 a, .int .i64 m, .int .i64 b, cmpV] w fun e w' => e = .returned (.tuple #[]) ∧ ∃ ys, Pl w' g cap ys ∧ Rot xs ys a m b ∧ w.grownBy w' (some g) := by
  have HP := Lib.hid (And.intro hp hn)
  clear hp hn
  have w1 : IntKind.i64.wrap ((m : Int) - (a : Int)) = ((m - a : Nat) : Int) := by rw [IntWalk.i64_in _ (by omega)]; omega
  have w2 : IntKind.i64.wrap ((b : Int) - (m : Int)) = ((b - m : Nat) : Int) := by rw [IntWalk.i64_in _ (by omega)]; omega
  obtain ⟨i0, hi0⟩ : ∃ i, m - a = i := ⟨_, rfl⟩
  obtain ⟨j0, hj0⟩ : ∃ i, b - m = i := ⟨_, rfl⟩
  have v1 : (m : Int) - (a : Int) = (i0 : Int) := by omega
  have v2 : (b : Int) - (m : Int) = (j0 : Int) := by omega
  have HIJ := Lib.hid (And.intro hi0 hj0)
  clear w1 w2 hi0 hj0
  go_enter Try.func76, Try.ntmps76
  go_wp2_with fail
  clear v1 v2
  go_loopw [10, 11] (fun iv jv wr => ∃ (i j : Nat) (ys : List El), iv = .int .i64 (i : Int) ∧ jv = .int .i64 (j : Int) ∧ Hid (0 < i ∧ 0 < j ∧ i ≤ m ∧ m + j ≤ n ∧ ys.length = n ∧ Pl wr g cap ys ∧ (∀ zs, Rot ys zs (m - i) m (m + j) → Rot xs zs a m b) ∧ w.grownBy wr (some g))) (fun iv jv _ => (intOf iv).toNat + (intOf jv).toNat)
  case atStart => exact ⟨i0, j0, xs, rfl, rfl, Lib.hid ⟨by have := HIJ.out; omega, by have := HIJ.out; omega, by have := HIJ.out; omega, by have := HIJ.out; omega, HP.out.2, HP.out.1, fun zs hz => by
    have h1 := HIJ.out.1
    have h2 := HIJ.out.2
    rwa [show m - i0 = a by omega, show m + j0 = b by omega] at hz, grown_of_below (Below.refl _ _) _⟩⟩
  case round =>
    obtain ⟨i, j, ys, rfl, rfl, hh⟩ := hrel
    obtain ⟨hi, hj, him, hjn, -⟩ := hh.out
    obtain ⟨u, hu⟩ : ∃ u, m - i = u := ⟨_, rfl⟩
    have e1 : (m : Int) - (i : Int) = (u : Int) := by omega
    by_cases hij : i = j
    · subst hij
      have HU := Lib.hid hu
      have HS := Lib.hid (swr_any g cap n u m i ys wr hh.out.2.2.2.2.2.1 hh.out.2.2.2.2.1 (by omega) (by omega) h63)
      clear hu
      go_wp2_with fail
      refine HS.out.mono ?_
      rintro e w1 ⟨rfl, zs, h1, h2, h3⟩
      have HZ := Lib.hid (And.intro h1 (And.intro h2 h3))
      clear h1 h2 h3
      go_wp2_with fail
      go_end0
      refine ⟨rfl, zs, HZ.out.1, ?_, grown_trans hh.out.2.2.2.2.2.2.2 HZ.out.2.2⟩
      refine hh.out.2.2.2.2.2.2.1 zs (rot_same him ?_)
      rw [HU.out]
      exact HZ.out.2.1
    · have hne : ((i : Int) != (j : Int)) = true := bne_iff_ne.2 (by omega)
      have HU := Lib.hid hu
      have HNE := Lib.hid hij
      by_cases hlt : j < i
      · have hlt' : (j : Int) < (i : Int) := by omega
        have HS := Lib.hid (swr_any g cap n u m j ys wr hh.out.2.2.2.2.2.1 hh.out.2.2.2.2.1 (by omega) (by omega) h63)
        have e2 : (i : Int) - (j : Int) = ((i - j : Nat) : Int) := by omega
        clear hu hij
        go_wp2_with fail
        refine HS.out.mono ?_
        rintro e w1 ⟨rfl, zs, h1, h2, h3⟩
        have HZ := Lib.hid (And.intro h1 (And.intro h2 h3))
        clear h1 h2 h3
        go_wp2_with fail
        go_roundw
        case rel =>
          have hl : zs.length = n := HZ.out.2.1.1.length_eq.trans hh.out.2.2.2.2.1
          refine ⟨i - j, j, zs, by go_num, rfl, Lib.hid ⟨by omega, by omega, by omega, by omega, hl, HZ.out.1, fun us hus => hh.out.2.2.2.2.2.2.1 us (rot_left him hj hlt ?_ hus), grown_trans hh.out.2.2.2.2.2.2.2 HZ.out.2.2⟩⟩
          rw [HU.out]
          exact HZ.out.2.1
        case measure => simp [intOf]; omega
      · have hlt2 : i < j := by omega
        have hlt' : ¬ (j : Int) < (i : Int) := by omega
        obtain ⟨t, ht⟩ : ∃ t, m + j - i = t := ⟨_, rfl⟩
        have e2 : (m : Int) + (j : Int) - (i : Int) = (t : Int) := by omega
        have e3 : (j : Int) - (i : Int) = ((j - i : Nat) : Int) := by omega
        have HS := Lib.hid (swr_any g cap n u t i ys wr hh.out.2.2.2.2.2.1 hh.out.2.2.2.2.1 (by omega) (by omega) h63)
        have HT := Lib.hid ht
        clear hu hij ht
        go_wp2_with fail
        refine HS.out.mono ?_
        rintro e w1 ⟨rfl, zs, h1, h2, h3⟩
        have HZ := Lib.hid (And.intro h1 (And.intro h2 h3))
        clear h1 h2 h3
        go_wp2_with fail
        go_roundw
        case rel =>
          have hl : zs.length = n := HZ.out.2.1.1.length_eq.trans hh.out.2.2.2.2.1
          refine ⟨i, j - i, zs, rfl, by go_num, Lib.hid ⟨by omega, by omega, by omega, by omega, hl, HZ.out.1, fun us hus => hh.out.2.2.2.2.2.2.1 us (rot_right him hi hlt2 ?_ hus), grown_trans hh.out.2.2.2.2.2.2.2 HZ.out.2.2⟩⟩
          rw [HU.out, HT.out]
          exact HZ.out.2.1
        case measure => simp [intOf]; omega
end Go.Proofs.Ytebacmmfjadalaa
