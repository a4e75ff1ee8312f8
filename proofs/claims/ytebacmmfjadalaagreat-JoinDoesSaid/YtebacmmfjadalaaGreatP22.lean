/- L1 L2 L3 L4 in one text. -/
import Derived.Test.YtebacmmfjadalaaGreatP18
import Derived.Test.YtebacmmfjadalaaGreatP02

namespace Go.Proofs.YtebacmmfjadalaaGreat
open Go Go.RowKit

/-- the order as a function value -/
abbrev cmpV : Value := .func (.func 81) #[] #[]

theorem swap_pl {w : World} {g cap i k : Nat} {ys : List El} {a b : El} (hp : Pl w g cap ys) (ha : ys[i]? = some a) (hb : ys[k]? = some b) :
    Pl ((((((((((w.setCell ⟨g, i * 5, none⟩ (.int .i64 b.at_)).setCell ⟨g, i * 5 + 1, none⟩ (.int .i64 b.se)).setCell ⟨g, i * 5 + 2, none⟩ (.int .u32 b.sq)).setCell ⟨g, i * 5 + 3, none⟩ (.int .u32 b.st)).setCell ⟨g, i * 5 + 4, none⟩ (.slice b.v b.n b.c)).setCell ⟨g, k * 5, none⟩ (.int .i64 a.at_)).setCell ⟨g, k * 5 + 1, none⟩ (.int .i64 a.se)).setCell ⟨g, k * 5 + 2, none⟩ (.int .u32 a.sq)).setCell ⟨g, k * 5 + 3, none⟩ (.int .u32 a.st)).setCell ⟨g, k * 5 + 4, none⟩ (.slice a.v a.n a.c)).drew g cap (sw ys i k) ∧
    w.grownBy ((((((((((w.setCell ⟨g, i * 5, none⟩ (.int .i64 b.at_)).setCell ⟨g, i * 5 + 1, none⟩ (.int .i64 b.se)).setCell ⟨g, i * 5 + 2, none⟩ (.int .u32 b.sq)).setCell ⟨g, i * 5 + 3, none⟩ (.int .u32 b.st)).setCell ⟨g, i * 5 + 4, none⟩ (.slice b.v b.n b.c)).setCell ⟨g, k * 5, none⟩ (.int .i64 a.at_)).setCell ⟨g, k * 5 + 1, none⟩ (.int .i64 a.se)).setCell ⟨g, k * 5 + 2, none⟩ (.int .u32 a.sq)).setCell ⟨g, k * 5 + 3, none⟩ (.int .u32 a.st)).setCell ⟨g, k * 5 + 4, none⟩ (.slice a.v a.n a.c)).drew (some g) := by
  have e1 := Pl.set hp (i := i) (List.getElem?_eq_some_iff.1 ha).1 b
  have e2 := Pl.set e1.1 (i := k) (by rw [List.length_set]; exact (List.getElem?_eq_some_iff.1 hb).1) a
  rw [sw_eq ha hb]
  exact ⟨e2.1.drew, grown_trans (grown_trans e1.2 e2.2) (grown_drew _ _)⟩

set_option maxRecDepth 8000 in
set_option maxHeartbeats 4000000 in
theorem swr_any (g cap n a b k : Nat) (xs : List El) (w : World) (hp : Pl w g cap xs) (hn : xs.length = n) (hab : a + k ≤ b) (hb : b + k ≤ n) (h63 : n ≤ 1099511627776) :
    Calls Tryz.prog 126 #[.slice (some ⟨g, 0, none⟩) n cap, .int .i64 a, .int .i64 b, .int .i64 k, cmpV] w fun e w' => e = .returned (.tuple #[]) ∧ ∃ ys, Pl w' g cap ys ∧ SwR xs ys a b k ∧ w.grownBy w' (some g) := by
  have HP := Lib.hid (And.intro hp hn)
  clear hp hn
  go_enter Tryz.func126, Tryz.ntmps126
  go_wp2_with fail
  go_loopw [10] (fun i wr => ∃ (j : Nat) (ys : List El), j ≤ k ∧ i = .int .i64 (j : Int) ∧ Hid (Pl wr g cap ys ∧ SwR xs ys a b j ∧ w.grownBy wr (some g))) (fun i _ => k - (intOf i).toNat)
  case atStart => exact ⟨0, xs, by omega, rfl, Lib.hid ⟨HP.out.1, swr_start _ _ _, grown_of_below (Below.refl _ _) _⟩⟩
  case round =>
    obtain ⟨j, ys, hj, rfl, hh⟩ := hrel
    by_cases hlt : j < k
    · have hlen : ys.length = n := hh.out.2.1.1.length_eq.trans HP.out.2
      obtain ⟨p, hpp⟩ : ∃ p, a + j = p := ⟨_, rfl⟩
      obtain ⟨q, hqq⟩ : ∃ q, b + j = q := ⟨_, rfl⟩
      obtain ⟨x, hx⟩ := get_some (xs := ys) (i := p) (by omega)
      obtain ⟨y, hy⟩ := get_some (xs := ys) (i := q) (by omega)
      have HXY := Lib.hid (And.intro hx hy)
      have hz := fun m => hh.out.1.frozen m
      obtain ⟨a0, a1, a2, a3, a4⟩ := hh.out.1.cells hx
      obtain ⟨b0, b1, b2, b3, b4⟩ := hh.out.1.cells hy
      have HE := Lib.hid (swap_pl hh.out.1 hx hy)
      obtain ⟨at_, se, sq, st, v, vn, vc, vb⟩ := x
      obtain ⟨at2, se2, sq2, st2, v2, vn2, vc2, vb2⟩ := y
      simp only at a0 a1 a2 a3 a4 b0 b1 b2 b3 b4
      have hji : (j : Int) < (k : Int) := by omega
      have w1 : IntKind.i64.wrap ((a : Int) + (j : Int)) = (p : Int) := by rw [IntWalk.i64_in _ (by omega)]; omega
      have w2 : IntKind.i64.wrap ((b : Int) + (j : Int)) = (q : Int) := by rw [IntWalk.i64_in _ (by omega)]; omega
      have w3 : IntKind.i64.wrap ((j : Int) + 1) = (j : Int) + 1 := by rw [IntWalk.i64_in _ (by omega)]
      have i0 : (0 : Int) ≤ (p : Int) := by omega
      have i1 : (p : Int) < (n : Int) := by omega
      have k0 : (0 : Int) ≤ (q : Int) := by omega
      have k1 : (q : Int) < (n : Int) := by omega
      have HPQ := Lib.hid (And.intro hpp hqq)
      have HLN := Lib.hid hlen
      clear hx hy hpp hqq hlen
      go_wp2_with fail
      obtain ⟨z00, d0⟩ := set_some ⟨g, p * 5, none⟩ (.int .i64 at2) b0
      obtain ⟨z10, f10⟩ := set_some ⟨g, p * 5, none⟩ (.int .i64 at2) b1
      obtain ⟨z11, d1⟩ := set_some ⟨g, p * 5 + 1, none⟩ (.int .i64 se2) f10
      obtain ⟨z20, f20⟩ := set_some ⟨g, p * 5, none⟩ (.int .i64 at2) b2
      obtain ⟨z21, f21⟩ := set_some ⟨g, p * 5 + 1, none⟩ (.int .i64 se2) f20
      obtain ⟨z22, d2⟩ := set_some ⟨g, p * 5 + 2, none⟩ (.int .u32 sq2) f21
      obtain ⟨z30, f30⟩ := set_some ⟨g, p * 5, none⟩ (.int .i64 at2) b3
      obtain ⟨z31, f31⟩ := set_some ⟨g, p * 5 + 1, none⟩ (.int .i64 se2) f30
      obtain ⟨z32, f32⟩ := set_some ⟨g, p * 5 + 2, none⟩ (.int .u32 sq2) f31
      obtain ⟨z33, d3⟩ := set_some ⟨g, p * 5 + 3, none⟩ (.int .u32 st2) f32
      obtain ⟨z40, f40⟩ := set_some ⟨g, p * 5, none⟩ (.int .i64 at2) b4
      obtain ⟨z41, f41⟩ := set_some ⟨g, p * 5 + 1, none⟩ (.int .i64 se2) f40
      obtain ⟨z42, f42⟩ := set_some ⟨g, p * 5 + 2, none⟩ (.int .u32 sq2) f41
      obtain ⟨z43, f43⟩ := set_some ⟨g, p * 5 + 3, none⟩ (.int .u32 st2) f42
      obtain ⟨z44, d4⟩ := set_some ⟨g, p * 5 + 4, none⟩ (.slice v2 vn2 vc2) f43
      clear f10 f20 f21 f30 f31 f32 f40 f41 f42 f43
      go_region
      all_goals go_wp2_with fail
      go_roundw
      case rel =>
        refine ⟨j + 1, sw ys p q, by omega, by go_num, Lib.hid ⟨HE.out.1, ?_, grown_trans hh.out.2.2 HE.out.2⟩⟩
        rw [← HPQ.out.1, ← HPQ.out.2]
        exact swr_step hh.out.2.1 (by omega) (by have := HP.out.2; omega)
      case measure => simp [intOf]; omega
    · have hjk : j = k := by omega
      subst hjk
      go_wp2_with fail
      go_end0
      exact ⟨rfl, ys, hh.out⟩

set_option maxRecDepth 8000 in
set_option maxHeartbeats 4000000 in
theorem rot_any (g cap n a m b : Nat) (xs : List El) (w : World) (hp : Pl w g cap xs) (hn : xs.length = n) (ham : a < m) (hmb : m < b) (hb : b ≤ n) (h63 : n ≤ 1099511627776) :
    Calls Tryz.prog 122 #[.slice (some ⟨g, 0, none⟩) n cap, .int .i64 a, .int .i64 m, .int .i64 b, cmpV] w fun e w' => e = .returned (.tuple #[]) ∧ ∃ ys, Pl w' g cap ys ∧ Rot xs ys a m b ∧ w.grownBy w' (some g) := by
  have HP := Lib.hid (And.intro hp hn)
  clear hp hn
  have w1 : IntKind.i64.wrap ((m : Int) - (a : Int)) = ((m - a : Nat) : Int) := by rw [IntWalk.i64_in _ (by omega)]; omega
  have w2 : IntKind.i64.wrap ((b : Int) - (m : Int)) = ((b - m : Nat) : Int) := by rw [IntWalk.i64_in _ (by omega)]; omega
  obtain ⟨i0, hi0⟩ : ∃ i, m - a = i := ⟨_, rfl⟩
  obtain ⟨j0, hj0⟩ : ∃ i, b - m = i := ⟨_, rfl⟩
  have v1 : (m : Int) - (a : Int) = (i0 : Int) := by omega
  have v2 : (b : Int) - (m : Int) = (j0 : Int) := by omega
  have HIJ := Lib.hid (And.intro hi0 hj0)
  clear w1 w2 hi0 hj0
  go_enter Tryz.func122, Tryz.ntmps122
  go_wp2_with fail
  clear v1 v2
  go_loopw [10, 11] (fun iv jv wr => ∃ (i j : Nat) (ys : List El), iv = .int .i64 (i : Int) ∧ jv = .int .i64 (j : Int) ∧ Hid (0 < i ∧ 0 < j ∧ i ≤ m ∧ m + j ≤ n ∧ ys.length = n ∧ Pl wr g cap ys ∧ (∀ zs, Rot ys zs (m - i) m (m + j) → Rot xs zs a m b) ∧ w.grownBy wr (some g))) (fun iv jv _ => (intOf iv).toNat + (intOf jv).toNat)
  case atStart => exact ⟨i0, j0, xs, rfl, rfl, Lib.hid ⟨by have := HIJ.out; omega, by have := HIJ.out; omega, by have := HIJ.out; omega, by have := HIJ.out; omega, HP.out.2, HP.out.1, fun zs hz => by
    have h1 := HIJ.out.1
    have h2 := HIJ.out.2
    rwa [show m - i0 = a by omega, show m + j0 = b by omega] at hz, grown_of_below (Below.refl _ _) _⟩⟩
  case round =>
    obtain ⟨i, j, ys, rfl, rfl, hh⟩ := hrel
    obtain ⟨hi, hj, him, hjn, -⟩ := hh.out
    obtain ⟨u, hu⟩ : ∃ u, m - i = u := ⟨_, rfl⟩
    have e1 : (m : Int) - (i : Int) = (u : Int) := by omega
    by_cases hij : i = j
    · subst hij
      have HU := Lib.hid hu
      have HS := Lib.hid (swr_any g cap n u m i ys wr hh.out.2.2.2.2.2.1 hh.out.2.2.2.2.1 (by omega) (by omega) h63)
      clear hu
      go_wp2_with fail
      refine HS.out.mono ?_
      rintro e w1 ⟨rfl, zs, h1, h2, h3⟩
      have HZ := Lib.hid (And.intro h1 (And.intro h2 h3))
      clear h1 h2 h3
      go_wp2_with fail
      go_end0
      refine ⟨rfl, zs, HZ.out.1, ?_, grown_trans hh.out.2.2.2.2.2.2.2 HZ.out.2.2⟩
      refine hh.out.2.2.2.2.2.2.1 zs (rot_same him ?_)
      rw [HU.out]
      exact HZ.out.2.1
    · have hne : ((i : Int) != (j : Int)) = true := bne_iff_ne.2 (by omega)
      have HU := Lib.hid hu
      have HNE := Lib.hid hij
      by_cases hlt : j < i
      · have hlt' : (j : Int) < (i : Int) := by omega
        have HS := Lib.hid (swr_any g cap n u m j ys wr hh.out.2.2.2.2.2.1 hh.out.2.2.2.2.1 (by omega) (by omega) h63)
        have e2 : (i : Int) - (j : Int) = ((i - j : Nat) : Int) := by omega
        clear hu hij
        go_wp2_with fail
        refine HS.out.mono ?_
        rintro e w1 ⟨rfl, zs, h1, h2, h3⟩
        have HZ := Lib.hid (And.intro h1 (And.intro h2 h3))
        clear h1 h2 h3
        go_wp2_with fail
        go_roundw
        case rel =>
          have hl : zs.length = n := HZ.out.2.1.1.length_eq.trans hh.out.2.2.2.2.1
          refine ⟨i - j, j, zs, by go_num, rfl, Lib.hid ⟨by omega, by omega, by omega, by omega, hl, HZ.out.1, fun us hus => hh.out.2.2.2.2.2.2.1 us (rot_left him hj hlt ?_ hus), grown_trans hh.out.2.2.2.2.2.2.2 HZ.out.2.2⟩⟩
          rw [HU.out]
          exact HZ.out.2.1
        case measure => simp [intOf]; omega
      · have hlt2 : i < j := by omega
        have hlt' : ¬ (j : Int) < (i : Int) := by omega
        obtain ⟨t, ht⟩ : ∃ t, m + j - i = t := ⟨_, rfl⟩
        have e2 : (m : Int) + (j : Int) - (i : Int) = (t : Int) := by omega
        have e3 : (j : Int) - (i : Int) = ((j - i : Nat) : Int) := by omega
        have HS := Lib.hid (swr_any g cap n u t i ys wr hh.out.2.2.2.2.2.1 hh.out.2.2.2.2.1 (by omega) (by omega) h63)
        have HT := Lib.hid ht
        clear hu hij ht
        go_wp2_with fail
        refine HS.out.mono ?_
        rintro e w1 ⟨rfl, zs, h1, h2, h3⟩
        have HZ := Lib.hid (And.intro h1 (And.intro h2 h3))
        clear h1 h2 h3
        go_wp2_with fail
        go_roundw
        case rel =>
          have hl : zs.length = n := HZ.out.2.1.1.length_eq.trans hh.out.2.2.2.2.1
          refine ⟨i, j - i, zs, rfl, by go_num, Lib.hid ⟨by omega, by omega, by omega, by omega, hl, HZ.out.1, fun us hus => hh.out.2.2.2.2.2.2.1 us (rot_right him hi hlt2 ?_ hus), grown_trans hh.out.2.2.2.2.2.2.2 HZ.out.2.2⟩⟩
          rw [HU.out, HT.out]
          exact HZ.out.2.1
        case measure => simp [intOf]; omega
end Go.Proofs.YtebacmmfjadalaaGreat

namespace Go.Proofs.YtebacmmfjadalaaGreat
open Go Go.RowKit

def Oks (w : World) (g : Nat) (xs : List El) : Prop := ∀ x ∈ xs, ElOk w x ∧ Away x (some g)
theorem Oks.grown {w w' : World} {g : Nat} {xs ys : List El} (h : Oks w g xs) (hg : w.grownBy w' (some g)) (hp : ys.Perm xs) : Oks w' g ys := fun x hx => by
  obtain ⟨h1, h2⟩ := h x (hp.mem_iff.1 hx)
  exact ⟨h1.grown hg h2, h2⟩

set_option maxRecDepth 8000 in
set_option maxHeartbeats 8000000 in
theorem ins_any (g cap n a b : Nat) (xs : List El) (w : World) (hp : Pl w g cap xs) (hn : xs.length = n) (hok : Oks w g xs) (hab : a ≤ b) (hb : b ≤ n) (h63 : n ≤ 1099511627776) :
    Calls Tryz.prog 111 #[.slice (some ⟨g, 0, none⟩) n cap, .int .i64 a, .int .i64 b, cmpV] w fun e w' => e = .returned (.tuple #[]) ∧ ∃ ys, Pl w' g cap ys ∧ Shuf xs ys a b ∧ Srt cmpK ys a b ∧ w.grownBy w' (some g) := by
  have HP := Lib.hid (And.intro hp (And.intro hn hok))
  clear hp hn hok
  have s1 : (a : Int) + 1 ≤ 9223372036854775807 := by omega
  go_enter Tryz.func111, Tryz.ntmps111
  go_wp2_with fail
  go_loopw [8] (fun tv wr => ∃ (t : Nat) (ys : List El), tv = .int .i64 (t : Int) ∧ Hid (a + 1 ≤ t ∧ (t ≤ b ∨ t = a + 1) ∧ Pl wr g cap ys ∧ Shuf xs ys a b ∧ Srt cmpK ys a t ∧ w.grownBy wr (some g))) (fun tv _ => b - (intOf tv).toNat)
  case atStart => exact ⟨a + 1, xs, by go_num, Lib.hid ⟨by omega, .inr rfl, HP.out.1, Shuf.refl _ _ _, Srt.one _ _ (by omega), grown_of_below (Below.refl _ _) _⟩⟩
  case round =>
    obtain ⟨t, ys, rfl, hh⟩ := hrel
    by_cases htb : t < b
    · have htb' : (t : Int) < (b : Int) := by omega
      have hat := hh.out.1
      clear s1
      go_wp2_with fail
      obtain ⟨wo, rfl⟩ : ∃ wo : World, wo = wr := ⟨_, rfl⟩
      go_loopw [9] (fun jv wr => ∃ (j : Nat) (zs : List El), jv = .int .i64 (j : Int) ∧ Hid (a ≤ j ∧ j ≤ t ∧ Pl wr g cap zs ∧ Shuf xs zs a b ∧ InsSt cmpK zs a (t + 1) j ∧ w.grownBy wr (some g))) (fun jv _ => (intOf jv).toNat)
      case atStart => exact ⟨t, ys, rfl, Lib.hid ⟨by omega, Nat.le_refl _, hh.out.2.2.1, hh.out.2.2.2.1, ins_start hh.out.2.2.2.2.1, hh.out.2.2.2.2.2⟩⟩
      case round =>
        obtain ⟨j, zs, rfl, hi⟩ := hrel
        have haj := hi.out.1
        have hjt := hi.out.2.1
        by_cases hja : j = a
        · have HJ := Lib.hid hja
          have hd : decide (a < j) = false := by simp; omega
          have hd' : ¬ (a : Int) < (j : Int) := by omega
          clear hja
          go_wp2_with fail
          go_quiet (fail)
          go_wp2_with fail
          go_roundw
          case rel =>
            obtain ⟨-, -, h3, h4, h5, h6⟩ := hi.out
            refine ⟨t + 1, zs, by go_num, Lib.hid ⟨by omega, .inl (by omega), h3, h4, ins_stop cmpK_swo h5 (by rw [h4.len, HP.out.2.1]; omega) haj (.inl HJ.out), ?_⟩⟩
            exact ⟨h6.os, h6.tape, h6.output, h6.size, h6.block⟩
          case measure => simp [intOf]; omega
        · obtain ⟨q, hq⟩ : ∃ q, j = q + 1 := ⟨j - 1, by omega⟩
          have HJ := Lib.hid (And.intro hja hq)
          have hzl : zs.length = n := hi.out.2.2.2.1.len.trans HP.out.2.1
          obtain ⟨x, hx⟩ := get_some (xs := zs) (i := j) (by omega)
          obtain ⟨y, hy⟩ := get_some (xs := zs) (i := q) (by omega)
          have hoks := HP.out.2.2.grown hi.out.2.2.2.2.2 hi.out.2.2.2.1.perm
          have hox := hoks x (List.mem_of_getElem? hx)
          have hoy := hoks y (List.mem_of_getElem? hy)
          have HC := Lib.hid (fun W (hW : Below wr.heap.size wr W) => order_any x y W (hox.1.below hW) (hoy.1.below hW))
          have hz := fun m => hi.out.2.2.1.frozen m
          have hglt := hi.out.2.2.1.lt
          have HLT := Lib.hid (show ltAt cmpK zs j q = decide (cmpK x y < 0) by
            unfold ltAt
            rw [hx, hy])
          obtain ⟨z, hzz⟩ : ∃ z, cmpK x y = z := ⟨_, rfl⟩
          rw [hzz] at HC HLT
          have HXY := Lib.hid (And.intro hx hy)
          clear hzz hox hoy hoks
          unfold El.val at HC
          have HHP := Lib.hid hi.out.2.2.1
          obtain ⟨a0, a1, a2, a3, a4⟩ := hi.out.2.2.1.cells hx
          obtain ⟨b0, b1, b2, b3, b4⟩ := hi.out.2.2.1.cells hy
          obtain ⟨at_, se, sq, st, v, vn, vc, vb⟩ := x
          obtain ⟨at2, se2, sq2, st2, v2, vn2, vc2, vb2⟩ := y
          simp only at a0 a1 a2 a3 a4 b0 b1 b2 b3 b4 HC
          clear hx hy
          have hd : decide (a < j) = true := by simp; omega
          have hd' : (a : Int) < (j : Int) := by omega
          have hw1 : IntKind.i64.wrap ((j : Int) - 1) = (q : Int) := by rw [IntWalk.i64_in _ (by omega)]; omega
          have i0 : (0 : Int) ≤ (q : Int) := by omega
          have i1 : (q : Int) < (n : Int) := by omega
          have k0 : (0 : Int) ≤ (j : Int) := by omega
          have k1 : (j : Int) < (n : Int) := by omega
          have HZL := Lib.hid hzl
          clear hja hq hzl
          go_wp2_with fail
          go_region_held3 (fun w' => w'.cell? ⟨g, j * 5, none⟩ = some (.int .i64 at_) ∧ w'.cell? ⟨g, j * 5 + 1, none⟩ = some (.int .i64 se) ∧ w'.cell? ⟨g, j * 5 + 2, none⟩ = some (.int .u32 sq) ∧ w'.cell? ⟨g, j * 5 + 3, none⟩ = some (.int .u32 st) ∧ w'.cell? ⟨g, j * 5 + 4, none⟩ = some (.slice v vn vc) ∧ w'.cell? ⟨g, q * 5, none⟩ = some (.int .i64 at2) ∧ w'.cell? ⟨g, q * 5 + 1, none⟩ = some (.int .i64 se2) ∧ w'.cell? ⟨g, q * 5 + 2, none⟩ = some (.int .u32 sq2) ∧ w'.cell? ⟨g, q * 5 + 3, none⟩ = some (.int .u32 st2) ∧ w'.cell? ⟨g, q * 5 + 4, none⟩ = some (.slice v2 vn2 vc2))
            (first | exact ⟨a0, a1, a2, a3, a4, b0, b1, b2, b3, b4⟩ | exact ⟨(hb6.cell (by exact hglt)).trans a0, (hb6.cell (by exact hglt)).trans a1, (hb6.cell (by exact hglt)).trans a2, (hb6.cell (by exact hglt)).trans a3, (hb6.cell (by exact hglt)).trans a4, (hb6.cell (by exact hglt)).trans b0, (hb6.cell (by exact hglt)).trans b1, (hb6.cell (by exact hglt)).trans b2, (hb6.cell (by exact hglt)).trans b3, (hb6.cell (by exact hglt)).trans b4⟩)
            (first | (go_at_call 81; refine (HC.out _ (Below.refl _ _).drew).mono ?_; rintro e w6 ⟨rfl, hb6⟩))
          have HB6 := Lib.hid ((Below.refl wr.heap.size wr).drew.trans hb6)
          have hp6 := HHP.out.below HB6.out
          have HG6 := Lib.hid (grown_trans hi.out.2.2.2.2.2 (grown_of_below HB6.out g))
          have HP6 := Lib.hid hp6
          clear hb6 a0 a1 a2 a3 a4 b0 b1 b2 b3 b4 hz
          have hz := fun m => hp6.frozen m
          obtain ⟨a0, a1, a2, a3, a4⟩ := hp6.cells HXY.out.1
          obtain ⟨b0, b1, b2, b3, b4⟩ := hp6.cells HXY.out.2
          have HE := Lib.hid (swap_pl hp6 HXY.out.1 HXY.out.2)
          simp only at a0 a1 a2 a3 a4 b0 b1 b2 b3 b4 HE
          clear hp6
          by_cases hzp : z < 0
          · have HLT2 := Lib.hid (show ltAt cmpK zs j q = true by rw [HLT.out]; simpa using hzp)
            go_wp2_with fail
            obtain ⟨z00, d0⟩ := set_some ⟨g, j * 5, none⟩ (.int .i64 at2) b0
            obtain ⟨z10, f10⟩ := set_some ⟨g, j * 5, none⟩ (.int .i64 at2) b1
            obtain ⟨z11, d1⟩ := set_some ⟨g, j * 5 + 1, none⟩ (.int .i64 se2) f10
            obtain ⟨z20, f20⟩ := set_some ⟨g, j * 5, none⟩ (.int .i64 at2) b2
            obtain ⟨z21, f21⟩ := set_some ⟨g, j * 5 + 1, none⟩ (.int .i64 se2) f20
            obtain ⟨z22, d2⟩ := set_some ⟨g, j * 5 + 2, none⟩ (.int .u32 sq2) f21
            obtain ⟨z30, f30⟩ := set_some ⟨g, j * 5, none⟩ (.int .i64 at2) b3
            obtain ⟨z31, f31⟩ := set_some ⟨g, j * 5 + 1, none⟩ (.int .i64 se2) f30
            obtain ⟨z32, f32⟩ := set_some ⟨g, j * 5 + 2, none⟩ (.int .u32 sq2) f31
            obtain ⟨z33, d3⟩ := set_some ⟨g, j * 5 + 3, none⟩ (.int .u32 st2) f32
            obtain ⟨z40, f40⟩ := set_some ⟨g, j * 5, none⟩ (.int .i64 at2) b4
            obtain ⟨z41, f41⟩ := set_some ⟨g, j * 5 + 1, none⟩ (.int .i64 se2) f40
            obtain ⟨z42, f42⟩ := set_some ⟨g, j * 5 + 2, none⟩ (.int .u32 sq2) f41
            obtain ⟨z43, f43⟩ := set_some ⟨g, j * 5 + 3, none⟩ (.int .u32 st2) f42
            obtain ⟨z44, d4⟩ := set_some ⟨g, j * 5 + 4, none⟩ (.slice v2 vn2 vc2) f43
            clear f10 f20 f21 f30 f31 f32 f40 f41 f42 f43
            go_region
            all_goals go_wp2_with fail
            go_roundw
            case rel =>
              have hq := HJ.out.2
              have hzl := HZL.out
              obtain ⟨-, -, -, h4, h5, -⟩ := hi.out
              refine ⟨q, sw zs j q, by go_num, Lib.hid ⟨by have := HJ.out.1; omega, by omega, HE.out.1, h4.trans (Shuf.sw (by omega) (by omega) (by have := HJ.out.1; omega) (by omega) (by omega)), ?_, grown_trans HG6.out HE.out.2⟩⟩
              have hlt := HLT2.out
              subst hq
              exact ins_step cmpK_swo h5 (by have := HJ.out.1; omega) (by omega) (by omega) hlt
            case measure =>
              have := HJ.out.2
              simp [intOf]; omega
          · have HLT2 := Lib.hid (show ltAt cmpK zs j q = false by rw [HLT.out]; simpa using hzp)
            have hzd : decide (z < 0) = false := by simpa using hzp
            go_wp2_with fail
            go_roundw
            case rel =>
              obtain ⟨-, -, -, h4, h5, -⟩ := hi.out
              have hq := HJ.out.2
              refine ⟨t + 1, zs, by go_num, Lib.hid ⟨by omega, .inl (by omega), HP6.out, h4, ins_stop cmpK_swo h5 (by rw [h4.len, HP.out.2.1]; omega) haj (.inr (by rw [show j - 1 = q by omega]; exact HLT2.out)), HG6.out⟩⟩
            case measure => simp [intOf]; omega
    · have htb' : ¬ (t : Int) < (b : Int) := by omega
      go_wp2_with fail
      go_end0
      obtain ⟨h1, h2, h3, h4, h5, h6⟩ := hh.out
      exact ⟨rfl, ys, h3, h4, h5.sub (Nat.le_refl _) (by omega), h6⟩
end Go.Proofs.YtebacmmfjadalaaGreat

namespace Go.Proofs.YtebacmmfjadalaaGreat
open Go Go.RowKit

/-- what a merge leaves -/
def SymP (g cap a b : Nat) (xs : List El) (w : World) (e : Ending) (w' : World) : Prop := e = .returned (.tuple #[]) ∧ ∃ ys, Pl w' g cap ys ∧ Shuf xs ys a b ∧ Srt cmpK ys a b ∧ w.grownBy w' (some g)

set_option maxRecDepth 100000 in
set_option maxHeartbeats 8000000 in
theorem sym_one (g cap n a m b : Nat) (xs : List El) (w : World) (hp : Pl w g cap xs) (hn : xs.length = n) (hok : Oks w g xs) (hm : m = a + 1) (hmb : m < b) (hb : b ≤ n) (h63 : n ≤ 1099511627776) (h2 : Srt cmpK xs m b) :
    Calls Tryz.prog 112 #[.slice (some ⟨g, 0, none⟩) n cap, .int .i64 a, .int .i64 m, .int .i64 b, cmpV] w (SymP g cap a b xs w) := by
  have HP := Lib.hid (And.intro hp (And.intro hn hok))
  have HM := Lib.hid (And.intro hm h2)
  have hab : a < m := by omega
  have hma : (m : Int) - (a : Int) = 1 := by omega
  clear hp hok hm h2
  go_enter Tryz.func112, Tryz.ntmps112
  go_wp2_with fail
  clear hma
  go_loopw [10, 11] (fun iv jv wr => ∃ (i j : Nat), iv = .int .i64 (i : Int) ∧ jv = .int .i64 (j : Int) ∧ Hid (B1 cmpK xs a m b i j ∧ Below w.heap.size w wr)) (fun iv jv _ => (intOf jv).toNat - (intOf iv).toNat)
  case atStart => exact ⟨m, b, rfl, rfl, Lib.hid ⟨⟨Nat.le_refl _, by omega, Nat.le_refl _, fun h => by omega, fun h => by omega⟩, Below.refl _ _⟩⟩
  case round =>
    obtain ⟨i, j, rfl, rfl, hh⟩ := hrel
    have q1 := hh.out.1.l
    have q2 := hh.out.1.h
    have q3 := hh.out.1.u
    by_cases hij : i < j
    · obtain ⟨h, hhh⟩ : ∃ h, (i + j) / 2 = h := ⟨_, rfl⟩
      have hd : ((i : Int) + (j : Int)) / 2 = (h : Int) := by omega
      have hih : i ≤ h := by omega
      have hhj : h < j := by omega
      clear hhh
      have hi0 : (0 : Int) ≤ (i : Int) := by omega
      have hij' : (i : Int) < (j : Int) := by omega
      have hk1 : (h : Int) < (n : Int) := by omega
      have hk2 : (a : Int) < (n : Int) := by omega
      obtain ⟨x, hx⟩ := get_some (xs := xs) (i := h) (by omega)
      obtain ⟨y, hy⟩ := get_some (xs := xs) (i := a) (by omega)
      have hoks := HP.out.2.2.grown (grown_of_below hh.out.2 g) (List.Perm.refl _)
      have hox := hoks x (List.mem_of_getElem? hx)
      have hoy := hoks y (List.mem_of_getElem? hy)
      have HC := Lib.hid (fun W (hW : Below wr.heap.size wr W) => order_any x y W (hox.1.below hW) (hoy.1.below hW))
      have HLT := Lib.hid (show ltAt cmpK xs h a = decide (cmpK x y < 0) by
        unfold ltAt
        rw [hx, hy])
      obtain ⟨z, hzz⟩ : ∃ z, cmpK x y = z := ⟨_, rfl⟩
      rw [hzz] at HC HLT
      have hpr := HP.out.1.below hh.out.2
      have hglt := hpr.lt
      obtain ⟨a0, a1, a2, a3, a4⟩ := hpr.cells hx
      obtain ⟨b0, b1, b2, b3, b4⟩ := hpr.cells hy
      clear hzz hox hoy hoks hpr hx hy
      unfold El.val at HC
      obtain ⟨at_, se, sq, st, v, vn, vc, vb⟩ := x
      obtain ⟨at2, se2, sq2, st2, v2, vn2, vc2, vb2⟩ := y
      simp only at a0 a1 a2 a3 a4 b0 b1 b2 b3 b4 HC

      go_wp2_with fail
      clear hd
      go_region_held3 (fun w' => w'.cell? ⟨g, h * 5, none⟩ = some (.int .i64 at_) ∧ w'.cell? ⟨g, h * 5 + 1, none⟩ = some (.int .i64 se) ∧ w'.cell? ⟨g, h * 5 + 2, none⟩ = some (.int .u32 sq) ∧ w'.cell? ⟨g, h * 5 + 3, none⟩ = some (.int .u32 st) ∧ w'.cell? ⟨g, h * 5 + 4, none⟩ = some (.slice v vn vc) ∧ w'.cell? ⟨g, a * 5, none⟩ = some (.int .i64 at2) ∧ w'.cell? ⟨g, a * 5 + 1, none⟩ = some (.int .i64 se2) ∧ w'.cell? ⟨g, a * 5 + 2, none⟩ = some (.int .u32 sq2) ∧ w'.cell? ⟨g, a * 5 + 3, none⟩ = some (.int .u32 st2) ∧ w'.cell? ⟨g, a * 5 + 4, none⟩ = some (.slice v2 vn2 vc2))
        (first | exact ⟨a0, a1, a2, a3, a4, b0, b1, b2, b3, b4⟩ | exact ⟨(hb6.cell (by exact hglt)).trans a0, (hb6.cell (by exact hglt)).trans a1, (hb6.cell (by exact hglt)).trans a2, (hb6.cell (by exact hglt)).trans a3, (hb6.cell (by exact hglt)).trans a4, (hb6.cell (by exact hglt)).trans b0, (hb6.cell (by exact hglt)).trans b1, (hb6.cell (by exact hglt)).trans b2, (hb6.cell (by exact hglt)).trans b3, (hb6.cell (by exact hglt)).trans b4⟩)
        (first | (go_at_call 81; refine (HC.out _ (Below.refl _ _).drew).mono ?_; rintro e w6 ⟨rfl, hb6⟩))
      have HB6 := Lib.hid ((Below.refl wr.heap.size wr).drew.trans hb6)
      clear hb6 a0 a1 a2 a3 a4 b0 b1 b2 b3 b4 HC

      by_cases hzp : z < 0
      · have HLT2 := Lib.hid (show ltAt cmpK xs h a = true by rw [HLT.out]; simpa using hzp)
        go_wp2_with fail
        go_roundw
        case rel => exact ⟨h + 1, j, by go_num, rfl, Lib.hid ⟨⟨by omega, by omega, q3, fun _ => HLT2.out, hh.out.1.no⟩, back_of hh.out.2 HB6.out⟩⟩
        case measure => simp [intOf]; omega
      · have HLT2 := Lib.hid (show ltAt cmpK xs h a = false by rw [HLT.out]; simpa using hzp)
        go_wp2_with fail
        go_roundw
        case rel => exact ⟨i, h, rfl, rfl, Lib.hid ⟨⟨q1, by omega, by omega, hh.out.1.yes, fun _ => HLT2.out⟩, back_of hh.out.2 HB6.out⟩⟩
        case measure => simp [intOf]; omega
    · have hij2 : i = j := by omega
      have HIJ := Lib.hid hij2
      have hij' : ¬ (i : Int) < (j : Int) := by omega
      have hi1 : (1 : Int) ≤ (i : Int) := by omega
      clear hij2
      go_wp2_with fail
      obtain ⟨wo, rfl⟩ : ∃ wo : World, wo = wr := ⟨_, rfl⟩
      go_loopw [13] (fun kv wr => ∃ (k : Nat) (ys : List El), kv = .int .i64 (k : Int) ∧ Hid (Pl wr g cap ys ∧ a ≤ k ∧ k + 1 ≤ i ∧ Rot xs ys a (a + 1) (k + 1) ∧ w.grownBy wr (some g))) (fun kv _ => i - (intOf kv).toNat)
      case atStart => exact ⟨a, xs, rfl, Lib.hid ⟨HP.out.1.below hh.out.2, Nat.le_refl _, by omega, bub1_start _ _, grown_of_below hh.out.2 g⟩⟩
      case round =>
        have hho := hh.out
        have HHO := Lib.hid hho
        clear hho hh
        obtain ⟨k, ys, rfl, hh⟩ := hrel
        obtain ⟨-, k1, k2, k3, -⟩ := hh.out
        have hyl : ys.length = n := k3.1.length_eq.trans HP.out.2.1
        have HYL := Lib.hid (And.intro k3 hyl)
        clear k3
        by_cases hki : k + 1 < i
        · obtain ⟨q, hq⟩ : ∃ q, k + 1 = q := ⟨_, rfl⟩
          have e1 : (k : Int) < (i : Int) - 1 := by omega
          have e2 : IntKind.i64.wrap ((k : Int) + 1) = (q : Int) := by rw [IntWalk.i64_in _ (by omega)]; omega
          have e3 : (0 : Int) ≤ (k : Int) := by omega
          have e4 : (k : Int) < (n : Int) := by omega
          have e5 : (0 : Int) ≤ (q : Int) := by omega
          have e6 : (q : Int) < (n : Int) := by omega
          obtain ⟨x, hx⟩ := get_some (xs := ys) (i := k) (by omega)
          obtain ⟨y, hy⟩ := get_some (xs := ys) (i := q) (by omega)
          have hz := fun m => hh.out.1.frozen m
          obtain ⟨a0, a1, a2, a3, a4⟩ := hh.out.1.cells hx
          obtain ⟨b0, b1, b2, b3, b4⟩ := hh.out.1.cells hy
          have HE := Lib.hid (swap_pl hh.out.1 hx hy)
          obtain ⟨at_, se, sq, st, v, vn, vc, vb⟩ := x
          obtain ⟨at2, se2, sq2, st2, v2, vn2, vc2, vb2⟩ := y
          simp only at a0 a1 a2 a3 a4 b0 b1 b2 b3 b4 HE
          clear hx hy

          have HQ := Lib.hid hq
          clear hq hyl
          go_wp2_with fail
          obtain ⟨z00, d0⟩ := set_some ⟨g, k * 5, none⟩ (.int .i64 at2) b0
          obtain ⟨z10, f10⟩ := set_some ⟨g, k * 5, none⟩ (.int .i64 at2) b1
          obtain ⟨z11, d1⟩ := set_some ⟨g, k * 5 + 1, none⟩ (.int .i64 se2) f10
          obtain ⟨z20, f20⟩ := set_some ⟨g, k * 5, none⟩ (.int .i64 at2) b2
          obtain ⟨z21, f21⟩ := set_some ⟨g, k * 5 + 1, none⟩ (.int .i64 se2) f20
          obtain ⟨z22, d2⟩ := set_some ⟨g, k * 5 + 2, none⟩ (.int .u32 sq2) f21
          obtain ⟨z30, f30⟩ := set_some ⟨g, k * 5, none⟩ (.int .i64 at2) b3
          obtain ⟨z31, f31⟩ := set_some ⟨g, k * 5 + 1, none⟩ (.int .i64 se2) f30
          obtain ⟨z32, f32⟩ := set_some ⟨g, k * 5 + 2, none⟩ (.int .u32 sq2) f31
          obtain ⟨z33, d3⟩ := set_some ⟨g, k * 5 + 3, none⟩ (.int .u32 st2) f32
          obtain ⟨z40, f40⟩ := set_some ⟨g, k * 5, none⟩ (.int .i64 at2) b4
          obtain ⟨z41, f41⟩ := set_some ⟨g, k * 5 + 1, none⟩ (.int .i64 se2) f40
          obtain ⟨z42, f42⟩ := set_some ⟨g, k * 5 + 2, none⟩ (.int .u32 sq2) f41
          obtain ⟨z43, f43⟩ := set_some ⟨g, k * 5 + 3, none⟩ (.int .u32 st2) f42
          obtain ⟨z44, d4⟩ := set_some ⟨g, k * 5 + 4, none⟩ (.slice v2 vn2 vc2) f43
          clear f10 f20 f21 f30 f31 f32 f40 f41 f42 f43
          go_region
          all_goals go_wp2_with fail
          go_roundw
          case rel =>
            refine ⟨k + 1, sw ys k q, by have := HQ.out; go_num, Lib.hid ⟨HE.out.1, Nat.le_succ_of_le k1, by have := HQ.out; omega, ?_, grown_trans hh.out.2.2.2.2 HE.out.2⟩⟩
            have hq := HQ.out
            have hki2 : k + 1 < n := by omega
            rw [← hq]
            exact bub1_step HYL.out.1 k1 (by have := HP.out.2.1; omega)
          case measure =>
            have := HQ.out
            simp [intOf]; omega
        · have e1 : ¬ (k : Int) < (i : Int) - 1 := by omega
          clear hyl
          go_wp2_with fail
          go_end0
          have hm := HM.out.1
          subst hm
          have e2 : k + 1 = i := by omega
          have hr := HYL.out.1
          rw [e2] at hr
          have hb1 := HHO.out.1
          rw [← HIJ.out] at hb1
          exact ⟨rfl, ys, hh.out.1, (hr.shuf (by omega) (by omega)).mono (Nat.le_refl _) (by omega), base1 cmpK_swo HM.out.2 (by have := HP.out.2.1; omega) hb1 hr, hh.out.2.2.2.2⟩
end Go.Proofs.YtebacmmfjadalaaGreat

namespace Go.Proofs.YtebacmmfjadalaaGreat
open Go Go.RowKit

set_option maxRecDepth 100000 in
set_option maxHeartbeats 8000000 in
theorem sym_last (g cap n a m b : Nat) (xs : List El) (w : World) (hp : Pl w g cap xs) (hn : xs.length = n) (hok : Oks w g xs) (hm : a + 1 < m) (hmb : b = m + 1) (hb : b ≤ n) (h63 : n ≤ 1099511627776) (h1 : Srt cmpK xs a m) :
    Calls Tryz.prog 112 #[.slice (some ⟨g, 0, none⟩) n cap, .int .i64 a, .int .i64 m, .int .i64 b, cmpV] w (SymP g cap a b xs w) := by
  have HP := Lib.hid (And.intro hp (And.intro hn hok))
  have HM := Lib.hid (And.intro hmb h1)
  have hma : ((m : Int) - (a : Int) == 1) = false := by simp; omega
  have hbm : (b : Int) - (m : Int) = 1 := by omega
  clear hp hok h1 hmb
  go_enter Tryz.func112, Tryz.ntmps112
  go_wp2_with fail
  have hbn : m < n := by omega
  clear hma hbm
  go_loopw [14, 15] (fun iv jv wr => ∃ (i j : Nat), iv = .int .i64 (i : Int) ∧ jv = .int .i64 (j : Int) ∧ Hid (B2 cmpK xs a m i j ∧ Below w.heap.size w wr)) (fun iv jv _ => (intOf jv).toNat - (intOf iv).toNat)
  case atStart => exact ⟨a, m, rfl, rfl, Lib.hid ⟨⟨Nat.le_refl _, by omega, Nat.le_refl _, fun h => by omega, fun h => by omega⟩, Below.refl _ _⟩⟩
  case round =>
    obtain ⟨i, j, rfl, rfl, hh⟩ := hrel
    have q1 := hh.out.1.l
    have q2 := hh.out.1.h
    have q3 := hh.out.1.u
    by_cases hij : i < j
    · obtain ⟨h, hhh⟩ : ∃ h, (i + j) / 2 = h := ⟨_, rfl⟩
      have hd : ((i : Int) + (j : Int)) / 2 = (h : Int) := by omega
      have hih : i ≤ h := by omega
      have hhj : h < j := by omega
      clear hhh
      have hi0 : (0 : Int) ≤ (i : Int) := by omega
      have hij' : (i : Int) < (j : Int) := by omega
      have hk1 : (h : Int) < (n : Int) := by omega
      have hk2 : (m : Int) < (n : Int) := by omega
      obtain ⟨x, hx⟩ := get_some (xs := xs) (i := m) (by omega)
      obtain ⟨y, hy⟩ := get_some (xs := xs) (i := h) (by omega)
      have hoks := HP.out.2.2.grown (grown_of_below hh.out.2 g) (List.Perm.refl _)
      have hox := hoks x (List.mem_of_getElem? hx)
      have hoy := hoks y (List.mem_of_getElem? hy)
      have HC := Lib.hid (fun W (hW : Below wr.heap.size wr W) => order_any x y W (hox.1.below hW) (hoy.1.below hW))
      have HLT := Lib.hid (show ltAt cmpK xs m h = decide (cmpK x y < 0) by
        unfold ltAt
        rw [hx, hy])
      obtain ⟨z, hzz⟩ : ∃ z, cmpK x y = z := ⟨_, rfl⟩
      rw [hzz] at HC HLT
      have hpr := HP.out.1.below hh.out.2
      have hglt := hpr.lt
      obtain ⟨a0, a1, a2, a3, a4⟩ := hpr.cells hx
      obtain ⟨b0, b1, b2, b3, b4⟩ := hpr.cells hy
      clear hzz hox hoy hoks hpr hx hy
      unfold El.val at HC
      obtain ⟨at_, se, sq, st, v, vn, vc, vb⟩ := x
      obtain ⟨at2, se2, sq2, st2, v2, vn2, vc2, vb2⟩ := y
      simp only at a0 a1 a2 a3 a4 b0 b1 b2 b3 b4 HC

      go_wp2_with fail
      clear hd
      go_region_held3 (fun w' => w'.cell? ⟨g, m * 5, none⟩ = some (.int .i64 at_) ∧ w'.cell? ⟨g, m * 5 + 1, none⟩ = some (.int .i64 se) ∧ w'.cell? ⟨g, m * 5 + 2, none⟩ = some (.int .u32 sq) ∧ w'.cell? ⟨g, m * 5 + 3, none⟩ = some (.int .u32 st) ∧ w'.cell? ⟨g, m * 5 + 4, none⟩ = some (.slice v vn vc) ∧ w'.cell? ⟨g, h * 5, none⟩ = some (.int .i64 at2) ∧ w'.cell? ⟨g, h * 5 + 1, none⟩ = some (.int .i64 se2) ∧ w'.cell? ⟨g, h * 5 + 2, none⟩ = some (.int .u32 sq2) ∧ w'.cell? ⟨g, h * 5 + 3, none⟩ = some (.int .u32 st2) ∧ w'.cell? ⟨g, h * 5 + 4, none⟩ = some (.slice v2 vn2 vc2))
        (first | exact ⟨a0, a1, a2, a3, a4, b0, b1, b2, b3, b4⟩ | exact ⟨(hb6.cell (by exact hglt)).trans a0, (hb6.cell (by exact hglt)).trans a1, (hb6.cell (by exact hglt)).trans a2, (hb6.cell (by exact hglt)).trans a3, (hb6.cell (by exact hglt)).trans a4, (hb6.cell (by exact hglt)).trans b0, (hb6.cell (by exact hglt)).trans b1, (hb6.cell (by exact hglt)).trans b2, (hb6.cell (by exact hglt)).trans b3, (hb6.cell (by exact hglt)).trans b4⟩)
        (first | (go_at_call 81; refine (HC.out _ (Below.refl _ _).drew).mono ?_; rintro e w6 ⟨rfl, hb6⟩))
      have HB6 := Lib.hid ((Below.refl wr.heap.size wr).drew.trans hb6)
      clear hb6 a0 a1 a2 a3 a4 b0 b1 b2 b3 b4 HC

      go_wp2_with fail
      · have hzb : (!decide (z < 0)) = true := by assumption
        have HLT2 := Lib.hid (show ltAt cmpK xs m h = false by rw [HLT.out]; simpa using hzb)
        go_roundw
        case rel => exact ⟨h + 1, j, by go_num, rfl, Lib.hid ⟨⟨by omega, by omega, q3, fun _ => HLT2.out, hh.out.1.no⟩, back_of hh.out.2 HB6.out⟩⟩
        case measure => simp [intOf]; omega
      · have hzb : (!decide (z < 0)) = false := by assumption
        have HLT2 := Lib.hid (show ltAt cmpK xs m h = true by rw [HLT.out]; simpa using hzb)
        go_roundw
        case rel => exact ⟨i, h, rfl, rfl, Lib.hid ⟨⟨q1, by omega, by omega, hh.out.1.yes, fun _ => HLT2.out⟩, back_of hh.out.2 HB6.out⟩⟩
        case measure => simp [intOf]; omega
    · have hij2 : i = j := by omega
      have HIJ := Lib.hid hij2
      have hij' : ¬ (i : Int) < (j : Int) := by omega
      clear hij2
      go_wp2_with fail
      obtain ⟨wo, rfl⟩ : ∃ wo : World, wo = wr := ⟨_, rfl⟩
      go_loopw [17] (fun kv wr => ∃ (k : Nat) (ys : List El), kv = .int .i64 (k : Int) ∧ Hid (Pl wr g cap ys ∧ i ≤ k ∧ k ≤ m ∧ Rot xs ys k m (m + 1) ∧ w.grownBy wr (some g))) (fun kv _ => (intOf kv).toNat)
      case atStart => exact ⟨m, xs, rfl, Lib.hid ⟨HP.out.1.below hh.out.2, by omega, Nat.le_refl _, bub2_start _ _, grown_of_below hh.out.2 g⟩⟩
      case round =>
        have hho := hh.out
        have HHO := Lib.hid hho
        clear hho hh
        obtain ⟨k, ys, rfl, hh⟩ := hrel
        obtain ⟨-, k1, k2, k3, -⟩ := hh.out
        have hyl : ys.length = n := k3.1.length_eq.trans HP.out.2.1
        have HYL := Lib.hid (And.intro k3 hyl)
        clear k3
        by_cases hki : i < k
        · obtain ⟨q, hq⟩ : ∃ q, k = q + 1 := ⟨k - 1, by omega⟩
          have e1 : (i : Int) < (k : Int) := by omega
          have e2 : IntKind.i64.wrap ((k : Int) - 1) = (q : Int) := by rw [IntWalk.i64_in _ (by omega)]; omega
          have e3 : (0 : Int) ≤ (k : Int) := by omega
          have e4 : (k : Int) < (n : Int) := by omega
          have e5 : (0 : Int) ≤ (q : Int) := by omega
          have e6 : (q : Int) < (n : Int) := by omega
          obtain ⟨x, hx⟩ := get_some (xs := ys) (i := k) (by omega)
          obtain ⟨y, hy⟩ := get_some (xs := ys) (i := q) (by omega)
          have hz := fun m => hh.out.1.frozen m
          obtain ⟨a0, a1, a2, a3, a4⟩ := hh.out.1.cells hx
          obtain ⟨b0, b1, b2, b3, b4⟩ := hh.out.1.cells hy
          have HE := Lib.hid (swap_pl hh.out.1 hx hy)
          obtain ⟨at_, se, sq, st, v, vn, vc, vb⟩ := x
          obtain ⟨at2, se2, sq2, st2, v2, vn2, vc2, vb2⟩ := y
          simp only at a0 a1 a2 a3 a4 b0 b1 b2 b3 b4 HE
          clear hx hy

          have HQ := Lib.hid hq
          clear hq hyl
          go_wp2_with fail
          obtain ⟨z00, d0⟩ := set_some ⟨g, k * 5, none⟩ (.int .i64 at2) b0
          obtain ⟨z10, f10⟩ := set_some ⟨g, k * 5, none⟩ (.int .i64 at2) b1
          obtain ⟨z11, d1⟩ := set_some ⟨g, k * 5 + 1, none⟩ (.int .i64 se2) f10
          obtain ⟨z20, f20⟩ := set_some ⟨g, k * 5, none⟩ (.int .i64 at2) b2
          obtain ⟨z21, f21⟩ := set_some ⟨g, k * 5 + 1, none⟩ (.int .i64 se2) f20
          obtain ⟨z22, d2⟩ := set_some ⟨g, k * 5 + 2, none⟩ (.int .u32 sq2) f21
          obtain ⟨z30, f30⟩ := set_some ⟨g, k * 5, none⟩ (.int .i64 at2) b3
          obtain ⟨z31, f31⟩ := set_some ⟨g, k * 5 + 1, none⟩ (.int .i64 se2) f30
          obtain ⟨z32, f32⟩ := set_some ⟨g, k * 5 + 2, none⟩ (.int .u32 sq2) f31
          obtain ⟨z33, d3⟩ := set_some ⟨g, k * 5 + 3, none⟩ (.int .u32 st2) f32
          obtain ⟨z40, f40⟩ := set_some ⟨g, k * 5, none⟩ (.int .i64 at2) b4
          obtain ⟨z41, f41⟩ := set_some ⟨g, k * 5 + 1, none⟩ (.int .i64 se2) f40
          obtain ⟨z42, f42⟩ := set_some ⟨g, k * 5 + 2, none⟩ (.int .u32 sq2) f41
          obtain ⟨z43, f43⟩ := set_some ⟨g, k * 5 + 3, none⟩ (.int .u32 st2) f42
          obtain ⟨z44, d4⟩ := set_some ⟨g, k * 5 + 4, none⟩ (.slice v2 vn2 vc2) f43
          clear f10 f20 f21 f30 f31 f32 f40 f41 f42 f43
          go_region
          all_goals go_wp2_with fail
          go_roundw
          case rel =>
            refine ⟨q, sw ys k q, by have := HQ.out; go_num, Lib.hid ⟨HE.out.1, by have := HQ.out; omega, by have := HQ.out; omega, ?_, grown_trans hh.out.2.2.2.2 HE.out.2⟩⟩
            have hq := HQ.out
            have hr := HYL.out.1
            rw [hq] at hr ⊢
            exact bub2_step hr (by omega) (by have := HP.out.2.1; omega)
          case measure =>
            have := HQ.out
            simp [intOf]; omega
        · have e1 : ¬ (i : Int) < (k : Int) := by omega
          clear hyl
          go_wp2_with fail
          go_end0
          have hb := HM.out.1
          have e2 : k = i := by omega
          have hr := HYL.out.1
          rw [e2] at hr
          have hb1 := HHO.out.1
          rw [← HIJ.out] at hb1
          rw [hb]
          exact ⟨rfl, ys, hh.out.1, (hr.shuf (by omega) (by omega)).mono (by omega) (Nat.le_refl _), base2 cmpK_swo HM.out.2 (by have := HP.out.2.1; omega) hb1 hr, hh.out.2.2.2.2⟩
end Go.Proofs.YtebacmmfjadalaaGreat
