/- L3 L4 in one text. -/
import Derived.Test.YtebacmmfjadalaaGreatP26

namespace Go.Proofs.YtebacmmfjadalaaGreat
open Go Go.RowKit

/-- what a merge leaves -/
def SymP (g cap a b : Nat) (xs : List El) (w : World) (e : Ending) (w' : World) : Prop := e = .returned (.tuple #[]) ∧ ∃ ys, Pl w' g cap ys ∧ Shuf xs ys a b ∧ Srt cmpK ys a b ∧ w.grownBy w' (some g)

set_option maxRecDepth 100000 in
set_option maxHeartbeats 8000000 in
theorem sym_one (g cap n a m b : Nat) (xs : List El) (w : World) (hp : Pl w g cap xs) (hn : xs.length = n) (hok : Oks w g xs) (hm : m = a + 1) (hmb : m < b) (hb : b ≤ n) (h63 : n ≤ 1099511627776) (h2 : Srt cmpK xs m b) :
    Calls Tryz.prog 112 #[.slice (some ⟨g, 0, none⟩) n cap, .int .i64 a, .int .i64 m, .int .i64 b, cmpV] w (SymP g cap a b xs w) := by
  have HP := Lib.hid (And.intro hp (And.intro hn hok))
  have HM := Lib.hid (And.intro hm h2)
  have hab : a < m := by omega
  have hma : (m : Int) - (a : Int) = 1 := by omega
  clear hp hok hm h2
  go_enter Tryz.func112, Tryz.ntmps112
  go_wp2_with fail
  clear hma
  go_loopw [10, 11] (fun iv jv wr => ∃ (i j : Nat), iv = .int .i64 (i : Int) ∧ jv = .int .i64 (j : Int) ∧ Hid (B1 cmpK xs a m b i j ∧ Below w.heap.size w wr)) (fun iv jv _ => (intOf jv).toNat - (intOf iv).toNat)
  case atStart => exact ⟨m, b, rfl, rfl, Lib.hid ⟨⟨Nat.le_refl _, by omega, Nat.le_refl _, fun h => by omega, fun h => by omega⟩, Below.refl _ _⟩⟩
  case round =>
    obtain ⟨i, j, rfl, rfl, hh⟩ := hrel
    have q1 := hh.out.1.l
    have q2 := hh.out.1.h
    have q3 := hh.out.1.u
    by_cases hij : i < j
    · obtain ⟨h, hhh⟩ : ∃ h, (i + j) / 2 = h := ⟨_, rfl⟩
      have hd : ((i : Int) + (j : Int)) / 2 = (h : Int) := by omega
      have hih : i ≤ h := by omega
      have hhj : h < j := by omega
      clear hhh
      have hi0 : (0 : Int) ≤ (i : Int) := by omega
      have hij' : (i : Int) < (j : Int) := by omega
      have hk1 : (h : Int) < (n : Int) := by omega
      have hk2 : (a : Int) < (n : Int) := by omega
      obtain ⟨x, hx⟩ := get_some (xs := xs) (i := h) (by omega)
      obtain ⟨y, hy⟩ := get_some (xs := xs) (i := a) (by omega)
      have hoks := HP.out.2.2.grown (grown_of_below hh.out.2 g) (List.Perm.refl _)
      have hox := hoks x (List.mem_of_getElem? hx)
      have hoy := hoks y (List.mem_of_getElem? hy)
      have HC := Lib.hid (fun W (hW : Below wr.heap.size wr W) => order_any x y W (hox.1.below hW) (hoy.1.below hW))
      have HLT := Lib.hid (show ltAt cmpK xs h a = decide (cmpK x y < 0) by
        unfold ltAt
        rw [hx, hy])
      obtain ⟨z, hzz⟩ : ∃ z, cmpK x y = z := ⟨_, rfl⟩
      rw [hzz] at HC HLT
      have hpr := HP.out.1.below hh.out.2
      have hglt := hpr.lt
      obtain ⟨a0, a1, a2, a3, a4⟩ := hpr.cells hx
      obtain ⟨b0, b1, b2, b3, b4⟩ := hpr.cells hy
      clear hzz hox hoy hoks hpr hx hy
      unfold El.val at HC
      obtain ⟨at_, se, sq, st, v, vn, vc, vb⟩ := x
      obtain ⟨at2, se2, sq2, st2, v2, vn2, vc2, vb2⟩ := y
      simp only at a0 a1 a2 a3 a4 b0 b1 b2 b3 b4 HC

      go_wp2_with fail
      clear hd
      go_region_held3 (fun w' => w'.cell? ⟨g, h * 5, none⟩ = some (.int .i64 at_) ∧ w'.cell? ⟨g, h * 5 + 1, none⟩ = some (.int .i64 se) ∧ w'.cell? ⟨g, h * 5 + 2, none⟩ = some (.int .u32 sq) ∧ w'.cell? ⟨g, h * 5 + 3, none⟩ = some (.int .u32 st) ∧ w'.cell? ⟨g, h * 5 + 4, none⟩ = some (.slice v vn vc) ∧ w'.cell? ⟨g, a * 5, none⟩ = some (.int .i64 at2) ∧ w'.cell? ⟨g, a * 5 + 1, none⟩ = some (.int .i64 se2) ∧ w'.cell? ⟨g, a * 5 + 2, none⟩ = some (.int .u32 sq2) ∧ w'.cell? ⟨g, a * 5 + 3, none⟩ = some (.int .u32 st2) ∧ w'.cell? ⟨g, a * 5 + 4, none⟩ = some (.slice v2 vn2 vc2))
        (first | exact ⟨a0, a1, a2, a3, a4, b0, b1, b2, b3, b4⟩ | exact ⟨(hb6.cell (by exact hglt)).trans a0, (hb6.cell (by exact hglt)).trans a1, (hb6.cell (by exact hglt)).trans a2, (hb6.cell (by exact hglt)).trans a3, (hb6.cell (by exact hglt)).trans a4, (hb6.cell (by exact hglt)).trans b0, (hb6.cell (by exact hglt)).trans b1, (hb6.cell (by exact hglt)).trans b2, (hb6.cell (by exact hglt)).trans b3, (hb6.cell (by exact hglt)).trans b4⟩)
        (first | (go_at_call 81; refine (HC.out _ (Below.refl _ _).drew).mono ?_; rintro e w6 ⟨rfl, hb6⟩))
      have HB6 := Lib.hid ((Below.refl wr.heap.size wr).drew.trans hb6)
      clear hb6 a0 a1 a2 a3 a4 b0 b1 b2 b3 b4 HC

      by_cases hzp : z < 0
      · have HLT2 := Lib.hid (show ltAt cmpK xs h a = true by rw [HLT.out]; simpa using hzp)
        go_wp2_with fail
        go_roundw
        case rel => exact ⟨h + 1, j, by go_num, rfl, Lib.hid ⟨⟨by omega, by omega, q3, fun _ => HLT2.out, hh.out.1.no⟩, back_of hh.out.2 HB6.out⟩⟩
        case measure => simp [intOf]; omega
      · have HLT2 := Lib.hid (show ltAt cmpK xs h a = false by rw [HLT.out]; simpa using hzp)
        go_wp2_with fail
        go_roundw
        case rel => exact ⟨i, h, rfl, rfl, Lib.hid ⟨⟨q1, by omega, by omega, hh.out.1.yes, fun _ => HLT2.out⟩, back_of hh.out.2 HB6.out⟩⟩
        case measure => simp [intOf]; omega
    · have hij2 : i = j := by omega
      have HIJ := Lib.hid hij2
      have hij' : ¬ (i : Int) < (j : Int) := by omega
      have hi1 : (1 : Int) ≤ (i : Int) := by omega
      clear hij2
      go_wp2_with fail
      obtain ⟨wo, rfl⟩ : ∃ wo : World, wo = wr := ⟨_, rfl⟩
      go_loopw [13] (fun kv wr => ∃ (k : Nat) (ys : List El), kv = .int .i64 (k : Int) ∧ Hid (Pl wr g cap ys ∧ a ≤ k ∧ k + 1 ≤ i ∧ Rot xs ys a (a + 1) (k + 1) ∧ w.grownBy wr (some g))) (fun kv _ => i - (intOf kv).toNat)
      case atStart => exact ⟨a, xs, rfl, Lib.hid ⟨HP.out.1.below hh.out.2, Nat.le_refl _, by omega, bub1_start _ _, grown_of_below hh.out.2 g⟩⟩
      case round =>
        have hho := hh.out
        have HHO := Lib.hid hho
        clear hho hh
        obtain ⟨k, ys, rfl, hh⟩ := hrel
        obtain ⟨-, k1, k2, k3, -⟩ := hh.out
        have hyl : ys.length = n := k3.1.length_eq.trans HP.out.2.1
        have HYL := Lib.hid (And.intro k3 hyl)
        clear k3
        by_cases hki : k + 1 < i
        · obtain ⟨q, hq⟩ : ∃ q, k + 1 = q := ⟨_, rfl⟩
          have e1 : (k : Int) < (i : Int) - 1 := by omega
          have e2 : IntKind.i64.wrap ((k : Int) + 1) = (q : Int) := by rw [IntWalk.i64_in _ (by omega)]; omega
          have e3 : (0 : Int) ≤ (k : Int) := by omega
          have e4 : (k : Int) < (n : Int) := by omega
          have e5 : (0 : Int) ≤ (q : Int) := by omega
          have e6 : (q : Int) < (n : Int) := by omega
          obtain ⟨x, hx⟩ := get_some (xs := ys) (i := k) (by omega)
          obtain ⟨y, hy⟩ := get_some (xs := ys) (i := q) (by omega)
          have hz := fun m => hh.out.1.frozen m
          obtain ⟨a0, a1, a2, a3, a4⟩ := hh.out.1.cells hx
          obtain ⟨b0, b1, b2, b3, b4⟩ := hh.out.1.cells hy
          have HE := Lib.hid (swap_pl hh.out.1 hx hy)
          obtain ⟨at_, se, sq, st, v, vn, vc, vb⟩ := x
          obtain ⟨at2, se2, sq2, st2, v2, vn2, vc2, vb2⟩ := y
          simp only at a0 a1 a2 a3 a4 b0 b1 b2 b3 b4 HE
          clear hx hy

          have HQ := Lib.hid hq
          clear hq hyl
          go_wp2_with fail
          obtain ⟨z00, d0⟩ := set_some ⟨g, k * 5, none⟩ (.int .i64 at2) b0
          obtain ⟨z10, f10⟩ := set_some ⟨g, k * 5, none⟩ (.int .i64 at2) b1
          obtain ⟨z11, d1⟩ := set_some ⟨g, k * 5 + 1, none⟩ (.int .i64 se2) f10
          obtain ⟨z20, f20⟩ := set_some ⟨g, k * 5, none⟩ (.int .i64 at2) b2
          obtain ⟨z21, f21⟩ := set_some ⟨g, k * 5 + 1, none⟩ (.int .i64 se2) f20
          obtain ⟨z22, d2⟩ := set_some ⟨g, k * 5 + 2, none⟩ (.int .u32 sq2) f21
          obtain ⟨z30, f30⟩ := set_some ⟨g, k * 5, none⟩ (.int .i64 at2) b3
          obtain ⟨z31, f31⟩ := set_some ⟨g, k * 5 + 1, none⟩ (.int .i64 se2) f30
          obtain ⟨z32, f32⟩ := set_some ⟨g, k * 5 + 2, none⟩ (.int .u32 sq2) f31
          obtain ⟨z33, d3⟩ := set_some ⟨g, k * 5 + 3, none⟩ (.int .u32 st2) f32
          obtain ⟨z40, f40⟩ := set_some ⟨g, k * 5, none⟩ (.int .i64 at2) b4
          obtain ⟨z41, f41⟩ := set_some ⟨g, k * 5 + 1, none⟩ (.int .i64 se2) f40
          obtain ⟨z42, f42⟩ := set_some ⟨g, k * 5 + 2, none⟩ (.int .u32 sq2) f41
          obtain ⟨z43, f43⟩ := set_some ⟨g, k * 5 + 3, none⟩ (.int .u32 st2) f42
          obtain ⟨z44, d4⟩ := set_some ⟨g, k * 5 + 4, none⟩ (.slice v2 vn2 vc2) f43
          clear f10 f20 f21 f30 f31 f32 f40 f41 f42 f43
          go_region
          all_goals go_wp2_with fail
          go_roundw
          case rel =>
            refine ⟨k + 1, sw ys k q, by have := HQ.out; go_num, Lib.hid ⟨HE.out.1, Nat.le_succ_of_le k1, by have := HQ.out; omega, ?_, grown_trans hh.out.2.2.2.2 HE.out.2⟩⟩
            have hq := HQ.out
            have hki2 : k + 1 < n := by omega
            rw [← hq]
            exact bub1_step HYL.out.1 k1 (by have := HP.out.2.1; omega)
          case measure =>
            have := HQ.out
            simp [intOf]; omega
        · have e1 : ¬ (k : Int) < (i : Int) - 1 := by omega
          clear hyl
          go_wp2_with fail
          go_end0
          have hm := HM.out.1
          subst hm
          have e2 : k + 1 = i := by omega
          have hr := HYL.out.1
          rw [e2] at hr
          have hb1 := HHO.out.1
          rw [← HIJ.out] at hb1
          exact ⟨rfl, ys, hh.out.1, (hr.shuf (by omega) (by omega)).mono (Nat.le_refl _) (by omega), base1 cmpK_swo HM.out.2 (by have := HP.out.2.1; omega) hb1 hr, hh.out.2.2.2.2⟩
end Go.Proofs.YtebacmmfjadalaaGreat

namespace Go.Proofs.YtebacmmfjadalaaGreat
open Go Go.RowKit

set_option maxRecDepth 100000 in
set_option maxHeartbeats 8000000 in
theorem sym_last (g cap n a m b : Nat) (xs : List El) (w : World) (hp : Pl w g cap xs) (hn : xs.length = n) (hok : Oks w g xs) (hm : a + 1 < m) (hmb : b = m + 1) (hb : b ≤ n) (h63 : n ≤ 1099511627776) (h1 : Srt cmpK xs a m) :
    Calls Tryz.prog 112 #[.slice (some ⟨g, 0, none⟩) n cap, .int .i64 a, .int .i64 m, .int .i64 b, cmpV] w (SymP g cap a b xs w) := by
  have HP := Lib.hid (And.intro hp (And.intro hn hok))
  have HM := Lib.hid (And.intro hmb h1)
  have hma : ((m : Int) - (a : Int) == 1) = false := by simp; omega
  have hbm : (b : Int) - (m : Int) = 1 := by omega
  clear hp hok h1 hmb
  go_enter Tryz.func112, Tryz.ntmps112
  go_wp2_with fail
  have hbn : m < n := by omega
  clear hma hbm
  go_loopw [14, 15] (fun iv jv wr => ∃ (i j : Nat), iv = .int .i64 (i : Int) ∧ jv = .int .i64 (j : Int) ∧ Hid (B2 cmpK xs a m i j ∧ Below w.heap.size w wr)) (fun iv jv _ => (intOf jv).toNat - (intOf iv).toNat)
  case atStart => exact ⟨a, m, rfl, rfl, Lib.hid ⟨⟨Nat.le_refl _, by omega, Nat.le_refl _, fun h => by omega, fun h => by omega⟩, Below.refl _ _⟩⟩
  case round =>
    obtain ⟨i, j, rfl, rfl, hh⟩ := hrel
    have q1 := hh.out.1.l
    have q2 := hh.out.1.h
    have q3 := hh.out.1.u
    by_cases hij : i < j
    · obtain ⟨h, hhh⟩ : ∃ h, (i + j) / 2 = h := ⟨_, rfl⟩
      have hd : ((i : Int) + (j : Int)) / 2 = (h : Int) := by omega
      have hih : i ≤ h := by omega
      have hhj : h < j := by omega
      clear hhh
      have hi0 : (0 : Int) ≤ (i : Int) := by omega
      have hij' : (i : Int) < (j : Int) := by omega
      have hk1 : (h : Int) < (n : Int) := by omega
      have hk2 : (m : Int) < (n : Int) := by omega
      obtain ⟨x, hx⟩ := get_some (xs := xs) (i := m) (by omega)
      obtain ⟨y, hy⟩ := get_some (xs := xs) (i := h) (by omega)
      have hoks := HP.out.2.2.grown (grown_of_below hh.out.2 g) (List.Perm.refl _)
      have hox := hoks x (List.mem_of_getElem? hx)
      have hoy := hoks y (List.mem_of_getElem? hy)
      have HC := Lib.hid (fun W (hW : Below wr.heap.size wr W) => order_any x y W (hox.1.below hW) (hoy.1.below hW))
      have HLT := Lib.hid (show ltAt cmpK xs m h = decide (cmpK x y < 0) by
        unfold ltAt
        rw [hx, hy])
      obtain ⟨z, hzz⟩ : ∃ z, cmpK x y = z := ⟨_, rfl⟩
      rw [hzz] at HC HLT
      have hpr := HP.out.1.below hh.out.2
      have hglt := hpr.lt
      obtain ⟨a0, a1, a2, a3, a4⟩ := hpr.cells hx
      obtain ⟨b0, b1, b2, b3, b4⟩ := hpr.cells hy
      clear hzz hox hoy hoks hpr hx hy
      unfold El.val at HC
      obtain ⟨at_, se, sq, st, v, vn, vc, vb⟩ := x
      obtain ⟨at2, se2, sq2, st2, v2, vn2, vc2, vb2⟩ := y
      simp only at a0 a1 a2 a3 a4 b0 b1 b2 b3 b4 HC

      go_wp2_with fail
      clear hd
      go_region_held3 (fun w' => w'.cell? ⟨g, m * 5, none⟩ = some (.int .i64 at_) ∧ w'.cell? ⟨g, m * 5 + 1, none⟩ = some (.int .i64 se) ∧ w'.cell? ⟨g, m * 5 + 2, none⟩ = some (.int .u32 sq) ∧ w'.cell? ⟨g, m * 5 + 3, none⟩ = some (.int .u32 st) ∧ w'.cell? ⟨g, m * 5 + 4, none⟩ = some (.slice v vn vc) ∧ w'.cell? ⟨g, h * 5, none⟩ = some (.int .i64 at2) ∧ w'.cell? ⟨g, h * 5 + 1, none⟩ = some (.int .i64 se2) ∧ w'.cell? ⟨g, h * 5 + 2, none⟩ = some (.int .u32 sq2) ∧ w'.cell? ⟨g, h * 5 + 3, none⟩ = some (.int .u32 st2) ∧ w'.cell? ⟨g, h * 5 + 4, none⟩ = some (.slice v2 vn2 vc2))
        (first | exact ⟨a0, a1, a2, a3, a4, b0, b1, b2, b3, b4⟩ | exact ⟨(hb6.cell (by exact hglt)).trans a0, (hb6.cell (by exact hglt)).trans a1, (hb6.cell (by exact hglt)).trans a2, (hb6.cell (by exact hglt)).trans a3, (hb6.cell (by exact hglt)).trans a4, (hb6.cell (by exact hglt)).trans b0, (hb6.cell (by exact hglt)).trans b1, (hb6.cell (by exact hglt)).trans b2, (hb6.cell (by exact hglt)).trans b3, (hb6.cell (by exact hglt)).trans b4⟩)
        (first | (go_at_call 81; refine (HC.out _ (Below.refl _ _).drew).mono ?_; rintro e w6 ⟨rfl, hb6⟩))
      have HB6 := Lib.hid ((Below.refl wr.heap.size wr).drew.trans hb6)
      clear hb6 a0 a1 a2 a3 a4 b0 b1 b2 b3 b4 HC

      go_wp2_with fail
      · have hzb : (!decide (z < 0)) = true := by assumption
        have HLT2 := Lib.hid (show ltAt cmpK xs m h = false by rw [HLT.out]; simpa using hzb)
        go_roundw
        case rel => exact ⟨h + 1, j, by go_num, rfl, Lib.hid ⟨⟨by omega, by omega, q3, fun _ => HLT2.out, hh.out.1.no⟩, back_of hh.out.2 HB6.out⟩⟩
        case measure => simp [intOf]; omega
      · have hzb : (!decide (z < 0)) = false := by assumption
        have HLT2 := Lib.hid (show ltAt cmpK xs m h = true by rw [HLT.out]; simpa using hzb)
        go_roundw
        case rel => exact ⟨i, h, rfl, rfl, Lib.hid ⟨⟨q1, by omega, by omega, hh.out.1.yes, fun _ => HLT2.out⟩, back_of hh.out.2 HB6.out⟩⟩
        case measure => simp [intOf]; omega
    · have hij2 : i = j := by omega
      have HIJ := Lib.hid hij2
      have hij' : ¬ (i : Int) < (j : Int) := by omega
      clear hij2
      go_wp2_with fail
      obtain ⟨wo, rfl⟩ : ∃ wo : World, wo = wr := ⟨_, rfl⟩
      go_loopw [17] (fun kv wr => ∃ (k : Nat) (ys : List El), kv = .int .i64 (k : Int) ∧ Hid (Pl wr g cap ys ∧ i ≤ k ∧ k ≤ m ∧ Rot xs ys k m (m + 1) ∧ w.grownBy wr (some g))) (fun kv _ => (intOf kv).toNat)
      case atStart => exact ⟨m, xs, rfl, Lib.hid ⟨HP.out.1.below hh.out.2, by omega, Nat.le_refl _, bub2_start _ _, grown_of_below hh.out.2 g⟩⟩
      case round =>
        have hho := hh.out
        have HHO := Lib.hid hho
        clear hho hh
        obtain ⟨k, ys, rfl, hh⟩ := hrel
        obtain ⟨-, k1, k2, k3, -⟩ := hh.out
        have hyl : ys.length = n := k3.1.length_eq.trans HP.out.2.1
        have HYL := Lib.hid (And.intro k3 hyl)
        clear k3
        by_cases hki : i < k
        · obtain ⟨q, hq⟩ : ∃ q, k = q + 1 := ⟨k - 1, by omega⟩
          have e1 : (i : Int) < (k : Int) := by omega
          have e2 : IntKind.i64.wrap ((k : Int) - 1) = (q : Int) := by rw [IntWalk.i64_in _ (by omega)]; omega
          have e3 : (0 : Int) ≤ (k : Int) := by omega
          have e4 : (k : Int) < (n : Int) := by omega
          have e5 : (0 : Int) ≤ (q : Int) := by omega
          have e6 : (q : Int) < (n : Int) := by omega
          obtain ⟨x, hx⟩ := get_some (xs := ys) (i := k) (by omega)
          obtain ⟨y, hy⟩ := get_some (xs := ys) (i := q) (by omega)
          have hz := fun m => hh.out.1.frozen m
          obtain ⟨a0, a1, a2, a3, a4⟩ := hh.out.1.cells hx
          obtain ⟨b0, b1, b2, b3, b4⟩ := hh.out.1.cells hy
          have HE := Lib.hid (swap_pl hh.out.1 hx hy)
          obtain ⟨at_, se, sq, st, v, vn, vc, vb⟩ := x
          obtain ⟨at2, se2, sq2, st2, v2, vn2, vc2, vb2⟩ := y
          simp only at a0 a1 a2 a3 a4 b0 b1 b2 b3 b4 HE
          clear hx hy

          have HQ := Lib.hid hq
          clear hq hyl
          go_wp2_with fail
          obtain ⟨z00, d0⟩ := set_some ⟨g, k * 5, none⟩ (.int .i64 at2) b0
          obtain ⟨z10, f10⟩ := set_some ⟨g, k * 5, none⟩ (.int .i64 at2) b1
          obtain ⟨z11, d1⟩ := set_some ⟨g, k * 5 + 1, none⟩ (.int .i64 se2) f10
          obtain ⟨z20, f20⟩ := set_some ⟨g, k * 5, none⟩ (.int .i64 at2) b2
          obtain ⟨z21, f21⟩ := set_some ⟨g, k * 5 + 1, none⟩ (.int .i64 se2) f20
          obtain ⟨z22, d2⟩ := set_some ⟨g, k * 5 + 2, none⟩ (.int .u32 sq2) f21
          obtain ⟨z30, f30⟩ := set_some ⟨g, k * 5, none⟩ (.int .i64 at2) b3
          obtain ⟨z31, f31⟩ := set_some ⟨g, k * 5 + 1, none⟩ (.int .i64 se2) f30
          obtain ⟨z32, f32⟩ := set_some ⟨g, k * 5 + 2, none⟩ (.int .u32 sq2) f31
          obtain ⟨z33, d3⟩ := set_some ⟨g, k * 5 + 3, none⟩ (.int .u32 st2) f32
          obtain ⟨z40, f40⟩ := set_some ⟨g, k * 5, none⟩ (.int .i64 at2) b4
          obtain ⟨z41, f41⟩ := set_some ⟨g, k * 5 + 1, none⟩ (.int .i64 se2) f40
          obtain ⟨z42, f42⟩ := set_some ⟨g, k * 5 + 2, none⟩ (.int .u32 sq2) f41
          obtain ⟨z43, f43⟩ := set_some ⟨g, k * 5 + 3, none⟩ (.int .u32 st2) f42
          obtain ⟨z44, d4⟩ := set_some ⟨g, k * 5 + 4, none⟩ (.slice v2 vn2 vc2) f43
          clear f10 f20 f21 f30 f31 f32 f40 f41 f42 f43
          go_region
          all_goals go_wp2_with fail
          go_roundw
          case rel =>
            refine ⟨q, sw ys k q, by have := HQ.out; go_num, Lib.hid ⟨HE.out.1, by have := HQ.out; omega, by have := HQ.out; omega, ?_, grown_trans hh.out.2.2.2.2 HE.out.2⟩⟩
            have hq := HQ.out
            have hr := HYL.out.1
            rw [hq] at hr ⊢
            exact bub2_step hr (by omega) (by have := HP.out.2.1; omega)
          case measure =>
            have := HQ.out
            simp [intOf]; omega
        · have e1 : ¬ (i : Int) < (k : Int) := by omega
          clear hyl
          go_wp2_with fail
          go_end0
          have hb := HM.out.1
          have e2 : k = i := by omega
          have hr := HYL.out.1
          rw [e2] at hr
          have hb1 := HHO.out.1
          rw [← HIJ.out] at hb1
          rw [hb]
          exact ⟨rfl, ys, hh.out.1, (hr.shuf (by omega) (by omega)).mono (by omega) (Nat.le_refl _), base2 cmpK_swo HM.out.2 (by have := HP.out.2.1; omega) hb1 hr, hh.out.2.2.2.2⟩
end Go.Proofs.YtebacmmfjadalaaGreat
