/- Stable sorting of timed readings, and what stands on it: L4 to L10, O1 in one. -/
import Derived.Test.YtebacmmfjadalaaL3
import Derived.Deep.DeepCutAuto
import Derived.Test.YtebacmmfjadalaaClk
import Derived.SizedLaws
import Derived.Deep.Slices
import Derived.Deep.Fields
import Derived.ChangeSame

namespace Go.Proofs.Ytebacmmfjadalaa
open Go Go.RowKit

set_option maxRecDepth 100000 in
set_option maxHeartbeats 8000000 in
theorem sym_last (g cap n a m b : Nat) (xs : List El) (w : World) (hp : Pl w g cap xs) (hn : xs.length = n) (hok : Oks w g xs) (hm : a + 1 < m) (hmb : b = m + 1) (hb : b ≤ n) (h63 : n ≤ 1099511627776) (h1 : Srt cmpK xs a m) :
    Calls Try.prog 69 #[.slice (some ⟨g, 0, none⟩) n cap, .int .i64 a, .int .i64 m, .int .i64 b, cmpV] w (SymP g cap a b xs w) := by
  have HP := Lib.hid (And.intro hp (And.intro hn hok))
  have HM := Lib.hid (And.intro hmb h1)
  have hma : ((m : Int) - (a : Int) == 1) = false := by simp; omega
  have hbm : (b : Int) - (m : Int) = 1 := by omega
  clear hp hok h1 hmb
  go_enter Try.func69, Try.ntmps69
  go_wp2_with fail
  have hbn : m < n := by omega
  clear hma hbm
  go_loopw [14, 15] (fun iv jv wr => ∃ (i j : Nat), iv = .int .i64 (i : Int) ∧ jv = .int .i64 (j : Int) ∧ Hid (B2 cmpK xs a m i j ∧ Below w.heap.size w wr)) (fun iv jv _ => (intOf jv).toNat - (intOf iv).toNat)
  case atStart => exact ⟨a, m, rfl, rfl, Lib.hid ⟨⟨Nat.le_refl _, by omega, Nat.le_refl _, fun h => by omega, fun h => by omega⟩, Below.refl _ _⟩⟩
  case round =>
    obtain ⟨i, j, rfl, rfl, hh⟩ := hrel
    have q1 := hh.out.1.l
    have q2 := hh.out.1.h
    have q3 := hh.out.1.u
    by_cases hij : i < j
    · obtain ⟨h, hhh⟩ : ∃ h, (i + j) / 2 = h := ⟨_, rfl⟩
      have hd : ((i : Int) + (j : Int)) / 2 = (h : Int) := by omega
      have hih : i ≤ h := by omega
      have hhj : h < j := by omega
      clear hhh
      have hi0 : (0 : Int) ≤ (i : Int) := by omega
      have hij' : (i : Int) < (j : Int) := by omega
      have hk1 : (h : Int) < (n : Int) := by omega
      have hk2 : (m : Int) < (n : Int) := by omega
      obtain ⟨x, hx⟩ := get_some (xs := xs) (i := m) (by omega)
      obtain ⟨y, hy⟩ := get_some (xs := xs) (i := h) (by omega)
      have hoks := HP.out.2.2.grown (grown_of_below hh.out.2 g) (List.Perm.refl _)
      have hox := hoks x (List.mem_of_getElem? hx)
      have hoy := hoks y (List.mem_of_getElem? hy)
      have HC := Lib.hid (fun W (hW : Below wr.heap.size wr W) => order_any x y W (hox.1.below hW) (hoy.1.below hW))
      have HLT := Lib.hid (show ltAt cmpK xs m h = decide (cmpK x y < 0) by
        unfold ltAt
        rw [hx, hy])
      obtain ⟨z, hzz⟩ : ∃ z, cmpK x y = z := ⟨_, rfl⟩
      rw [hzz] at HC HLT
      have hpr := HP.out.1.below hh.out.2
      have hglt := hpr.lt
      obtain ⟨a0, a1, a2, a3, a4⟩ := hpr.cells hx
      obtain ⟨b0, b1, b2, b3, b4⟩ := hpr.cells hy
      clear hzz hox hoy hoks hpr hx hy
      unfold El.val at HC
      obtain ⟨at_, se, sq, st, v, vn, vc, vb⟩ := x
      obtain ⟨at2, se2, sq2, st2, v2, vn2, vc2, vb2⟩ := y
      simp only at a0 a1 a2 a3 a4 b0 b1 b2 b3 b4 HC

      go_wp2_with fail
      clear hd
      go_region_held3 (fun w' => w'.cell? ⟨g, m * 5, none⟩ = some (.int .i64 at_) ∧ w'.cell? ⟨g, m * 5 + 1, none⟩ = some (.int .i64 se) ∧ w'.cell? ⟨g, m * 5 + 2, none⟩ = some (.int .u32 sq) ∧ w'.cell? ⟨g, m * 5 + 3, none⟩ = some (.int .u32 st) ∧ w'.cell? ⟨g, m * 5 + 4, none⟩ = some (.slice v vn vc) ∧ w'.cell? ⟨g, h * 5, none⟩ = some (.int .i64 at2) ∧ w'.cell? ⟨g, h * 5 + 1, none⟩ = some (.int .i64 se2) ∧ w'.cell? ⟨g, h * 5 + 2, none⟩ = some (.int .u32 sq2) ∧ w'.cell? ⟨g, h * 5 + 3, none⟩ = some (.int .u32 st2) ∧ w'.cell? ⟨g, h * 5 + 4, none⟩ = some (.slice v2 vn2 vc2))
        (first | exact ⟨a0, a1, a2, a3, a4, b0, b1, b2, b3, b4⟩ | exact ⟨(hb6.cell (by exact hglt)).trans a0, (hb6.cell (by exact hglt)).trans a1, (hb6.cell (by exact hglt)).trans a2, (hb6.cell (by exact hglt)).trans a3, (hb6.cell (by exact hglt)).trans a4, (hb6.cell (by exact hglt)).trans b0, (hb6.cell (by exact hglt)).trans b1, (hb6.cell (by exact hglt)).trans b2, (hb6.cell (by exact hglt)).trans b3, (hb6.cell (by exact hglt)).trans b4⟩)
        (first | (go_at_call 9; refine (HC.out _ (Below.refl _ _).drew).mono ?_; rintro e w6 ⟨rfl, hb6⟩))
      have HB6 := Lib.hid ((Below.refl wr.heap.size wr).drew.trans hb6)
      clear hb6 a0 a1 a2 a3 a4 b0 b1 b2 b3 b4 HC

      go_wp2_with fail
      · have hzb : (!decide (z < 0)) = true := by assumption
        have HLT2 := Lib.hid (show ltAt cmpK xs m h = false by rw [HLT.out]; simpa using hzb)
        go_roundw
        case rel => exact ⟨h + 1, j, by go_num, rfl, Lib.hid ⟨⟨by omega, by omega, q3, fun _ => HLT2.out, hh.out.1.no⟩, back_of hh.out.2 HB6.out⟩⟩
        case measure => simp [intOf]; omega
      · have hzb : (!decide (z < 0)) = false := by assumption
        have HLT2 := Lib.hid (show ltAt cmpK xs m h = true by rw [HLT.out]; simpa using hzb)
        go_roundw
        case rel => exact ⟨i, h, rfl, rfl, Lib.hid ⟨⟨q1, by omega, by omega, hh.out.1.yes, fun _ => HLT2.out⟩, back_of hh.out.2 HB6.out⟩⟩
        case measure => simp [intOf]; omega
    · have hij2 : i = j := by omega
      have HIJ := Lib.hid hij2
      have hij' : ¬ (i : Int) < (j : Int) := by omega
      clear hij2
      go_wp2_with fail
      obtain ⟨wo, rfl⟩ : ∃ wo : World, wo = wr := ⟨_, rfl⟩
      go_loopw [17] (fun kv wr => ∃ (k : Nat) (ys : List El), kv = .int .i64 (k : Int) ∧ Hid (Pl wr g cap ys ∧ i ≤ k ∧ k ≤ m ∧ Rot xs ys k m (m + 1) ∧ w.grownBy wr (some g))) (fun kv _ => (intOf kv).toNat)
      case atStart => exact ⟨m, xs, rfl, Lib.hid ⟨HP.out.1.below hh.out.2, by omega, Nat.le_refl _, bub2_start _ _, grown_of_below hh.out.2 g⟩⟩
      case round =>
        have hho := hh.out
        have HHO := Lib.hid hho
        clear hho hh
        obtain ⟨k, ys, rfl, hh⟩ := hrel
        obtain ⟨-, k1, k2, k3, -⟩ := hh.out
        have hyl : ys.length = n := k3.1.length_eq.trans HP.out.2.1
        have HYL := Lib.hid (And.intro k3 hyl)
        clear k3
        by_cases hki : i < k
        · obtain ⟨q, hq⟩ : ∃ q, k = q + 1 := ⟨k - 1, by omega⟩
          have e1 : (i : Int) < (k : Int) := by omega
          have e2 : IntKind.i64.wrap ((k : Int) - 1) = (q : Int) := by rw [IntWalk.i64_in _ (by omega)]; omega
          have e3 : (0 : Int) ≤ (k : Int) := by omega
          have e4 : (k : Int) < (n : Int) := by omega
          have e5 : (0 : Int) ≤ (q : Int) := by omega
          have e6 : (q : Int) < (n : Int) := by omega
          obtain ⟨x, hx⟩ := get_some (xs := ys) (i := k) (by omega)
          obtain ⟨y, hy⟩ := get_some (xs := ys) (i := q) (by omega)
          have hz := fun m => hh.out.1.frozen m
          obtain ⟨a0, a1, a2, a3, a4⟩ := hh.out.1.cells hx
          obtain ⟨b0, b1, b2, b3, b4⟩ := hh.out.1.cells hy
          have HE := Lib.hid (swap_pl hh.out.1 hx hy)
          obtain ⟨at_, se, sq, st, v, vn, vc, vb⟩ := x
          obtain ⟨at2, se2, sq2, st2, v2, vn2, vc2, vb2⟩ := y
          simp only at a0 a1 a2 a3 a4 b0 b1 b2 b3 b4 HE
          clear hx hy

          have HQ := Lib.hid hq
          clear hq hyl
          go_wp2_with fail
          obtain ⟨z00, d0⟩ := set_some ⟨g, k * 5, none⟩ (.int .i64 at2) b0
          obtain ⟨z10, f10⟩ := set_some ⟨g, k * 5, none⟩ (.int .i64 at2) b1
          obtain ⟨z11, d1⟩ := set_some ⟨g, k * 5 + 1, none⟩ (.int .i64 se2) f10
          obtain ⟨z20, f20⟩ := set_some ⟨g, k * 5, none⟩ (.int .i64 at2) b2
          obtain ⟨z21, f21⟩ := set_some ⟨g, k * 5 + 1, none⟩ (.int .i64 se2) f20
          obtain ⟨z22, d2⟩ := set_some ⟨g, k * 5 + 2, none⟩ (.int .u32 sq2) f21
          obtain ⟨z30, f30⟩ := set_some ⟨g, k * 5, none⟩ (.int .i64 at2) b3
          obtain ⟨z31, f31⟩ := set_some ⟨g, k * 5 + 1, none⟩ (.int .i64 se2) f30
          obtain ⟨z32, f32⟩ := set_some ⟨g, k * 5 + 2, none⟩ (.int .u32 sq2) f31
          obtain ⟨z33, d3⟩ := set_some ⟨g, k * 5 + 3, none⟩ (.int .u32 st2) f32
          obtain ⟨z40, f40⟩ := set_some ⟨g, k * 5, none⟩ (.int .i64 at2) b4
          obtain ⟨z41, f41⟩ := set_some ⟨g, k * 5 + 1, none⟩ (.int .i64 se2) f40
          obtain ⟨z42, f42⟩ := set_some ⟨g, k * 5 + 2, none⟩ (.int .u32 sq2) f41
          obtain ⟨z43, f43⟩ := set_some ⟨g, k * 5 + 3, none⟩ (.int .u32 st2) f42
          obtain ⟨z44, d4⟩ := set_some ⟨g, k * 5 + 4, none⟩ (.slice v2 vn2 vc2) f43
          clear f10 f20 f21 f30 f31 f32 f40 f41 f42 f43
          go_region
          all_goals go_wp2_with fail
          go_roundw
          case rel =>
            refine ⟨q, sw ys k q, by have := HQ.out; go_num, Lib.hid ⟨HE.out.1, by have := HQ.out; omega, by have := HQ.out; omega, ?_, grown_trans hh.out.2.2.2.2 HE.out.2⟩⟩
            have hq := HQ.out
            have hr := HYL.out.1
            rw [hq] at hr ⊢
            exact bub2_step hr (by omega) (by have := HP.out.2.1; omega)
          case measure =>
            have := HQ.out
            simp [intOf]; omega
        · have e1 : ¬ (i : Int) < (k : Int) := by omega
          clear hyl
          go_wp2_with fail
          go_end0
          have hb := HM.out.1
          have e2 : k = i := by omega
          have hr := HYL.out.1
          rw [e2] at hr
          have hb1 := HHO.out.1
          rw [← HIJ.out] at hb1
          rw [hb]
          exact ⟨rfl, ys, hh.out.1, (hr.shuf (by omega) (by omega)).mono (by omega) (Nat.le_refl _), base2 cmpK_swo HM.out.2 (by have := HP.out.2.1; omega) hb1 hr, hh.out.2.2.2.2⟩
end Go.Proofs.Ytebacmmfjadalaa

namespace Go.Proofs.Ytebacmmfjadalaa
open Go Go.RowKit

theorem rot_id {α : Type} {xs : List α} {st m en : Nat} (h : st = m ∨ m = en) : Rot xs xs st m en := ⟨List.Perm.refl _, fun t => by
  by_cases c1 : st ≤ t ∧ t < st + (en - m)
  · rw [rotf1 (u := t) c1.1 c1.2 (by omega)]
  · by_cases c2 : st + (en - m) ≤ t ∧ t < en
    · rw [rotf2 (u := t) c2.1 c2.2 (by omega)]
    · rw [rotf3 (u := t) c1 c2 rfl]⟩
/-- what is handed on: the contract for shorter parts -/
def SymIH (g cap n d : Nat) : Prop := ∀ (a m b : Nat) (xs : List El) (w : World), b - a < d → Pl w g cap xs → xs.length = n → Oks w g xs → a < m → m < b → b ≤ n → Srt cmpK xs a m → Srt cmpK xs m b →
  Calls Try.prog 69 #[.slice (some ⟨g, 0, none⟩) n cap, .int .i64 a, .int .i64 m, .int .i64 b, cmpV] w (SymP g cap a b xs w)
/-- so far merged: the first part, both parts -/
structure SymS (w wx : World) (g cap n a m b mid st : Nat) (xs ys : List El) : Prop where
  pl : Pl wx g cap ys
  len : ys.length = n
  sh : Shuf xs ys a b
  gr : w.grownBy wx (some g)
  ahead : ∀ i k, a ≤ i → i < mid → mid ≤ k → k < b → LeO cmpK ys[i]? ys[k]?
  s3 : Srt cmpK ys mid (mid + m - st)
  s4 : Srt cmpK ys (mid + m - st) b

set_option maxRecDepth 100000 in
set_option maxHeartbeats 16000000 in
theorem sym_more (g cap n a m b : Nat) (xs : List El) (w : World) (hih : SymIH g cap n (b - a)) (hp : Pl w g cap xs) (hn : xs.length = n) (hok : Oks w g xs) (hm : a + 1 < m) (hmb : m + 1 < b) (hb : b ≤ n) (h63 : n ≤ 1099511627776) (h1 : Srt cmpK xs a m) (h2 : Srt cmpK xs m b) :
    Calls Try.prog 69 #[.slice (some ⟨g, 0, none⟩) n cap, .int .i64 a, .int .i64 m, .int .i64 b, cmpV] w (SymP g cap a b xs w) := by
  have HP := Lib.hid (And.intro hp (And.intro hn hok))
  have HM := Lib.hid (And.intro h1 h2)
  have IH := Lib.hid hih
  have hma : ((m : Int) - (a : Int) == 1) = false := by simp; omega
  have hbm : ((b : Int) - (m : Int) == 1) = false := by simp; omega
  obtain ⟨mid, hmid⟩ : ∃ mid, (a + b) / 2 = mid := ⟨_, rfl⟩
  have hmd : ((a : Int) + (b : Int)) / 2 = (mid : Int) := by omega
  have hm1 : a < mid := by omega
  have hm2 : mid < b := by omega
  have HMID := Lib.hid hmid
  clear hp hok h1 h2 hih hmid
  go_enter Try.func69, Try.ntmps69
  go_upto_if 140 with (fail)
  clear hma hbm hmd
  go_cut [20, 21] (fun s r wx => ∃ s0 r0 : Nat, s = .int .i64 (s0 : Int) ∧ r = .int .i64 (r0 : Int) ∧ Hid ((mid < m ∧ s0 = mid + m - b ∧ r0 = mid) ∨ (m ≤ mid ∧ s0 = a ∧ r0 = m)) ∧ w = wx)
  case first => as_aux_lemma =>
    by_cases c : mid < m
    · have c' : (mid : Int) < (m : Int) := by omega
      have e1 : (mid : Int) + (m : Int) - (b : Int) = ((mid + m - b : Nat) : Int) := by have := HMID.out; omega
      go_wp2_with fail
      go_meet
      exact ⟨mid + m - b, mid, by rw [← e1], rfl, Lib.hid (.inl ⟨c, rfl, rfl⟩), rfl⟩
    · have c' : ¬ (mid : Int) < (m : Int) := by omega
      go_wp2_with fail
      go_meet
      exact ⟨a, m, rfl, rfl, Lib.hid (.inr ⟨by omega, rfl, rfl⟩), rfl⟩
  case rest => as_aux_lemma =>
    obtain ⟨s0, r0, rfl, rfl, h0, rfl⟩ := hcut
    have hsr : s0 ≤ r0 ∧ r0 ≤ mid ∧ r0 ≤ m ∧ a ≤ s0 ∧ mid + m - s0 ≤ b := by
      have := h0.out
      have := HMID.out
      omega
    obtain ⟨sr1, sr2, sr3, sr4, sr5⟩ := hsr
    go_wp2_with fail
    go_loopw [20, 21] (fun sv rv wr => ∃ (s r : Nat), sv = .int .i64 (s : Int) ∧ rv = .int .i64 (r : Int) ∧ Hid (Bs cmpK xs (mid + m - 1) s0 r0 s r ∧ Below w.heap.size w wr)) (fun sv rv _ => (intOf rv).toNat - (intOf sv).toNat)
    case atStart => exact ⟨s0, r0, rfl, rfl, Lib.hid ⟨⟨Nat.le_refl _, by omega, Nat.le_refl _, fun h => by omega, fun h => by omega⟩, Below.refl _ _⟩⟩
    case round =>
      obtain ⟨i, j, rfl, rfl, hh⟩ := hrel
      have q1 := hh.out.1.l
      have q2 := hh.out.1.h
      have q3 := hh.out.1.u
      by_cases hij : i < j
      · obtain ⟨h, hhh⟩ : ∃ h, (i + j) / 2 = h := ⟨_, rfl⟩
        have hd : ((i : Int) + (j : Int)) / 2 = (h : Int) := by omega
        have hih : i ≤ h := by omega
        have hhj : h < j := by omega
        clear hhh
        have hi0 : (0 : Int) ≤ (i : Int) := by omega
        have hij' : (i : Int) < (j : Int) := by omega
        obtain ⟨pc, hpc⟩ : ∃ pc, mid + m - 1 - h = pc := ⟨_, rfl⟩
        have hk1 : (h : Int) < (n : Int) := by omega
        have hk2 : (pc : Int) < (n : Int) := by omega
        have hw : IntKind.i64.wrap ((mid : Int) + (m : Int) - 1 - (h : Int)) = (pc : Int) := by rw [IntWalk.i64_in _ (by omega)]; omega
        obtain ⟨x, hx⟩ := get_some (xs := xs) (i := pc) (by omega)
        obtain ⟨y, hy⟩ := get_some (xs := xs) (i := h) (by omega)
        have hoks := HP.out.2.2.grown (grown_of_below hh.out.2 g) (List.Perm.refl _)
        have hox := hoks x (List.mem_of_getElem? hx)
        have hoy := hoks y (List.mem_of_getElem? hy)
        have HC := Lib.hid (fun W (hW : Below wr.heap.size wr W) => order_any x y W (hox.1.below hW) (hoy.1.below hW))
        have HLT := Lib.hid (show ltAt cmpK xs pc h = decide (cmpK x y < 0) by
          unfold ltAt
          rw [hx, hy])
        obtain ⟨z, hzz⟩ : ∃ z, cmpK x y = z := ⟨_, rfl⟩
        rw [hzz] at HC HLT
        have hpr := HP.out.1.below hh.out.2
        have hglt := hpr.lt
        obtain ⟨a0, a1, a2, a3, a4⟩ := hpr.cells hx
        obtain ⟨b0, b1, b2, b3, b4⟩ := hpr.cells hy
        clear hzz hox hoy hoks hpr hx hy
        unfold El.val at HC
        obtain ⟨at_, se, sq, st, v, vn, vc, vb⟩ := x
        obtain ⟨at2, se2, sq2, st2, v2, vn2, vc2, vb2⟩ := y
        simp only at a0 a1 a2 a3 a4 b0 b1 b2 b3 b4 HC

        have HPC := Lib.hid hpc
        clear hpc
        go_wp2_with fail
        clear hd
        go_region_held3 (fun w' => w'.cell? ⟨g, pc * 5, none⟩ = some (.int .i64 at_) ∧ w'.cell? ⟨g, pc * 5 + 1, none⟩ = some (.int .i64 se) ∧ w'.cell? ⟨g, pc * 5 + 2, none⟩ = some (.int .u32 sq) ∧ w'.cell? ⟨g, pc * 5 + 3, none⟩ = some (.int .u32 st) ∧ w'.cell? ⟨g, pc * 5 + 4, none⟩ = some (.slice v vn vc) ∧ w'.cell? ⟨g, h * 5, none⟩ = some (.int .i64 at2) ∧ w'.cell? ⟨g, h * 5 + 1, none⟩ = some (.int .i64 se2) ∧ w'.cell? ⟨g, h * 5 + 2, none⟩ = some (.int .u32 sq2) ∧ w'.cell? ⟨g, h * 5 + 3, none⟩ = some (.int .u32 st2) ∧ w'.cell? ⟨g, h * 5 + 4, none⟩ = some (.slice v2 vn2 vc2))
          (first | exact ⟨a0, a1, a2, a3, a4, b0, b1, b2, b3, b4⟩ | exact ⟨(hb6.cell (by exact hglt)).trans a0, (hb6.cell (by exact hglt)).trans a1, (hb6.cell (by exact hglt)).trans a2, (hb6.cell (by exact hglt)).trans a3, (hb6.cell (by exact hglt)).trans a4, (hb6.cell (by exact hglt)).trans b0, (hb6.cell (by exact hglt)).trans b1, (hb6.cell (by exact hglt)).trans b2, (hb6.cell (by exact hglt)).trans b3, (hb6.cell (by exact hglt)).trans b4⟩)
          (first | (go_at_call 9; refine (HC.out _ (Below.refl _ _).drew).mono ?_; rintro e w6 ⟨rfl, hb6⟩))
        have HB6 := Lib.hid ((Below.refl wr.heap.size wr).drew.trans hb6)
        clear hb6 a0 a1 a2 a3 a4 b0 b1 b2 b3 b4 HC

        go_wp2_with fail
        · have hzb : (!decide (z < 0)) = true := by assumption
          have HLT2 := Lib.hid (show ltAt cmpK xs (mid + m - 1 - h) h = false by rw [HPC.out, HLT.out]; simpa using hzb)
          go_roundw
          case rel => exact ⟨h + 1, j, by go_num, rfl, Lib.hid ⟨⟨by omega, by omega, q3, fun _ => HLT2.out, hh.out.1.no⟩, back_of hh.out.2 HB6.out⟩⟩
          case measure => simp [intOf]; omega
        · have hzb : (!decide (z < 0)) = false := by assumption
          have HLT2 := Lib.hid (show ltAt cmpK xs (mid + m - 1 - h) h = true by rw [HPC.out, HLT.out]; simpa using hzb)
          go_roundw
          case rel => exact ⟨i, h, rfl, rfl, Lib.hid ⟨⟨q1, by omega, by omega, hh.out.1.yes, fun _ => HLT2.out⟩, back_of hh.out.2 HB6.out⟩⟩
          case measure => simp [intOf]; omega
      · have hij2 : i = j := by omega
        subst hij2
        have HPART := Lib.hid (bs_part cmpK_swo HM.out.1 HM.out.2 (by have := HP.out.2.1; omega) (by omega) (by omega) HMID.out.symm h0.out hh.out.1)
        obtain ⟨en, hen⟩ : ∃ en, mid + m - i = en := ⟨_, rfl⟩
        have hlo := HPART.out.lo
        have hhi := HPART.out.hi
        have hel := HPART.out.el
        have heh := HPART.out.eh
        have hij' : ¬ (i : Int) < (i : Int) := by omega
        have hee : (mid : Int) + (m : Int) - (i : Int) = (en : Int) := by omega
        rw [hen] at hel heh
        go_upto_region 39 with fail
        have HEN := Lib.hid hen
        have HEE := Lib.hid hee
        clear hen hee hij'
        go_cut [185] (fun v wx => v = .bool (decide (i < m ∧ m < en)) ∧ wr = wx)
        case first => as_aux_lemma =>
          by_cases c1 : i < m
          · have d1 : decide (i < m) = true := by simpa using c1
            by_cases c2 : m < en
            · have d2 : decide (m < en) = true := by simpa using c2
              go_wp2_with fail
              go_meet
              exact ⟨by rw [decide_eq_true (And.intro c1 c2)], rfl⟩
            · have d2 : decide (m < en) = false := by simpa using c2
              go_wp2_with fail
              go_meet
              exact ⟨by rw [decide_eq_false (fun h => c2 h.2)], rfl⟩
          · have d1 : decide (i < m) = false := by simpa using c1
            go_wp2_with fail
            go_meet
            exact ⟨by rw [decide_eq_false (fun h => c1 h.1)], rfl⟩
        case rest => as_aux_lemma =>
          obtain ⟨rfl, rfl⟩ := hcut
          obtain ⟨c, hc⟩ : ∃ c, decide (i < m ∧ m < en) = c := ⟨_, rfl⟩
          rw [hc]
          have HC := Lib.hid hc
          clear hc
          go_upto_if 185 with (fail)
          go_cut [24] (fun v wx => v = .int .i64 (en : Int) ∧ ∃ ys, Hid (Pl wx g cap ys ∧ Rot xs ys i m en ∧ w.grownBy wx (some g)))
          case first => as_aux_lemma =>
            cases c
            · go_wp2_with fail
              go_meet
              refine ⟨rfl, xs, Lib.hid ⟨HP.out.1.below hh.out.2, rot_id ?_, grown_of_below hh.out.2 g⟩⟩
              have := HC.out
              simp at this
              omega
            · have hc := HC.out
              simp only [decide_eq_true_eq] at hc
              have HR := Lib.hid (rot_any g cap n i m en xs wr (HP.out.1.below hh.out.2) HP.out.2.1 hc.1 hc.2 (by omega) h63)
              clear hc
              go_wp2_with fail
              refine HR.out.mono ?_
              rintro e w1 ⟨rfl, ys, h1, h2, h3⟩
              have HZ := Lib.hid (And.intro h1 (And.intro h2 (grown_trans (grown_of_below hh.out.2 g) h3)))
              clear h1 h2 h3
              go_wp2_with fail
              go_meet
              exact ⟨rfl, ys, HZ⟩
          case rest => as_aux_lemma =>
            obtain ⟨rfl, ys, hys⟩ := hcut
            clear HC c
            have HS : Hid (SymS w wc g cap n a m b mid i xs ys ∧ Srt cmpK ys a i ∧ Srt cmpK ys i mid) := Lib.hid (by
              obtain ⟨y1, y2, y3⟩ := hys.out
              rw [← HEN.out] at y2
              obtain ⟨p1, p2, p3, p4, p5⟩ := part_rot HM.out.1 HM.out.2 HPART.out (by omega) y2
              exact ⟨⟨y1, y2.1.length_eq.trans HP.out.2.1, (y2.shuf (by omega) (by rw [HEN.out]; omega)).mono hlo (by rw [HEN.out]; omega), y3, p1, p4, p5⟩, p2, p3⟩)
            have him : i ≤ mid := by have := HEN.out; omega
            clear hys HPART h0
            go_upto_region 41 with fail
            go_cut [199] (fun v wx => v = .bool (decide (a < i ∧ i < mid)) ∧ wc = wx)
            case first => as_aux_lemma =>
              by_cases c1 : a < i
              · have d1 : decide (a < i) = true := by simpa using c1
                by_cases c2 : i < mid
                · have d2 : decide (i < mid) = true := by simpa using c2
                  go_wp2_with fail
                  go_meet
                  exact ⟨by rw [decide_eq_true (And.intro c1 c2)], rfl⟩
                · have d2 : decide (i < mid) = false := by simpa using c2
                  go_wp2_with fail
                  go_meet
                  exact ⟨by rw [decide_eq_false (fun h => c2 h.2)], rfl⟩
              · have d1 : decide (a < i) = false := by simpa using c1
                go_wp2_with fail
                go_meet
                exact ⟨by rw [decide_eq_false (fun h => c1 h.1)], rfl⟩
            case rest => as_aux_lemma =>
              obtain ⟨rfl, rfl⟩ := hcut
              obtain ⟨c, hc⟩ : ∃ c, decide (a < i ∧ i < mid) = c := ⟨_, rfl⟩
              rw [hc]
              have HC := Lib.hid hc
              clear hc
              go_upto_if 199 with (fail)
              go_cut [18] (fun v wx => v = .int .i64 (mid : Int) ∧ ∃ zs, Hid (SymS w wx g cap n a m b mid i xs zs ∧ Srt cmpK zs a mid))
              case first => as_aux_lemma =>
                cases c
                · go_wp2_with fail
                  go_meet
                  refine ⟨rfl, ys, Lib.hid ⟨HS.out.1, ?_⟩⟩
                  have hc := HC.out
                  simp only [decide_eq_false_iff_not] at hc
                  by_cases c1 : a < i
                  · exact HS.out.2.1.sub (Nat.le_refl _) (by omega)
                  · exact HS.out.2.2.sub (by omega) (Nat.le_refl _)
                · have hc := HC.out
                  simp only [decide_eq_true_eq] at hc
                  have HR := Lib.hid (IH.out a i mid ys wc (by omega) HS.out.1.pl HS.out.1.len (HP.out.2.2.grown HS.out.1.gr HS.out.1.sh.perm) hc.1 hc.2 (by omega) HS.out.2.1 HS.out.2.2)
                  clear hc
                  go_wp2_with fail
                  refine HR.out.mono ?_
                  rintro e w1 ⟨rfl, zs, h1, h2, h3, h4⟩
                  have HZ := Lib.hid (And.intro (And.intro h1 h2) (And.intro h3 h4))
                  clear h1 h2 h3 h4
                  go_wp2_with fail
                  go_meet
                  refine ⟨rfl, zs, Lib.hid ⟨⟨HZ.out.1.1, HZ.out.1.2.len.trans HS.out.1.len, HS.out.1.sh.trans (HZ.out.1.2.mono (Nat.le_refl _) (by omega)), grown_trans HS.out.1.gr HZ.out.2.2, ahead_shuf HS.out.1.ahead (.inl HZ.out.1.2), HS.out.1.s3.shuf HZ.out.1.2 (.inr (Nat.le_refl _)), HS.out.1.s4.shuf HZ.out.1.2 (.inr (by have := HEN.out; omega))⟩, HZ.out.2.1⟩⟩
              case rest => as_aux_lemma =>
                obtain ⟨rfl, zs, hzs⟩ := hcut
                clear HC c HS
                go_upto_region 43 with fail
                go_cut [213] (fun v wx => v = .bool (decide (mid < en ∧ en < b)) ∧ wc = wx)
                case first => as_aux_lemma =>
                  by_cases c1 : mid < en
                  · have d1 : decide (mid < en) = true := by simpa using c1
                    by_cases c2 : en < b
                    · have d2 : decide (en < b) = true := by simpa using c2
                      go_wp2_with fail
                      go_meet
                      exact ⟨by rw [decide_eq_true (And.intro c1 c2)], rfl⟩
                    · have d2 : decide (en < b) = false := by simpa using c2
                      go_wp2_with fail
                      go_meet
                      exact ⟨by rw [decide_eq_false (fun h => c2 h.2)], rfl⟩
                  · have d1 : decide (mid < en) = false := by simpa using c1
                    go_wp2_with fail
                    go_meet
                    exact ⟨by rw [decide_eq_false (fun h => c1 h.1)], rfl⟩
                case rest => as_aux_lemma =>
                  obtain ⟨rfl, rfl⟩ := hcut
                  obtain ⟨c, hc⟩ : ∃ c, decide (mid < en ∧ en < b) = c := ⟨_, rfl⟩
                  rw [hc]
                  have HC := Lib.hid hc
                  clear hc
                  cases c
                  · go_wp2_with fail
                    go_end0
                    have hc := HC.out
                    simp only [decide_eq_false_iff_not] at hc
                    have hs3 := hzs.out.1.s3
                    have hs4 := hzs.out.1.s4
                    rw [HEN.out] at hs3 hs4
                    have hr : Srt cmpK zs mid b := by
                      by_cases c1 : mid < en
                      · exact hs3.sub (Nat.le_refl _) (by omega)
                      · exact hs4.sub (by omega) (Nat.le_refl _)
                    exact ⟨rfl, zs, hzs.out.1.pl, hzs.out.1.sh, srt_join hzs.out.2 hr hzs.out.1.ahead, hzs.out.1.gr⟩
                  · have hc := HC.out
                    simp only [decide_eq_true_eq] at hc
                    have hs3 := hzs.out.1.s3
                    have hs4 := hzs.out.1.s4
                    rw [HEN.out] at hs3 hs4
                    have HR := Lib.hid (IH.out mid en b zs wc (by omega) hzs.out.1.pl hzs.out.1.len (HP.out.2.2.grown hzs.out.1.gr hzs.out.1.sh.perm) hc.1 hc.2 hb hs3 hs4)
                    clear hc hs3 hs4
                    go_wp2_with fail
                    refine HR.out.mono ?_
                    rintro e w1 ⟨rfl, us, h1, h2, h3, h4⟩
                    have HZ := Lib.hid (And.intro (And.intro h1 h2) (And.intro h3 h4))
                    clear h1 h2 h3 h4
                    go_wp2_with fail
                    go_end0
                    exact ⟨rfl, us, HZ.out.1.1, hzs.out.1.sh.trans (HZ.out.1.2.mono (by omega) (Nat.le_refl _)), srt_join (hzs.out.2.shuf HZ.out.1.2 (.inl (Nat.le_refl _))) HZ.out.2.1 (ahead_shuf hzs.out.1.ahead (.inr HZ.out.1.2)), grown_trans hzs.out.1.gr HZ.out.2.2⟩
end Go.Proofs.Ytebacmmfjadalaa

namespace Go.Proofs.Ytebacmmfjadalaa
open Go Go.RowKit

theorem sym_all (g cap n : Nat) (h63 : n ≤ 1099511627776) : ∀ d, SymIH g cap n d
  | 0 => fun a m b xs w h => by omega
  | d + 1 => fun a m b xs w h hp hn hok ham hmb hb h1 h2 => by
    have ih := sym_all g cap n h63 d
    by_cases c : b - a < d
    · exact ih a m b xs w c hp hn hok ham hmb hb h1 h2
    · have e : b - a = d := by omega
      by_cases c1 : m = a + 1
      · exact sym_one g cap n a m b xs w hp hn hok c1 hmb hb h63 h2
      · by_cases c2 : b = m + 1
        · exact sym_last g cap n a m b xs w hp hn hok (by omega) c2 hb h63 h1
        · exact sym_more g cap n a m b xs w (by rw [e]; exact ih) hp hn hok (by omega) (by omega) hb h63 h1 h2

theorem blk_first {xs : List El} {n k : Nat} (h : ∀ c, c < k → Srt cmpK xs (c * 20) (c * 20 + 20)) (hn : n < k * 20 + 20) (hl : Srt cmpK xs (k * 20) n) : Blk cmpK xs n 20 := by
  intro c
  by_cases c1 : c < k
  · exact (h c c1).sub (Nat.le_refl _) (by omega)
  · by_cases c2 : c = k
    · subst c2
      exact hl.sub (Nat.le_refl _) (by omega)
    · exact Srt.one cmpK xs (by omega)
theorem blk_step {xs ys : List El} {k : Nat} (h : ∀ c, c < k → Srt cmpK xs (c * 20) (c * 20 + 20)) (s : Shuf xs ys (k * 20) (k * 20 + 20)) (q : Srt cmpK ys (k * 20) (k * 20 + 20)) : ∀ c, c < k + 1 → Srt cmpK ys (c * 20) (c * 20 + 20) := by
  intro c hc
  by_cases e : c = k
  · subst e
    exact q
  · exact (h c (by omega)).shuf s (.inl (by omega))
theorem two_mul' (d k : Nat) : 2 * d * k = d * (2 * k) := by rw [Nat.mul_comm 2 d, Nat.mul_assoc]

set_option maxRecDepth 8000 in
set_option maxHeartbeats 8000000 in
theorem stable_any (g cap n : Nat) (xs : List El) (w : World) (hp : Pl w g cap xs) (hn : xs.length = n) (hok : Oks w g xs) (h63 : n ≤ 1099511627776) :
    Calls Try.prog 53 #[.slice (some ⟨g, 0, none⟩) n cap, .int .i64 n, cmpV] w (SymP g cap 0 n xs w) := by
  have HP := Lib.hid (And.intro hp (And.intro hn hok))
  clear hp hok hn
  go_enter Try.func53, Try.ntmps53
  go_wp2_with fail
  go_loopw [7, 8] (fun av bv wr => ∃ (a b k : Nat) (ys : List El), av = .int .i64 (a : Int) ∧ bv = .int .i64 (b : Int) ∧ Hid (a = k * 20 ∧ b = a + 20 ∧ a ≤ n ∧ Pl wr g cap ys ∧ Shuf xs ys 0 n ∧ (∀ c, c < k → Srt cmpK ys (c * 20) (c * 20 + 20)) ∧ w.grownBy wr (some g))) (fun av _ _ => n - (intOf av).toNat)
  case atStart => exact ⟨0, 20, 0, xs, rfl, rfl, Lib.hid ⟨rfl, rfl, Nat.zero_le _, HP.out.1, Shuf.refl _ _ _, fun c h => by omega, grown_of_below (Below.refl _ _) _⟩⟩
  case round =>
    obtain ⟨a, b, k, ys, rfl, rfl, hh⟩ := hrel
    obtain ⟨-, hb, ha, -⟩ := hh.out
    by_cases hbn : b ≤ n
    · have hbn' : (b : Int) ≤ (n : Int) := by omega
      have HI := Lib.hid (ins_any g cap n a b ys wr hh.out.2.2.2.1 (hh.out.2.2.2.2.1.len.trans HP.out.2.1) (HP.out.2.2.grown hh.out.2.2.2.2.2.2 hh.out.2.2.2.2.1.perm) (by omega) hbn h63)
      have HB := Lib.hid hb
      clear hb
      go_wp2_with fail
      refine HI.out.mono ?_
      rintro e w1 ⟨rfl, zs, h1, h2, h3, h4⟩
      have HZ := Lib.hid (And.intro (And.intro h1 h2) (And.intro h3 h4))
      clear h1 h2 h3 h4
      go_wp2_with fail
      go_roundw
      case rel =>
        obtain ⟨q1, q2, q3, q4, q5, q6, q7⟩ := hh.out
        obtain ⟨⟨z1, z2⟩, z3, z4⟩ := HZ.out
        refine ⟨b, b + 20, k + 1, zs, rfl, by go_num, Lib.hid ⟨by omega, rfl, hbn, z1, q5.trans (z2.mono (Nat.zero_le _) hbn), ?_, grown_trans q7 z4⟩⟩
        rw [q2, q1] at z2 z3
        exact blk_step q6 z2 z3
      case measure =>
        have := HB.out
        simp [intOf]; omega
    · have hbn' : ¬ (b : Int) ≤ (n : Int) := by omega
      have HI := Lib.hid (ins_any g cap n a n ys wr hh.out.2.2.2.1 (hh.out.2.2.2.2.1.len.trans HP.out.2.1) (HP.out.2.2.grown hh.out.2.2.2.2.2.2 hh.out.2.2.2.2.1.perm) ha (Nat.le_refl _) h63)
      have HB := Lib.hid hb
      clear hb
      go_wp2_with fail
      refine HI.out.mono ?_
      rintro e w1 ⟨rfl, zs, h1, h2, h3, h4⟩
      have HZ : Hid (Pl w1 g cap zs ∧ Shuf xs zs 0 n ∧ Blk cmpK zs n 20 ∧ w.grownBy w1 (some g)) := Lib.hid (by
        obtain ⟨q1, q2, q3, q4, q5, q6, q7⟩ := hh.out
        refine ⟨h1, q5.trans (h2.mono (Nat.zero_le _) (Nat.le_refl _)), ?_, grown_trans q7 h4⟩
        rw [q1] at h2 h3
        exact blk_first (fun c hc => (q6 c hc).shuf h2 (.inl (by omega))) (by omega) h3)
      clear h1 h2 h3 h4 hh HB HI
      go_wp2_with fail
      obtain ⟨wo, rfl⟩ : ∃ wo : World, wo = w1 := ⟨_, rfl⟩
      go_loopw [6] (fun kv wr => ∃ (K : Nat) (ys : List El), kv = .int .i64 (K : Int) ∧ Hid (0 < K ∧ K ≤ 2 * n + 20 ∧ Pl wr g cap ys ∧ Shuf xs ys 0 n ∧ Blk cmpK ys n K ∧ w.grownBy wr (some g))) (fun kv _ => n - (intOf kv).toNat)
      case atStart => exact ⟨20, zs, rfl, Lib.hid ⟨by omega, by omega, HZ.out.1, HZ.out.2.1, HZ.out.2.2.1, HZ.out.2.2.2⟩⟩
      case round =>
        obtain ⟨K, ys, rfl, hh⟩ := hrel
        obtain ⟨hK0, hK1, -⟩ := hh.out
        by_cases hKn : K < n
        · have hKn' : (K : Int) < (n : Int) := by omega
          obtain ⟨K2, hK2⟩ : ∃ K2, 2 * K = K2 := ⟨_, rfl⟩
          have e1 : (2 : Int) * (K : Int) = (K2 : Int) := by omega
          have HK2 := Lib.hid hK2
          clear hK2
          go_wp2_with fail
          clear e1
          obtain ⟨wo, rfl⟩ : ∃ wo : World, wo = wr := ⟨_, rfl⟩
          go_loopw [7, 8] (fun av bv wr => ∃ (a b d : Nat) (us : List El), av = .int .i64 (a : Int) ∧ bv = .int .i64 (b : Int) ∧ Hid (a = d * (2 * K) ∧ b = a + K2 ∧ a ≤ n ∧ Pl wr g cap us ∧ Shuf xs us 0 n ∧ Mrg cmpK us n K d ∧ w.grownBy wr (some g))) (fun av _ _ => n - (intOf av).toNat)
          case atStart => exact ⟨0, K2, 0, ys, rfl, rfl, Lib.hid ⟨by omega, by omega, by omega, hh.out.2.2.1, hh.out.2.2.2.1, mrg_start hh.out.2.2.2.2.1, hh.out.2.2.2.2.2⟩⟩
          case round =>
            clear hh
            obtain ⟨a, b, d, us, rfl, rfl, hh⟩ := hrel
            obtain ⟨-, hb, ha, -⟩ := hh.out
            have hK2 := HK2.out
            have HR := Lib.hid (show Srt cmpK us a (min (a + K) n) ∧ Srt cmpK us (a + K) (min (a + K2) n) by
              obtain ⟨q1, -, -, -, -, q6, -⟩ := hh.out
              have r1 := q6.2 (2 * d) (Nat.le_refl _)
              have r2 := q6.2 (2 * d + 1) (by omega)
              rw [two_mul', ← q1] at r1
              rw [Nat.add_mul, Nat.one_mul, two_mul', ← q1] at r2
              exact ⟨r1, by rw [← hK2, show a + 2 * K = a + K + K by omega]; exact r2⟩)
            by_cases hbn : b ≤ n
            · have hbn' : (b : Int) ≤ (n : Int) := by omega
              obtain ⟨m, hm⟩ : ∃ m, a + K = m := ⟨_, rfl⟩
              have e1 : (a : Int) + (K : Int) = (m : Int) := by omega
              have HS := Lib.hid (sym_all g cap n h63 (b - a + 1) a m b us wr (by omega) hh.out.2.2.2.1 (hh.out.2.2.2.2.1.len.trans HP.out.2.1) (HP.out.2.2.grown hh.out.2.2.2.2.2.2 hh.out.2.2.2.2.1.perm) (by omega) (by omega) hbn (HR.out.1.sub (Nat.le_refl _) (by omega)) (HR.out.2.sub (by omega) (by omega)))
              have e2 : (2 : Int) * (K : Int) = (K2 : Int) := by omega
              have HB := Lib.hid (And.intro hb hm)
              clear hb hK2 hm
              go_wp2_with fail
              refine HS.out.mono ?_
              rintro e w2 ⟨rfl, vs, h1, h2, h3, h4⟩
              have HV := Lib.hid (And.intro (And.intro h1 h2) (And.intro h3 h4))
              clear h1 h2 h3 h4 e1
              go_wp2_with fail
              go_roundw
              case rel =>
                obtain ⟨q1, q2, q3, q4, q5, q6, q7⟩ := hh.out
                obtain ⟨⟨z1, z2⟩, z3, z4⟩ := HV.out
                have hK2 := HK2.out
                refine ⟨b, b + K2, d + 1, vs, rfl, by go_num, Lib.hid ⟨by rw [q2, q1, Nat.add_mul]; omega, rfl, hbn, z1, q5.trans (z2.mono (Nat.zero_le _) hbn), ?_, grown_trans q7 z4⟩⟩
                rw [q2, ← hK2, q1] at z2 z3
                exact mrg_step q6 z2 z3
              case measure =>
                have := HB.out
                have := HK2.out
                simp [intOf]; omega
            · have hbn' : ¬ (b : Int) ≤ (n : Int) := by omega
              obtain ⟨m, hm⟩ : ∃ m, a + K = m := ⟨_, rfl⟩
              have e1 : (a : Int) + (K : Int) = (m : Int) := by omega
              have e3 : (K : Int) * 2 = (K2 : Int) := by omega
              by_cases hmn : m < n
              · have hmn' : (m : Int) < (n : Int) := by omega
                have HS := Lib.hid (sym_all g cap n h63 (n - a + 1) a m n us wr (by omega) hh.out.2.2.2.1 (hh.out.2.2.2.2.1.len.trans HP.out.2.1) (HP.out.2.2.grown hh.out.2.2.2.2.2.2 hh.out.2.2.2.2.1.perm) (by omega) hmn (Nat.le_refl _) (HR.out.1.sub (Nat.le_refl _) (by omega)) (HR.out.2.sub (by omega) (by omega)))
                have HB := Lib.hid (And.intro hb hm)
                clear hb hK2 hm
                go_wp2_with fail
                refine HS.out.mono ?_
                rintro e w2 ⟨rfl, vs, h1, h2, h3, h4⟩
                have HV := Lib.hid (And.intro (And.intro h1 h2) (And.intro h3 h4))
                clear h1 h2 h3 h4 e1
                go_wp2_with fail
                go_roundw
                case rel =>
                  obtain ⟨q1, q2, q3, q4, q5, q6, q7⟩ := hh.out
                  obtain ⟨⟨z1, z2⟩, z3, z4⟩ := HV.out
                  have hK2 := HK2.out
                  refine ⟨K2, vs, rfl, Lib.hid ⟨by omega, by omega, z1, q5.trans (z2.mono (Nat.zero_le _) (Nat.le_refl _)), ?_, grown_trans q7 z4⟩⟩
                  rw [← hK2]
                  refine mrg_last (d := d) ⟨fun c hc => (q6.1 c hc).shuf z2 (.inl ?_), fun c hc => ?_⟩ (by omega) (by rw [← q1]; exact z3)
                  · have : (c + 1) * (2 * K) ≤ d * (2 * K) := Nat.mul_le_mul_right _ (by omega)
                    rw [Nat.add_mul, Nat.one_mul] at this
                    omega
                  · have h2d : 2 * d * K ≤ c * K := Nat.mul_le_mul_right _ hc
                    rw [two_mul', ← q1] at h2d
                    exact z3.sub h2d (Nat.min_le_right _ _)
                case measure =>
                  have := HK2.out
                  simp [intOf]; omega
              · have hmn' : ¬ (m : Int) < (n : Int) := by omega
                have HB := Lib.hid (And.intro hb hm)
                clear hb hK2 hm
                go_wp2_with fail
                go_roundw
                case rel =>
                  obtain ⟨q1, q2, q3, q4, q5, q6, q7⟩ := hh.out
                  have hK2 := HK2.out
                  have hm := HB.out.2
                  refine ⟨K2, us, rfl, Lib.hid ⟨by omega, by omega, q4, q5, ?_, q7⟩⟩
                  rw [← hK2]
                  exact mrg_last q6 (by omega) (by rw [← q1]; exact HR.out.1.sub (Nat.le_refl _) (by omega))
                case measure =>
                  have := HK2.out
                  simp [intOf]; omega
        · have hKn' : ¬ (K : Int) < (n : Int) := by omega
          go_wp2_with fail
          go_end0
          obtain ⟨q1, q2, q3, q4, q5, q6⟩ := hh.out
          have h0 := q5 0
          rw [Nat.zero_mul, Nat.zero_add] at h0
          exact ⟨rfl, ys, q3, q4, h0.sub (Nat.le_refl _) (by omega), q6⟩

theorem sort_any (g cap n : Nat) (xs : List El) (w : World) (hp : Pl w g cap xs) (hn : xs.length = n) (hok : Oks w g xs) (h63 : n ≤ 1099511627776) :
    Calls Try.prog 32 #[.slice (some ⟨g, 0, none⟩) n cap, cmpV] w (SymP g cap 0 n xs w) := by
  have HS := Lib.hid (stable_any g cap n xs w hp hn hok h63)
  clear hp hok hn
  go_enter Try.func32, Try.ntmps32
  go_wp2_with fail
  refine HS.out.mono ?_
  rintro e w2 ⟨rfl, h⟩
  go_wp2_with fail
  go_end0
  exact ⟨rfl, h⟩
end Go.Proofs.Ytebacmmfjadalaa

namespace Go.Proofs.Ytebacmmfjadalaa
open Go Go.RowKit Go.WideShapes

theorem ins_nil (w : World) : Calls Try.prog 68 #[.slice none 0 0, .int .i64 0, .int .i64 0, cmpV] w fun e w' => e = .returned (.tuple #[]) ∧ w = w' := by
  have h0 : ¬ (1 : Int) < 0 := by omega
  go_enter Try.func68, Try.ntmps68
  go_wp2_with fail
  go_loopw [8] (fun tv wr => tv = .int .i64 1 ∧ w = wr) (fun _ _ => 0)
  case atStart => exact ⟨rfl, rfl⟩
  case round =>
    obtain ⟨rfl, rfl⟩ := hrel
    go_wp2_with fail
    go_end0
    exact ⟨rfl, rfl⟩
theorem stable_nil (w : World) : Calls Try.prog 53 #[.slice none 0 0, .int .i64 0, cmpV] w fun e w' => e = .returned (.tuple #[]) ∧ w = w' := by
  go_enter Try.func53, Try.ntmps53
  go_wp2_with fail
  go_loopw [7, 8] (fun av bv wr => av = .int .i64 0 ∧ bv = .int .i64 20 ∧ w = wr) (fun _ _ _ => 0)
  case atStart => exact ⟨rfl, rfl, rfl⟩
  case round =>
    obtain ⟨rfl, rfl, rfl⟩ := hrel
    go_wp2_with fail
    refine (ins_nil w).mono ?_
    rintro e w1 ⟨rfl, rfl⟩
    go_wp2_with fail
    go_loopw [6] (fun kv wr => kv = .int .i64 20 ∧ w = wr) (fun _ _ => 0)
    case atStart => exact ⟨rfl, rfl⟩
    case round =>
      obtain ⟨rfl, rfl⟩ := hrel
      go_wp2_with fail
      go_end0
      exact ⟨rfl, rfl⟩
theorem sort_nil (w : World) : Calls Try.prog 32 #[.slice none 0 0, cmpV] w fun e w' => e = .returned (.tuple #[]) ∧ w = w' := by
  go_enter Try.func32, Try.ntmps32
  go_wp2_with fail
  refine (stable_nil w).mono ?_
  rintro e w2 ⟨rfl, rfl⟩
  go_wp2_with fail
  go_end0
  exact ⟨rfl, rfl⟩

theorem srt_pair {xs : List El} {n : Nat} (h : Srt cmpK xs 0 n) (hn : xs.length = n) : xs.Pairwise (Le cmpK) := by
  rw [List.pairwise_iff_getElem]
  intro i j hi hj hij
  exact h i j (Nat.zero_le _) hij (by omega) _ _ (List.getElem?_eq_getElem hi) (List.getElem?_eq_getElem hj)

/-- values in new memory, apart from a block -/
def Fresh (B : Nat) (e : El) : Prop := ∀ b f, e.v = some ⟨b, f, none⟩ → B ≤ b
structure OrdSt (w wr : World) (ov : Value) (zs : List El) (ks : List (List Int)) : Prop where
  row : Row w.heap.size wr ov zs
  keys : zs.map El.key = ks
  ok : ∀ e ∈ zs, ElOk wr e ∧ Away e ov.ownBlock ∧ Fresh w.heap.size e
  bel : Below w.heap.size w wr
  nil : zs = [] → ov = .slice none 0 0

theorem row_grown_away {w w' : World} {v : Value} {e : El} (he : ElOk w e) (ha : Away e v.ownBlock) (hg : w.grownBy w' v.ownBlock) {v' : Value} (hv : v'.ownBlock = v.ownBlock ∨ v'.ownBlock = some w.heap.size) : ElOk w' e ∧ Away e v'.ownBlock := by
  refine ⟨he.grown hg ha, ?_⟩
  rcases hv with hv | hv
  · rw [hv]; exact ha
  · rw [hv]; exact Away.new he (Nat.le_refl _)

set_option maxRecDepth 8000 in
set_option maxHeartbeats 4000000 in
theorem plist_any (v : Value) (xs : List El) (w : World) (hx : TlAt w v xs) (hok : ∀ e ∈ xs, ElOk w e) (hlen : xs.length ≤ 1099511627776) :
    Calls Try.prog 12 #[v] w fun e w' => ∃ v' ys, e = .returned v' ∧ Row w.heap.size w' v' ys ∧ (ys.map El.key).Perm (xs.map El.key) ∧ ys.Pairwise (Le cmpK) ∧ (∀ a ∈ ys, ElOk w' a ∧ Away a v'.ownBlock ∧ Fresh w.heap.size a) ∧ Below w.heap.size w w' := by
  have HX := Lib.hid (And.intro hx hok)
  obtain ⟨A, c, rfl, hxx⟩ := hx
  obtain ⟨n, hn⟩ : ∃ n, xs.length = n := ⟨_, rfl⟩
  have HN := Lib.hid hn
  rw [hn] at hlen ⊢
  have HXX := Lib.hid hxx
  clear hxx hok hn
  go_enter Try.func12, Try.ntmps12
  go_wp2_with fail
  go_loopw [3, 8] (fun ov iv wr => ∃ (k : Nat) (zs : List El), k ≤ n ∧ iv = .int .i64 (k : Int) ∧ Hid (OrdSt w wr ov zs ((xs.take k).map El.key))) (fun _ iv _ => n - (intOf iv).toNat)
  case atStart => exact ⟨0, [], by omega, rfl, Lib.hid ⟨World.ownsRow_nil _ _ _ _, rfl, fun e he => by simp at he, Below.refl _ _, fun _ => rfl⟩⟩
  case round =>
    obtain ⟨k, zs, hk, rfl, hh⟩ := hrel
    by_cases hlt : k < n
    · obtain ⟨a, ha⟩ := get_some (xs := xs) (i := k) (by have := HN.out; omega)
      rcases HXX.out with ⟨-, h0⟩ | ⟨g1, o1, rfl, q1, hc1⟩
      · rw [h0] at ha; simp at ha
      have oa := (HX.out.2 a (List.mem_of_getElem? ha)).below hh.out.bel
      have d1 := fun j hj => (hh.out.bel.cell (p := ⟨g1, o1 + k * 5 + j, none⟩) q1).trans (hc1 k a ha j hj)
      have x0 := d1 0 (by omega)
      have x1 := d1 1 (by omega)
      have x2 := d1 2 (by omega)
      have x3 := d1 3 (by omega)
      have x4 := d1 4 (by omega)
      have HA := Lib.hid (And.intro ha oa)
      have hki : (k : Int) < (n : Int) := by omega
      have hk0 : (0 : Int) ≤ (k : Int) := by omega
      clear d1 hc1 ha oa
      obtain ⟨at_, se, sq, st, av, an, ac, abs⟩ := a
      rw [Nat.add_zero] at x0
      simp only [El.row, List.getElem?_cons_zero, List.getElem?_cons_succ] at x0 x1 x2 x3 x4
      have HB1 := Lib.hid ((Below.refl wr.heap.size wr).alloc (Nat.le_refl _) (.cells #[.int .i64 at_, .int .i64 se, .int .u32 sq, .int .u32 st, .slice av an ac] 32))
      have HCP := Lib.hid (copied_any at_ se sq st av an ac abs _ (HA.out.2.below HB1.out).1 HA.out.2.2.2)
      go_wp2_with fail
      refine HCP.out.mono ?_
      rintro e w2 ⟨B, kc, rfl, hf, hnw, hb2⟩
      have hb12 := HB1.out.trans (hb2.mono HB1.out.size)
      have HF := Lib.hid (show ElOk w2 ⟨at_, se, sq, st, B, an, kc, abs⟩ ∧ (∀ b f, B = some ⟨b, f, none⟩ → wr.heap.size ≤ b) from ⟨⟨hf, HA.out.2.2⟩, fun b f hv => by
        rcases hnw with h | ⟨b', h, h', -⟩
        · rw [h] at hv; cases hv
        · rw [h] at hv
          injection hv with hv
          injection hv with hv
          subst hv
          exact Nat.le_trans HB1.out.size h'⟩)
      have HB2 := Lib.hid hb12
      clear hf hnw hb2 hb12 x0 x1 x2 x3 x4 HCP HB1
      have hb3 := (Below.refl w2.heap.size w2).alloc (Nat.le_refl _) (.cells #[.int .i64 at_, .int .i64 se, .int .u32 sq, .int .u32 st, .slice B an kc] 32)
      have HB3 := Lib.hid (HB2.out.trans (hb3.mono HB2.out.size))
      have hsz : w.heap.size ≤ (w2.alloc (.cells #[.int .i64 at_, .int .i64 se, .int .u32 sq, .int .u32 st, .slice B an kc] 32)).heap.size := Nat.le_trans hh.out.bel.size HB3.out.size
      have hzl : zs.length ≤ 1099511627776 := by
        have h := congrArg List.length hh.out.keys
        simp only [List.length_map, List.length_take] at h
        omega
      have HNW := Lib.hid (row_new' w2 at_ se sq st B an kc 32)
      clear hb3
      go_wp2_with (at_builtin; refine wpList_append_el _ rfl _ _ 24 w.heap.size rfl Try.underlying24 u3 zs ⟨at_, se, sq, st, B, an, kc, abs⟩ rfl (hh.out.row.below HB3.out) hsz hzl ⟨w2.heap.size, 0, none⟩ 1 rfl HNW.out ?_; intro v1 w3 hr1 hg1 ha1; have HR1 := Lib.hid (And.intro hr1 (And.intro hg1 ha1)); clear hr1 hg1 ha1)
      go_roundw
      case rel =>
        obtain ⟨r1, r2, r3⟩ := HR1.out
        refine ⟨k + 1, zs ++ [⟨at_, se, sq, st, B, an, kc, abs⟩], by omega, by go_num, Lib.hid ⟨r1, ?_, fun e he => ?_, ?_, fun h => by simp at h⟩⟩
        · rw [List.map_append, hh.out.keys, List.take_add_one, HA.out.1, List.map_append]
          rfl
        · rcases List.mem_append.1 he with he | he
          · obtain ⟨o1, o2, o3⟩ := hh.out.ok e he
            obtain ⟨p1, p2⟩ := row_grown_away (o1.below HB3.out) o2 r2 r3
            exact ⟨p1, p2, o3⟩
          · rw [List.mem_singleton.1 he]
            have hw2 : ElOk (w2.alloc (.cells #[.int .i64 at_, .int .i64 se, .int .u32 sq, .int .u32 st, .slice B an kc] 32)) ⟨at_, se, sq, st, B, an, kc, abs⟩ := HF.out.1.below ((Below.refl _ _).alloc (Nat.le_refl _) _)
            have haw : Away (⟨at_, se, sq, st, B, an, kc, abs⟩ : El) u3.ownBlock := fun b f hv hq => by
              have h1 := HF.out.2 b f hv
              have h2 := hh.out.row
              rcases h2.2 with ⟨h3, -⟩ | ⟨g, cap, cur, h3, h4, h5, -⟩
              · rw [h3] at hq; simp [Value.ownBlock] at hq
              · rw [h3] at hq
                simp only [Value.ownBlock] at hq
                injection hq with hq
                have := (Array.getElem?_eq_some_iff.1 h5).1
                omega
            obtain ⟨p1, p2⟩ := row_grown_away hw2 haw r2 r3
            exact ⟨p1, p2, fun b f hv => Nat.le_trans hh.out.bel.size (HF.out.2 b f hv)⟩
        · have hbb := hh.out.bel.trans (HB3.out.mono hh.out.bel.size)
          exact hbb.grown r2 hsz (ownsRow_base hh.out.row)
      case measure => simp [intOf]; omega
    · have hkn : k = n := by omega
      have hki : ¬ (k : Int) < (n : Int) := by omega
      have hkeys := hh.out.keys
      rw [hkn, List.take_of_length_le (by have := HN.out; omega)] at hkeys
      have HK := Lib.hid hkeys
      clear hkeys hkn
      rcases Nat.eq_zero_or_pos zs.length with hz | hz
      · have hz' : zs = [] := List.length_eq_zero_iff.1 hz
        subst hz'
        have hu : u3 = .slice none 0 0 := hh.out.nil rfl
        subst hu
        go_wp2_with fail
        refine (sort_nil wr).mono ?_
        rintro e w2 ⟨rfl, rfl⟩
        go_wp2_with fail
        go_ret
        exact ⟨_, [], rfl, hh.out.row, by rw [← HK.out], List.Pairwise.nil, hh.out.ok, hh.out.bel⟩
      · obtain ⟨g, cap, rfl, hBg, hpl⟩ := hh.out.row.pl hz
        have HPL := Lib.hid (And.intro hBg hpl)
        have hzl : zs.length ≤ 1099511627776 := by
          have h := congrArg List.length HK.out
          simp only [List.length_map] at h
          have := HN.out
          omega
        have HS := Lib.hid (sort_any g cap zs.length zs wr hpl rfl (fun x hx => ⟨(hh.out.ok x hx).1, (hh.out.ok x hx).2.1⟩) hzl)
        clear hpl hBg
        go_wp2_with fail
        refine HS.out.mono ?_
        rintro e w2 ⟨rfl, ys, h1, h2, h3, h4⟩
        have HY := Lib.hid (And.intro (And.intro h1 h2) (And.intro h3 h4))
        clear h1 h2 h3 h4
        go_wp2_with fail
        go_ret
        obtain ⟨⟨y1, y2⟩, y3, y4⟩ := HY.out
        have hyl : ys.length = zs.length := y2.len
        have hrow := y1.row HPL.out.1
        rw [hyl] at hrow
        refine ⟨_, ys, rfl, hrow, ?_, srt_pair y3 hyl, fun a ha => ?_, ?_⟩
        · rw [← HK.out]
          exact y2.perm.map _
        · obtain ⟨o1, o2, o3⟩ := hh.out.ok a (y2.perm.mem_iff.1 ha)
          exact ⟨o1.grown y4 o2, o2, o3⟩
        · exact hh.out.bel.grown y4 hh.out.bel.size (fun k hk => by injection hk with hk; rw [← hk]; exact HPL.out.1)
end Go.Proofs.Ytebacmmfjadalaa

namespace Go.Proofs.Ytebacmmfjadalaa
open Go Go.RowKit Go.WideShapes

theorem sink_srt {xs : List El} {n : Nat} {e : El} (hn : xs.length = n) (h : xs.Pairwise (Le cmpK)) : (sinkL cmpK (n + 1) (xs ++ [e]) n).Pairwise (Le cmpK) := by
  have hst : ∀ (f : Nat) (ys : List El) (j : Nat), j < f → ys.length = n + 1 → j ≤ n → InsSt cmpK ys 0 (n + 1) j → Srt cmpK (sinkL cmpK f ys j) 0 (n + 1) := by
    intro f
    induction f with
    | zero => intro ys j h1 h2 h3 h4; omega
    | succ f ih =>
      intro ys j h1 h2 h3 h4
      rw [sinkL]
      split
      · rename_i hc
        obtain ⟨q, rfl⟩ : ∃ q, j = q + 1 := ⟨j - 1, by omega⟩
        rw [Nat.add_sub_cancel] at hc ⊢
        exact ih _ _ (by omega) (by rw [hsw_len]; exact h2) (by omega) (ins_step cmpK_swo h4 (Nat.zero_le _) (by omega) (by omega) hc.2)
      · rename_i hc
        refine ins_stop cmpK_swo h4 (by omega) (Nat.zero_le _) ?_
        by_cases e : j = 0
        · exact .inl e
        · right
          cases hl : ltAt cmpK ys j (j - 1) with
          | false => rfl
          | true => exact absurd ⟨by omega, hl⟩ hc
  have hl : (xs ++ [e]).length = n + 1 := by rw [List.length_append, hn]; rfl
  refine srt_pair (hst (n + 1) (xs ++ [e]) n (by omega) hl (Nat.le_refl _) (ins_start ?_)) (by rw [sink_len]; exact hl)
  intro i k h1 h2 h3 a b ha hb
  rw [List.getElem?_append_left (by omega)] at ha hb
  obtain ⟨q1, rfl⟩ := List.getElem?_eq_some_iff.1 ha
  obtain ⟨q2, rfl⟩ := List.getElem?_eq_some_iff.1 hb
  exact List.pairwise_iff_getElem.1 h i k q1 q2 h2

structure ROrdSt (w wr : World) (ov : Value) (zs xs : List El) : Prop where
  row : Row w.heap.size wr ov zs
  perm : zs.Perm xs
  srt : zs.Pairwise (Le cmpK)
  bel : Below w.heap.size w wr

set_option maxRecDepth 8000 in
set_option maxHeartbeats 4000000 in
theorem rlist_any (v : Value) (xs : List El) (w : World) (hx : TlAt w v xs) (hok : ∀ e ∈ xs, ElOk w e ∧ W32 e) (hlen : xs.length ≤ 1099511627776) :
    Calls Try.prog 13 #[v] w fun e w' => ∃ v' ys, e = .returned v' ∧ Row w.heap.size w' v' ys ∧ ys.Perm xs ∧ ys.Pairwise (Le cmpK) ∧ Below w.heap.size w w' := by
  have HX := Lib.hid (And.intro hx hok)
  obtain ⟨A, c, rfl, hxx⟩ := hx
  obtain ⟨n, hn⟩ : ∃ n, xs.length = n := ⟨_, rfl⟩
  have HN := Lib.hid hn
  rw [hn] at hlen ⊢
  have HXX := Lib.hid hxx
  clear hxx hok hn
  go_enter Try.func13, Try.ntmps13
  go_wp2_with fail
  go_loopw [3, 8] (fun ov iv wr => ∃ (k : Nat) (zs : List El), k ≤ n ∧ iv = .int .i64 (k : Int) ∧ Hid (ROrdSt w wr ov zs (xs.take k))) (fun _ iv _ => n - (intOf iv).toNat)
  case atStart => exact ⟨0, [], by omega, rfl, Lib.hid ⟨World.ownsRow_nil _ _ _ _, List.Perm.refl _, List.Pairwise.nil, Below.refl _ _⟩⟩
  case round =>
    obtain ⟨k, zs, hk, rfl, hh⟩ := hrel
    by_cases hlt : k < n
    · obtain ⟨a, ha⟩ := get_some (xs := xs) (i := k) (by have := HN.out; omega)
      rcases HXX.out with ⟨-, h0⟩ | ⟨g1, o1, rfl, q1, hc1⟩
      · rw [h0] at ha; simp at ha
      have d1 := fun j hj => (hh.out.bel.cell (p := ⟨g1, o1 + k * 5 + j, none⟩) q1).trans (hc1 k a ha j hj)
      have x0 := d1 0 (by omega)
      have x1 := d1 1 (by omega)
      have x2 := d1 2 (by omega)
      have x3 := d1 3 (by omega)
      have x4 := d1 4 (by omega)
      have HA := Lib.hid ha
      have hki : (k : Int) < (n : Int) := by omega
      have hk0 : (0 : Int) ≤ (k : Int) := by omega
      have hb1 := (Below.refl wr.heap.size wr).alloc (Nat.le_refl _) (.cells a.row.toArray 32)
      have hB1 := hh.out.bel.trans (hb1.mono hh.out.bel.size)
      have hzl : zs.length ≤ 1099511627776 := by
        have h := hh.out.perm.length_eq
        rw [List.length_take] at h
        omega
      have HPUT := Lib.hid (put_any w.heap.size u3 zs a _ (hh.out.row.below hb1) hB1.size (fun e he => by
        have he' : e ∈ xs := by
          rcases List.mem_append.1 he with h | h
          · exact List.mem_of_mem_take (hh.out.perm.mem_iff.1 h)
          · rw [List.mem_singleton.1 h]; exact List.mem_of_getElem? HA.out
        obtain ⟨o1, o2⟩ := HX.out.2 e he'
        refine ⟨o1.below hB1, fun b f hv hq => ?_, o2⟩
        have h1 := o1.lt hv
        have h2 := ownsRow_base hh.out.row b hq
        omega) hzl)
      have HB1 := Lib.hid hB1
      clear d1 hc1 ha hb1 hB1 hzl
      obtain ⟨at_, se, sq, st, av, an, ac, abs⟩ := a
      rw [Nat.add_zero] at x0
      simp only [El.row, List.getElem?_cons_zero, List.getElem?_cons_succ] at x0 x1 x2 x3 x4
      unfold El.val at HPUT
      simp only [El.row] at HPUT HB1
      go_wp2_with fail
      refine HPUT.out.mono ?_
      rintro e w2 ⟨v', rfl, h1, h2, h3⟩
      have HV := Lib.hid (And.intro h1 (And.intro h2 h3))
      clear h1 h2 h3 x0 x1 x2 x3 x4 HPUT
      go_wp2_with fail
      go_roundw
      case rel =>
        obtain ⟨r1, r2, r3⟩ := HV.out
        refine ⟨k + 1, _, by omega, by go_num, Lib.hid ⟨r1, ?_, sink_srt rfl hh.out.srt, ?_⟩⟩
        · refine (sink_perm _ _ _ _).trans ?_
          rw [List.take_add_one, HA.out]
          exact hh.out.perm.append_right _
        · exact HB1.out.grown r2 HB1.out.size (ownsRow_base hh.out.row)
      case measure => simp [intOf]; omega
    · have hkn : k = n := by omega
      have hki : ¬ (k : Int) < (n : Int) := by omega
      have hp := hh.out.perm
      rw [hkn, List.take_of_length_le (by have := HN.out; omega)] at hp
      have HK := Lib.hid hp
      clear hp hkn
      obtain ⟨A', c', hu⟩ := hh.out.row.slice
      subst hu
      go_wp2_with fail
      go_ret
      exact ⟨_, rfl, zs, hh.out.row, HK.out, hh.out.srt, hh.out.bel⟩
end Go.Proofs.Ytebacmmfjadalaa

namespace Go.Proofs.Ytebacmmfjadalaa
open Go Go.RowKit Go.WideShapes

/-- a timed reading of bits, as it lies in memory -/
structure In where
  at_ : Int
  se : Int
  sq : Int
  st : Int
  v : Option Addr
  n : Nat
  c : Nat
  us : List Int
def In.row (e : In) : List Value := [.int .i64 e.at_, .int .i64 e.se, .int .u32 e.sq, .int .u32 e.st, .slice e.v e.n e.c]
def In.key (e : In) : List Int := e.at_ :: e.se :: e.sq :: e.st :: (e.n : Int) :: (e.us.map Int.toNat).map keyN
/-- its bits lie in memory -/
structure InOk (w : World) (e : In) : Prop where
  len : e.us.length = e.n
  at_ : ∀ i, i < e.n → ∃ b off, e.v = some ⟨b, off, none⟩ ∧ b < w.heap.size ∧ w.cell? ⟨b, off + i, none⟩ = some (.int .u64 (e.us.getD i 0))
  lt : Lt64 (e.us.map Int.toNat)
  big : e.n * 8 ≤ 140737488355328
  w32 : (0 ≤ e.sq ∧ e.sq ≤ 4294967295) ∧ 0 ≤ e.st ∧ e.st ≤ 4294967295
theorem InOk.below {w w' : World} {e : In} (h : InOk w e) (hb : Below w.heap.size w w') : InOk w' e :=
  ⟨h.len, fun i hi => by
    obtain ⟨b, off, h1, h2, h3⟩ := h.at_ i hi
    exact ⟨b, off, h1, Nat.lt_of_lt_of_le h2 hb.size, (hb.cell (p := ⟨b, off + i, none⟩) h2).trans h3⟩, h.lt, h.big, h.w32⟩
def InAt (w : World) (v : Value) (xs : List In) : Prop := ∃ A c, v = .slice A xs.length c ∧ (xs = [] ∨ ∃ b off, A = some ⟨b, off, none⟩ ∧ b < w.heap.size ∧ ∀ i e, xs[i]? = some e → ∀ j, j < 5 → w.cell? ⟨b, off + i * 5 + j, none⟩ = e.row[j]?)
theorem InAt.below {w w' : World} {v : Value} {xs : List In} (h : InAt w v xs) (hb : Below w.heap.size w w') : InAt w' v xs := by
  obtain ⟨A, c, h1, h2⟩ := h
  refine ⟨A, c, h1, h2.imp id ?_⟩
  rintro ⟨b, off, h3, h4, h5⟩
  exact ⟨b, off, h3, Nat.lt_of_lt_of_le h4 hb.size, fun i e he j hj => (hb.cell (p := ⟨b, off + i * 5 + j, none⟩) h4).trans (h5 i e he j hj)⟩
theorem get_someI {xs : List In} {i : Nat} (h : i < xs.length) : ∃ a, xs[i]? = some a := ⟨xs[i], List.getElem?_eq_getElem h⟩
structure TmSt (w wr : World) (ov : Value) (zs : List El) (ks : List (List Int)) : Prop where
  row : Row w.heap.size wr ov zs
  keys : zs.map El.key = ks
  ok : ∀ e ∈ zs, ElOk wr e ∧ W32 e ∧ Away e ov.ownBlock ∧ Fresh w.heap.size e
  bel : Below w.heap.size w wr

set_option maxRecDepth 8000 in
set_option maxHeartbeats 8000000 in
theorem timed_any (v : Value) (xs : List In) (w : World) (hx : InAt w v xs) (hok : ∀ e ∈ xs, InOk w e) (hlen : xs.length ≤ 1099511627776) :
    Calls Try.prog 8 #[v] w fun e w' => ∃ v' ys, e = .returned v' ∧ Hid (TmSt w w' v' ys (xs.map In.key)) := by
  have HX := Lib.hid (And.intro hx hok)
  obtain ⟨A, c, rfl, hxx⟩ := hx
  obtain ⟨n, hn⟩ : ∃ n, xs.length = n := ⟨_, rfl⟩
  have HN := Lib.hid hn
  rw [hn] at hlen ⊢
  have HXX := Lib.hid hxx
  clear hxx hok hn
  go_enter Try.func8, Try.ntmps8
  go_wp2_with fail
  go_loopw [3, 8] (fun ov iv wr => ∃ (k : Nat) (zs : List El), k ≤ n ∧ iv = .int .i64 (k : Int) ∧ Hid (TmSt w wr ov zs ((xs.take k).map In.key))) (fun _ iv _ => n - (intOf iv).toNat)
  case atStart => exact ⟨0, [], by omega, rfl, Lib.hid ⟨World.ownsRow_nil _ _ _ _, rfl, fun e he => by simp at he, Below.refl _ _⟩⟩
  case round =>
    obtain ⟨k, zs, hk, rfl, hh⟩ := hrel
    by_cases hlt : k < n
    · obtain ⟨a, ha⟩ := get_someI (xs := xs) (i := k) (by have := HN.out; omega)
      rcases HXX.out with h0 | ⟨g1, o1, rfl, q1, hc1⟩
      · rw [h0] at ha; simp at ha
      have oa := (HX.out.2 a (List.mem_of_getElem? ha)).below hh.out.bel
      have d1 := fun j hj => (hh.out.bel.cell (p := ⟨g1, o1 + k * 5 + j, none⟩) q1).trans (hc1 k a ha j hj)
      have x0 := d1 0 (by omega)
      have x1 := d1 1 (by omega)
      have x2 := d1 2 (by omega)
      have x3 := d1 3 (by omega)
      have x4 := d1 4 (by omega)
      have HA := Lib.hid (And.intro ha oa)
      have hki : (k : Int) < (n : Int) := by omega
      have hk0 : (0 : Int) ≤ (k : Int) := by omega
      have hzl : zs.length ≤ 1099511627776 := by
        have h := congrArg List.length hh.out.keys
        simp only [List.length_map, List.length_take] at h
        omega
      clear d1 hc1 ha oa
      obtain ⟨at_, se, sq, st, av, an, ac, us⟩ := a
      rw [Nat.add_zero] at x0
      simp only [In.row, List.getElem?_cons_zero, List.getElem?_cons_succ] at x0 x1 x2 x3 x4
      have HOF := Lib.hid (fun W (hW : Below wr.heap.size wr W) => of_fl se sq st av an ac us W (HA.out.2.below hW).len (HA.out.2.below hW).at_ HA.out.2.big)
      have HB1 := Lib.hid ((Below.refl wr.heap.size wr).alloc (Nat.le_refl _) (.cells #[.int .i64 at_, .int .i64 se, .int .u32 sq, .int .u32 st, .slice av an ac] 68))
      go_wp2_with fail
      clear x0 x1 x2 x3 x4
      have y0 : (wr.alloc (.cells #[.int .i64 at_, .int .i64 se, .int .u32 sq, .int .u32 st, .slice av an ac] 68)).cell? ⟨wr.heap.size, 0, none⟩ = some (.int .i64 at_) := by simp [go_sem]
      have y1 : (wr.alloc (.cells #[.int .i64 at_, .int .i64 se, .int .u32 sq, .int .u32 st, .slice av an ac] 68)).cell? ⟨wr.heap.size, 1, none⟩ = some (.int .i64 se) := by simp [go_sem]
      have y2 : (wr.alloc (.cells #[.int .i64 at_, .int .i64 se, .int .u32 sq, .int .u32 st, .slice av an ac] 68)).cell? ⟨wr.heap.size, 2, none⟩ = some (.int .u32 sq) := by simp [go_sem]
      have y3 : (wr.alloc (.cells #[.int .i64 at_, .int .i64 se, .int .u32 sq, .int .u32 st, .slice av an ac] 68)).cell? ⟨wr.heap.size, 3, none⟩ = some (.int .u32 st) := by simp [go_sem]
      have y4 : (wr.alloc (.cells #[.int .i64 at_, .int .i64 se, .int .u32 sq, .int .u32 st, .slice av an ac] 68)).cell? ⟨wr.heap.size, 4, none⟩ = some (.slice av an ac) := by simp [go_sem]
      have hvo : u3.ownBlock ≠ some wr.heap.size := hh.out.row.old
      have hs1 : wr.heap.size < (wr.alloc (.cells #[.int .i64 at_, .int .i64 se, .int .u32 sq, .int .u32 st, .slice av an ac] 68)).heap.size := by simp
      generalize wr.alloc (.cells #[.int .i64 at_, .int .i64 se, .int .u32 sq, .int .u32 st, .slice av an ac] 68) = W1 at *
      generalize hbx : wr.heap.size = bx at *
      have HBX := Lib.hid hbx
      have HVO := Lib.hid hvo
      clear hbx hvo
      have HAP := Lib.hid (fun w2 B kc (h2 : Below W1.drew.heap.size W1.drew w2) => hh.out.row.below (w' := w2.alloc (.cells #[.int .i64 at_, .int .i64 se, .int .u32 sq, .int .u32 st, .slice B an kc] 32)) (by
        rw [HBX.out]
        exact HB1.out.drew.trans ((h2.mono (Nat.le_of_lt hs1)).trans (((Below.refl w2.heap.size w2).alloc (Nat.le_refl _) _).mono (Nat.le_trans (Nat.le_of_lt hs1) h2.size)))))
      have HSZ := Lib.hid (fun w2 B kc (h2 : Below W1.drew.heap.size W1.drew w2) => (show w.heap.size ≤ (w2.alloc (.cells #[.int .i64 at_, .int .i64 se, .int .u32 sq, .int .u32 st, .slice B an kc] 32)).heap.size from by
        have e1 := hh.out.bel.size
        have e2 : W1.heap.size ≤ w2.heap.size := h2.size
        have := HBX.out
        simp
        omega))
      go_region_held3 (fun w' => w'.cell? ⟨bx, 0, none⟩ = some (.int .i64 at_) ∧ w'.cell? ⟨bx, 1, none⟩ = some (.int .i64 se) ∧ w'.cell? ⟨bx, 2, none⟩ = some (.int .u32 sq) ∧ w'.cell? ⟨bx, 3, none⟩ = some (.int .u32 st) ∧ w'.cell? ⟨bx, 4, none⟩ = some (.slice av an ac))
        (first | exact ⟨y0, y1, y2, y3, y4⟩ | exact ⟨(hk2 0).trans y0, (hk2 1).trans y1, (hk2 2).trans y2, (hk2 3).trans y3, (hk2 4).trans y4⟩ | exact ⟨(hk3 0).trans y0, (hk3 1).trans y1, (hk3 2).trans y2, (hk3 3).trans y3, (hk3 4).trans y4⟩ | exact ⟨(hk4 0).trans y0, (hk4 1).trans y1, (hk4 2).trans y2, (hk4 3).trans y3, (hk4 4).trans y4⟩)
        (first | (go_at_call 16; refine (HOF.out _ HB1.out.drew).mono ?_; rintro e w2 ⟨⟨B, kc, rfl, hf, hnw⟩, hb2⟩; have HB2 := Lib.hid (And.intro hb2 (And.intro hf hnw)); clear hb2 hf hnw; have hk2 : ∀ i, w2.cell? ⟨bx, i, none⟩ = W1.cell? ⟨bx, i, none⟩ := (fun i => HB2.out.1.cell (p := ⟨bx, i, none⟩) hs1); have hk3 : ∀ i, (w2.alloc (.cells #[.int .i64 at_, .int .i64 se, .int .u32 sq, .int .u32 st, .slice B an kc] 32)).cell? ⟨bx, i, none⟩ = W1.cell? ⟨bx, i, none⟩ := (fun i => (((Below.refl w2.heap.size w2).alloc (Nat.le_refl _) _).cell (p := ⟨bx, i, none⟩) (Nat.lt_of_lt_of_le hs1 HB2.out.1.size)).trans (hk2 i))) | (refine step_append_el rfl _ _ 24 (by rfl) Try.underlying24 u3 zs ⟨at_, se, sq, st, B, an, kc, us.map Int.toNat⟩ (by rfl) (HAP.out w2 B kc HB2.out.1) (HSZ.out w2 B kc HB2.out.1) hzl ⟨w2.heap.size, 0, none⟩ 1 (by rfl) (row_new' w2 _ _ _ _ _ _ _ _) ?_; intro v1 w3 hr1 hg1 ha1; have HR1 := Lib.hid (And.intro hr1 (And.intro hg1 ha1)); clear hr1 hg1 ha1; have hk4 : ∀ i, w3.cell? ⟨bx, i, none⟩ = W1.cell? ⟨bx, i, none⟩ := (fun i => (World.cell?_of_block (HR1.out.2.1.block bx (by have := HB2.out.1.size; have : W1.heap.size ≤ w2.heap.size := this; simp; omega) (fun e => HVO.out e.symm))).trans (hk3 i))))
      go_wp2_with fail
      go_roundw
      case rel =>
        obtain ⟨r1, r2, r3⟩ := HR1.out
        have hb2 := HB2.out.1
        have hsz1 : W1.heap.size ≤ w2.heap.size := hb2.size
        have hbx := HBX.out
        have hB3 : Below wr.heap.size wr (w2.alloc (.cells #[.int .i64 at_, .int .i64 se, .int .u32 sq, .int .u32 st, .slice B an kc] 32)) := by
          rw [hbx]
          exact HB1.out.drew.trans ((hb2.mono (Nat.le_of_lt hs1)).trans (((Below.refl w2.heap.size w2).alloc (Nat.le_refl _) _).mono (by omega)))
        refine ⟨k + 1, zs ++ [⟨at_, se, sq, st, B, an, kc, us.map Int.toNat⟩], by omega, by go_num, Lib.hid ⟨r1, ?_, fun e he => ?_, ?_⟩⟩
        · rw [List.map_append, hh.out.keys, List.take_add_one, HA.out.1, List.map_append]
          rfl
        · rcases List.mem_append.1 he with he | he
          · obtain ⟨o1, o4, o2, o3⟩ := hh.out.ok e he
            obtain ⟨p1, p2⟩ := row_grown_away (o1.below hB3) o2 r2 r3
            exact ⟨p1, o4, p2, o3⟩
          · rw [List.mem_singleton.1 he]
            have hnew : ∀ b f, B = some ⟨b, f, none⟩ → bx ≤ b := fun b f hv => by
              rcases HB2.out.2.2 with h | ⟨b', h, h', -⟩
              · rw [h] at hv; cases hv
              · rw [h] at hv
                injection hv with hv
                injection hv with hv
                subst hv
                have : W1.heap.size ≤ b' := h'
                omega
            have hw2 : ElOk (w2.alloc (.cells #[.int .i64 at_, .int .i64 se, .int .u32 sq, .int .u32 st, .slice B an kc] 32)) ⟨at_, se, sq, st, B, an, kc, us.map Int.toNat⟩ :=
              ElOk.below ⟨HB2.out.2.1, HA.out.2.lt, HA.out.2.big⟩ ((Below.refl _ _).alloc (Nat.le_refl _) _)
            have haw : Away (⟨at_, se, sq, st, B, an, kc, us.map Int.toNat⟩ : El) u3.ownBlock := fun b f hv hq => by
              have h1 := hnew b f hv
              have h2 := hh.out.row
              rcases h2.2 with ⟨h3, -⟩ | ⟨g, cap, cur, h3, h4, h5, -⟩
              · rw [h3] at hq; simp [Value.ownBlock] at hq
              · rw [h3] at hq
                simp only [Value.ownBlock] at hq
                injection hq with hq
                have := (Array.getElem?_eq_some_iff.1 h5).1
                omega
            obtain ⟨p1, p2⟩ := row_grown_away hw2 haw r2 r3
            exact ⟨p1, HA.out.2.w32, p2, fun b f hv => by
              have h1 := hnew b f hv
              have h2 := hh.out.bel.size
              omega⟩
        · exact (hh.out.bel.trans (hB3.mono hh.out.bel.size)).grown r2 (HSZ.out w2 B kc HB2.out.1) (ownsRow_base hh.out.row)
      case measure => simp [intOf]; omega
    · have hkn : k = n := by omega
      have hki : ¬ (k : Int) < (n : Int) := by omega
      have HK := Lib.hid (by
        have h := hh.out
        rw [hkn, List.take_of_length_le (by have := HN.out; omega)] at h
        exact h)
      clear hkn
      obtain ⟨A', c', hu⟩ := hh.out.row.slice
      subst hu
      go_wp2_with fail
      go_ret
      exact ⟨_, rfl, zs, HK⟩
end Go.Proofs.Ytebacmmfjadalaa

namespace Go.Proofs.Ytebacmmfjadalaa
open Go Go.RowKit Go.WideShapes

theorem keys_unique {xs ys : List El} (hx : xs.Pairwise (Le cmpK)) (hy : ys.Pairwise (Le cmpK)) (hp : (xs.map El.key).Perm (ys.map El.key)) : xs.map El.key = ys.map El.key := by
  refine List.Perm.eq_of_pairwise (le := fun a b : List Int => ¬ lexL b a < 0) (fun a b _ _ h1 h2 => ?_) ?_ ?_ hp
  · have := lexL_neg a b
    exact lexL_eq a b (by omega)
  · rw [List.pairwise_map]
    exact hx
  · rw [List.pairwise_map]
    exact hy

set_option maxRecDepth 8000 in
set_option maxHeartbeats 8000000 in
theorem orders_walk (v : Value) (xs : List In) (w : World) (hx : InAt w v xs) (hok : ∀ e ∈ xs, InOk w e) :
    Calls Try.prog 3 #[v] w fun e w' => e = .returned (.bool true) ∧ Below w.heap.size w w' := by
  have HX := Lib.hid (And.intro hx hok)
  obtain ⟨A, c, hv, -⟩ := hx
  obtain ⟨n, hn⟩ : ∃ n, xs.length = n := ⟨_, rfl⟩
  have HN := Lib.hid hn
  rw [hn] at hv
  subst hv
  clear hok hn
  by_cases h300 : 300 < n
  · have h3 : (300 : Int) < (n : Int) := by omega
    go_enter Try.func3, Try.ntmps3
    go_wp2_with fail
    refine (awake_join w).mono ?_
    rintro e w1 ⟨rfl, hb⟩
    go_wp2_with fail
    go_ret
    exact ⟨rfl, hb⟩
  · have h3 : ¬ (300 : Int) < (n : Int) := by omega
    go_enter Try.func3, Try.ntmps3
    go_wp2_with fail
    refine (timed_any _ xs w HX.out.1 HX.out.2 (by have := HN.out; omega)).mono ?_
    rintro e w1 ⟨va, es, rfl, hT⟩
    have hel : es.length = n := by
      have h := congrArg List.length hT.out.keys
      simp only [List.length_map] at h
      rw [h]; exact HN.out
    have HEL := Lib.hid hel
    obtain ⟨A1, c1, hva⟩ := hT.out.row.slice
    rw [hel] at hva
    subst hva
    clear hel
    go_wp2_with fail
    go_loopw [14] (fun iv wr => ∃ i : Nat, i ≤ n ∧ iv = .int .i64 (i : Int) ∧ Hid (Below w1.heap.size w1 wr)) (fun iv _ => n - (intOf iv).toNat)
    case atStart => exact ⟨0, by omega, rfl, Lib.hid (Below.refl _ _)⟩
    case round =>
      obtain ⟨i, hi, rfl, hh⟩ := hrel
      by_cases hin : i < n
      · have hin' : (i : Int) < (n : Int) := by omega
        go_wp2_with fail
        obtain ⟨wo, rfl⟩ : ∃ wo : World, wo = wr := ⟨_, rfl⟩
        go_loopw [5] (fun jv wr => ∃ j : Nat, j ≤ i ∧ j ≤ 12 ∧ jv = .int .i64 (j : Int) ∧ Hid (Below w1.heap.size w1 wr)) (fun jv _ => i - (intOf jv).toNat)
        case atStart => exact ⟨0, by omega, by omega, rfl, hh⟩
        case round =>
          clear hh
          obtain ⟨j, hji, hj12, rfl, hh⟩ := hrel
          by_cases hj : j < i
          · have d1 : decide (j < i) = true := by simpa using hj
            by_cases hj2 : j < 12
            · have d2 : decide ((j : Int) < 12) = true := by simp; omega
              have d3 : (j : Int) < 12 := by omega
              obtain ⟨x, hxx⟩ := get_some (xs := es) (i := i) (by have := HEL.out; omega)
              obtain ⟨y, hyy⟩ := get_some (xs := es) (i := j) (by have := HEL.out; omega)
              have hox := hT.out.ok x (List.mem_of_getElem? hxx)
              have hoy := hT.out.ok y (List.mem_of_getElem? hyy)
              have hX := hox.1.below hh.out
              have hY := hoy.1.below hh.out
              have HC1 := Lib.hid (fun W (hW : Below wr.heap.size wr W) => order_any x y W (hX.below hW) (hY.below hW))
              have HC2 := Lib.hid (fun W (hW : Below wr.heap.size wr W) => order_any y x W (hY.below hW) (hX.below hW))
              have HC3 := Lib.hid (fun W (hW : Below wr.heap.size wr W) => rorder_any x y W (hX.below hW) (hY.below hW) hox.2.1.1 hoy.2.1.1 hox.2.1.2 hoy.2.1.2)
              have HC4 := Lib.hid (fun W (hW : Below wr.heap.size wr W) => rorder_any y x W (hY.below hW) (hX.below hW) hoy.2.1.1 hox.2.1.1 hoy.2.1.2 hox.2.1.2)
              obtain ⟨z, hz⟩ : ∃ z, cmpK x y = z := ⟨_, rfl⟩
              obtain ⟨u, hu⟩ : ∃ u, cmpK y x = u := ⟨_, rfl⟩
              rw [hz] at HC1 HC3
              rw [hu] at HC2 HC4
              have hpos : 0 < es.length := by have := HEL.out; omega
              obtain ⟨g, cap, hg, -, hpl⟩ := hT.out.row.pl hpos
              have hpr := hpl.below hh.out
              have hglt := hpr.lt
              injection hg with hg1 hg2 hg3
              subst hg1 hg3
              obtain ⟨a0, a1, a2, a3, a4⟩ := hpr.cells hxx
              obtain ⟨b0, b1, b2, b3, b4⟩ := hpr.cells hyy
              clear hox hoy hX hY hz hu hpl hpr hxx hyy hg2 hpos
              unfold El.val at HC1 HC2 HC3 HC4
              obtain ⟨at_, se, sq, st, v, vn, vc, vb⟩ := x
              obtain ⟨at2, se2, sq2, st2, v2, vn2, vc2, vb2⟩ := y
              simp only at a0 a1 a2 a3 a4 b0 b1 b2 b3 b4 HC1 HC2 HC3 HC4
              have hj0 : (0 : Int) ≤ (j : Int) := by omega
              have hi0 : (0 : Int) ≤ (i : Int) := by omega
              have hj1 : (j : Int) < (n : Int) := by omega
              go_wp2_with fail
              have hcur : Below wr.heap.size wr wr.drew := (Below.refl _ _).drew
              go_region_held3 (fun w' => w'.cell? ⟨g, i * 5, none⟩ = some (.int .i64 at_) ∧ w'.cell? ⟨g, i * 5 + 1, none⟩ = some (.int .i64 se) ∧ w'.cell? ⟨g, i * 5 + 2, none⟩ = some (.int .u32 sq) ∧ w'.cell? ⟨g, i * 5 + 3, none⟩ = some (.int .u32 st) ∧ w'.cell? ⟨g, i * 5 + 4, none⟩ = some (.slice v vn vc) ∧ w'.cell? ⟨g, j * 5, none⟩ = some (.int .i64 at2) ∧ w'.cell? ⟨g, j * 5 + 1, none⟩ = some (.int .i64 se2) ∧ w'.cell? ⟨g, j * 5 + 2, none⟩ = some (.int .u32 sq2) ∧ w'.cell? ⟨g, j * 5 + 3, none⟩ = some (.int .u32 st2) ∧ w'.cell? ⟨g, j * 5 + 4, none⟩ = some (.slice v2 vn2 vc2))
                (first | exact ⟨(hcur.cell (by exact hglt)).trans a0, (hcur.cell (by exact hglt)).trans a1, (hcur.cell (by exact hglt)).trans a2, (hcur.cell (by exact hglt)).trans a3, (hcur.cell (by exact hglt)).trans a4, (hcur.cell (by exact hglt)).trans b0, (hcur.cell (by exact hglt)).trans b1, (hcur.cell (by exact hglt)).trans b2, (hcur.cell (by exact hglt)).trans b3, (hcur.cell (by exact hglt)).trans b4⟩)
                (first | (go_at_call 9; ((with_reducible refine (HC1.out _ hcur).mono ?_); rintro e w6 ⟨rfl, hb6⟩; replace hcur := back_of hcur hb6; clear hb6)) | (go_at_call 9; ((with_reducible refine (HC2.out _ hcur).mono ?_); rintro e w6 ⟨rfl, hb6⟩; replace hcur := back_of hcur hb6; clear hb6)) | (go_at_call 10; ((with_reducible refine (HC3.out _ hcur).mono ?_); rintro e w6 ⟨rfl, hb6⟩; replace hcur := back_of hcur hb6; clear hb6)) | (go_at_call 10; ((with_reducible refine (HC4.out _ hcur).mono ?_); rintro e w6 ⟨rfl, hb6⟩; replace hcur := back_of hcur hb6; clear hb6)))
              have HCU := Lib.hid (back_of hh.out hcur)
              clear hcur a0 a1 a2 a3 a4 b0 b1 b2 b3 b4 HC1 HC2 HC3 HC4
              go_wp2_with fail
              go_roundw
              case rel => exact ⟨j + 1, by omega, by omega, by go_num, HCU⟩
              case measure => simp [intOf]; omega
            · have d2 : decide ((j : Int) < 12) = false := by simp; omega
              have d3 : ¬ (j : Int) < 12 := by omega
              go_wp2_with fail
              go_roundw
              case rel => exact ⟨i + 1, by omega, by go_num, hh⟩
              case measure => simp [intOf]; omega
          · have d1 : decide (j < i) = false := by simpa using hj
            go_wp2_with fail
            go_roundw
            case rel => exact ⟨i + 1, by omega, by go_num, hh⟩
            case measure => simp [intOf]; omega
      · have hin' : ¬ (i : Int) < (n : Int) := by omega
        have hb1 := hT.out.bel.trans (hh.out.mono hT.out.bel.size)
        have HB1 := Lib.hid hb1
        have HXW := Lib.hid (And.intro (HX.out.1.below hb1) (fun e he => (HX.out.2 e he).below hb1))
        clear hb1
        go_wp2_with fail
        refine (timed_any _ xs wr HXW.out.1 HXW.out.2 (by have := HN.out; omega)).mono ?_
        rintro e w2 ⟨vb, fs, rfl, hU⟩
        have hfl : fs.length = n := by
          have h := congrArg List.length hU.out.keys
          simp only [List.length_map] at h
          rw [h]; exact HN.out
        have HFL := Lib.hid hfl
        clear hfl
        go_wp2_with fail
        refine (plist_any vb fs w2 hU.out.row.tl (fun e he => (hU.out.ok e he).1) (by have := HFL.out; omega)).mono ?_
        rintro e w3 ⟨vc, ys, rfl, hr3, hp3, hs3, ho3, hb3⟩
        have H3 := Lib.hid (And.intro (And.intro hr3 hp3) (And.intro hs3 (And.intro ho3 hb3)))
        clear hr3 hp3 hs3 ho3 hb3
        have hw13 : Below w1.heap.size w1 w3 := hh.out.trans ((hU.out.bel.trans (H3.out.2.2.2.mono hU.out.bel.size)).mono hh.out.size)
        have HW13 := Lib.hid hw13
        clear hw13
        go_wp2_with fail
        refine (rlist_any _ es w3 (by have h := (hT.out.row.below HW13.out).tl; exact h) (fun e he => ⟨(hT.out.ok e he).1.below HW13.out, (hT.out.ok e he).2.1⟩) (by have := HEL.out; omega)).mono ?_
        rintro e w4 ⟨vd, zs, rfl, hr4, hp4, hs4, hb4⟩
        have H4 := Lib.hid (And.intro (And.intro hr4 hp4) (And.intro hs4 hb4))
        clear hr4 hp4 hs4 hb4
        have hkk : ys.map El.key = zs.map El.key := keys_unique H3.out.2.1 H4.out.2.1 (by
          refine H3.out.1.2.trans ?_
          rw [hU.out.keys, ← hT.out.keys]
          exact (H4.out.1.2.map _).symm)
        have HKK := Lib.hid hkk
        clear hkk
        have HS := Lib.hid (tsame_any vc vd ys zs w4 (H3.out.1.1.below H4.out.2.2).tl H4.out.1.1.tl (fun e he => (H3.out.2.2.1 e he).1.below H4.out.2.2) (fun e he => (((hT.out.ok e (H4.out.1.2.mem_iff.1 he)).1.below HW13.out).below H4.out.2.2)) (by
          have h := H3.out.1.2.length_eq
          simp only [List.length_map] at h
          have := HFL.out
          omega))
        rw [decide_eq_true HKK.out] at HS
        go_wp2_with fail
        refine HS.out.mono ?_
        rintro e w5 ⟨rfl, hb5⟩
        have HB5 := Lib.hid hb5
        clear hb5 HS
        go_wp2_with fail
        refine (awake_join w5).mono ?_
        rintro e w6 ⟨rfl, hb6⟩
        go_wp2_with fail
        go_ret
        refine ⟨rfl, ?_⟩
        exact back_of (back_of (back_of (hT.out.bel.trans (HW13.out.mono hT.out.bel.size)) H4.out.2.2) HB5.out) hb6
end Go.Proofs.Ytebacmmfjadalaa

namespace Go.Proofs.Ytebacmmfjadalaa
open Go Go.RowKit Go.ChangeShapes Go.WideShapes Go.Deep

theorem cell_lt {w : World} {a : Addr} {v : Value} (h : w.cell? a = some v) : a.block < w.heap.size := by
  rcases Nat.lt_or_ge a.block w.heap.size with h' | h'
  · exact h'
  · rw [World.cell?, Array.getElem?_eq_none h'] at h
    simp at h
theorem bytesU8 : Try.prog.bytesOf 81 = 8 := by kernel_rfl
theorem weights_all {H : Type} {P : Program} {e : TypeId} : ∀ {ds : List (DataW H)} {d : DataW H}, d ∈ ds → ∀ n ∈ d.weights P e, n ∈ DataW.weightsAll P e ds
  | a :: l, d, h, n, hn => by
    simp only [DataW.weightsAll, List.mem_append]
    rcases List.mem_cons.1 h with rfl | h
    · exact .inl hn
    · exact .inr (weights_all h n hn)

section
variable {H : Type} {enc : TypeId × Value → H}
/-- what a reading of bits is -/
def RdIs (W : World) (cs : List Value) (se sq st : Int) (v : Option Addr) (n c : Nat) (us : List Int) : Prop :=
  cs = [.int .i64 se, .int .u32 sq, .int .u32 st, .slice v n c] ∧ us.length = n ∧ (∀ i, i < n → ∃ b off, v = some ⟨b, off, none⟩ ∧ b < W.heap.size ∧ W.cell? ⟨b, off + i, none⟩ = some (.int .u64 (us.getD i 0))) ∧ Lt64 (us.map Int.toNat) ∧ n * 8 ≤ 140737488355328 ∧
  ((0 ≤ sq ∧ sq ≤ 4294967295) ∧ 0 ≤ st ∧ st ≤ 4294967295) ∧ -9223372036854775808 ≤ se ∧ se ≤ 9223372036854775807
set_option maxRecDepth 100000 in
theorem open_reading {W : World} {fuel : Nat} {cs : List Value} {x : DataW H × List MemPlace} (h : DataW.trod enc Try.prog W 0 (fun _ => true) true fuel 44 cs = some x)
    (hw : ∀ m ∈ x.1.weights Try.prog 44, m ≤ reachBytes) : ∃ se sq st v n c us, RdIs W cs se sq st v n c us := by
  obtain ⟨xs, n', -, hy, hlen, hyl, hfld⟩ := DataW.trod_struct Try.underlying44 h
  have hl4 : cs.length = 4 := hlen.trans (by kernel_rfl)
  match cs, hl4 with
  | [c0, c1, c2, c3], _ =>
    have hx4 : xs.length = 4 := hyl
    have g0 := hfld 0 _ rfl
    have g1 := hfld 1 _ rfl
    have g2 := hfld 2 _ rfl
    have g3 := hfld 3 _ rfl
    obtain ⟨se, e0, -, w0⟩ := DataW.trod_int Try.underlying3 (show DataW.trod enc Try.prog W 0 (fun _ => true) true _ 3 [c0] = some _ from g0.trans (List.getElem?_eq_getElem (show 0 < xs.length by omega)))
    obtain ⟨sq, e1, -, w1⟩ := DataW.trod_int Try.underlying27 (show DataW.trod enc Try.prog W 0 (fun _ => true) true _ 27 [c1] = some _ from g1.trans (List.getElem?_eq_getElem (show 1 < xs.length by omega)))
    obtain ⟨st, e2, -, w2⟩ := DataW.trod_int Try.underlying27 (show DataW.trod enc Try.prog W 0 (fun _ => true) true _ 27 [c2] = some _ from g2.trans (List.getElem?_eq_getElem (show 2 < xs.length by omega)))
    have b0 := bounds_i64 w0
    have b1 := bounds_u32 w1
    have b2 := bounds_u32 w2
    simp only [List.cons.injEq, and_true] at e0 e1 e2
    subst e0 e1 e2
    have h3 : DataW.trod enc Try.prog W 0 (fun _ => true) true n' 42 [c3] = some (xs[3]'(by omega)) := g3.trans (List.getElem?_eq_getElem (show 3 < xs.length by omega))
    rcases open_ints Try.underlying42 Try.underlying81 (by kernel_rfl) h3 with ⟨hcs, -⟩ | ⟨a, len', cap', zs, hcs, -, hl', hm, hz, hd, hcell', hwf⟩
    · simp only [List.cons.injEq, and_true] at hcs
      subst hcs
      exact ⟨se, sq, st, none, 0, 0, [], rfl, rfl, fun i hi => by omega, fun i => by simp, by omega, ⟨b1, b2⟩, b0⟩
    · simp only [List.cons.injEq, and_true] at hcs
      subst hcs
      have hz' : zs.length = cap' := by simpa using hz
      have hln : (zs.take len').length = len' := by simp; omega
      refine ⟨se, sq, st, some a, len', cap', zs.take len', rfl, hln, fun i hi => ?_, fun i => ?_, ?_, ⟨b1, b2⟩, b0⟩
      · obtain ⟨b, off, rfl, hcl⟩ := ints_at hcell' (by omega)
        refine ⟨b, off, rfl, cell_lt (a := ⟨b, off + 0, none⟩) (hcl 0 (by omega)), ?_⟩
        rw [hcl i (by omega)]
        simp [List.getD_eq_getElem?_getD, hi]
      · rw [List.getD_eq_getElem?_getD, List.getElem?_map]
        cases hg : (zs.take len')[i]? with
        | none => simp
        | some z =>
          have hmem : z ∈ zs := List.mem_of_mem_take (List.mem_of_getElem? hg)
          have := bounds_u64 (hwf z hmem)
          simp
          omega
      · have hmem : ((lits .u64 (zs.take len') : List (DataW H)).length + (lits .u64 (zs.drop len') : List (DataW H)).length) * 8 ∈ x.1.weights Try.prog 44 := by
          rw [hy]
          simp only [DataW.weights, Try.underlying44]
          refine DataW.weights_mem_each (j := 3) (t := 42) (d := (xs[3]'(by omega)).1) rfl (by rw [List.getElem?_map, List.getElem?_eq_getElem (show 3 < xs.length by omega)]; rfl) _ ?_
          rw [hd]
          simp [DataW.weights, Try.underlying42, bytesU8]
        have h1 := hw _ hmem
        have := reachBytes_lt
        simp only [lits, List.length_map, List.length_take, List.length_drop] at h1
        omega

set_option maxRecDepth 100000 in
/-- a list of timed readings of bits -/
theorem open_timeds {W : World} {r : Reach} {b0 : Nat} {v : Value} {d : DataW H} {p : List MemPlace} (hsz : (DataW.weightsEach Try.prog [22] [d]).all (· ≤ reachBytes) = true)
    (hv : Value.okWide Try.prog W r b0 22 v) (h : DataW.Trod enc Try.prog W 0 (fun _ => true) true 22 v d p) :
    ∃ xs : List In, InAt W v xs ∧ ∀ e ∈ xs, InOk W e := by
  obtain ⟨a0, len, cap, rfl⟩ := okWide_slice Try.underlying22 hv
  obtain ⟨fuel, hf⟩ := h
  rcases open_slice Try.underlying22 hf with ⟨hcs, hx⟩ | ⟨a, len', cap', m, n, D, Pl, hcs, hb, hl, hm, hmm, hx, hi⟩
  · simp only [Value.cells, List.cons.injEq, Value.slice.injEq, and_true] at hcs
    obtain ⟨rfl, rfl, rfl⟩ := hcs
    exact ⟨[], ⟨none, 0, rfl, .inl rfl⟩, fun e he => by simp at he⟩
  · simp only [Value.cells, List.cons.injEq, Value.slice.injEq, and_true] at hcs
    obtain ⟨rfl, rfl, rfl⟩ := hcs
    rw [show Try.prog.cellsOf 68 = 5 by kernel_rfl] at hi
    have hmc : m = cap := by rw [hmm]; simp
    simp only [Prod.mk.injEq] at hx
    have hrow : ∀ i, i < len → ∃ e : In, InOk W e ∧ ∀ j, j < 5 → W.cell? (a.add (i * 5 + j)) = e.row[j]? := by
      intro i hi'
      obtain ⟨cs', hc, ht'⟩ := hi i (by omega)
      have hwt : ∀ k ∈ (D i).weights Try.prog 68, k ≤ reachBytes := by
        intro k hk
        have h1 : k ∈ DataW.weightsEach Try.prog [22] [d] := by
          refine DataW.weights_mem_each (j := 0) rfl rfl k ?_
          rw [hx.1]
          simp only [DataW.weights, Try.underlying22, List.mem_cons, List.mem_append]
          right; left
          exact weights_all (List.mem_map.2 ⟨i, List.mem_range.2 hi', rfl⟩) k hk
        simpa using List.all_eq_true.1 hsz k h1
      obtain ⟨ys, n', -, hy, hlen, hyl, hfld⟩ := DataW.trod_struct Try.underlying68 ht'
      obtain ⟨_, hcl, hat⟩ := World.cells?_some hc
      match cs', hcl with
      | [c0, c1, c2, c3, c4], _ =>
        have hy2 : ys.length = 2 := hyl
        have g0 := hfld 0 _ rfl
        have g1 := hfld 1 _ rfl
        obtain ⟨at_, e0, -, -⟩ := DataW.trod_int Try.underlying2 (show DataW.trod enc Try.prog W 0 (fun _ => true) true _ 2 [c0] = some _ from g0.trans (List.getElem?_eq_getElem (show 0 < ys.length by omega)))
        have h1 : DataW.trod enc Try.prog W 0 (fun _ => true) true n' 44 [c1, c2, c3, c4] = some (ys[1]'(by omega)) := g1.trans (List.getElem?_eq_getElem (show 1 < ys.length by omega))
        obtain ⟨se, sq, st, v, k, c, us, r1, r2, r3, r4, r5, r6, -⟩ := open_reading h1 (fun k hk => hwt k (by
          simp only [Prod.ext_iff] at hy
          rw [hy.1]
          simp only [DataW.weights, Try.underlying68]
          exact DataW.weights_mem_each (j := 1) (t := 44) (d := (ys[1]'(by omega)).1) rfl (by rw [List.getElem?_map, List.getElem?_eq_getElem (show 1 < ys.length by omega)]; rfl) k hk))
        simp only [List.cons.injEq, and_true] at e0 r1
        obtain ⟨rfl, rfl, rfl, rfl⟩ := r1
        subst e0
        refine ⟨⟨at_, se, sq, st, v, k, c, us⟩, ⟨r2, r3, r4, r5, r6⟩, fun j hj => ?_⟩
        have := hat j hj
        rw [Go.Deep.add_add] at this
        rw [this]
        rfl
    have hsk : ∀ i, ∃ e : In, i < len → InOk W e ∧ ∀ j, j < 5 → W.cell? (a.add (i * 5 + j)) = e.row[j]? := by
      intro i
      by_cases hi' : i < len
      · obtain ⟨e, he⟩ := hrow i hi'
        exact ⟨e, fun _ => he⟩
      · exact ⟨⟨0, 0, 0, 0, none, 0, 0, []⟩, fun h => absurd h hi'⟩
    obtain ⟨f, hf'⟩ := Classical.axiomOfChoice hsk
    have hlf : ((List.range len).map f).length = len := by simp
    refine ⟨(List.range len).map f, ⟨some a, cap, by rw [hlf], ?_⟩, fun e he => ?_⟩
    · rcases Nat.eq_zero_or_pos len with h0 | h0
      · subst h0
        exact .inl rfl
      · right
        obtain ⟨b, off, spot⟩ := a
        have hspot : spot = none := by simpa [Addr.add] using World.cell?_spot ((hf' 0 h0).2 0 (by omega))
        subst hspot
        refine ⟨b, off, rfl, ?_, fun i e he j hj => ?_⟩
        · exact cell_lt (a := ⟨b, off, none⟩) (by have := (hf' 0 h0).2 0 (by omega); rw [add_plain] at this; exact this)
        · rw [List.getElem?_map] at he
          have hi' : i < len := by
            rcases Nat.lt_or_ge i len with h | h
            · exact h
            · rw [List.getElem?_eq_none (by simp; omega)] at he; simp at he
          rw [List.getElem?_range hi'] at he
          simp only [Option.map_some, Option.some.injEq] at he
          subst he
          have := (hf' i hi').2 j hj
          rw [add_plain] at this
          rw [Nat.add_assoc]
          exact this
    · obtain ⟨i, hi', rfl⟩ := List.mem_map.1 he
      exact (hf' i (List.mem_range.1 hi')).1
end
end Go.Proofs.Ytebacmmfjadalaa
