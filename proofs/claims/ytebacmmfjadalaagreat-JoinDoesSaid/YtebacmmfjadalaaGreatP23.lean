/- L5 in one text. -/
import Derived.Test.YtebacmmfjadalaaGreatP22
import Derived.Deep.DeepCutAuto

namespace Go.Proofs.YtebacmmfjadalaaGreat
open Go Go.RowKit

theorem rot_id {α : Type} {xs : List α} {st m en : Nat} (h : st = m ∨ m = en) : Rot xs xs st m en := ⟨List.Perm.refl _, fun t => by
  by_cases c1 : st ≤ t ∧ t < st + (en - m)
  · rw [rotf1 (u := t) c1.1 c1.2 (by omega)]
  · by_cases c2 : st + (en - m) ≤ t ∧ t < en
    · rw [rotf2 (u := t) c2.1 c2.2 (by omega)]
    · rw [rotf3 (u := t) c1 c2 rfl]⟩
/-- what is handed on: the contract for shorter parts -/
def SymIH (g cap n d : Nat) : Prop := ∀ (a m b : Nat) (xs : List El) (w : World), b - a < d → Pl w g cap xs → xs.length = n → Oks w g xs → a < m → m < b → b ≤ n → Srt cmpK xs a m → Srt cmpK xs m b →
  Calls Tryz.prog 112 #[.slice (some ⟨g, 0, none⟩) n cap, .int .i64 a, .int .i64 m, .int .i64 b, cmpV] w (SymP g cap a b xs w)
/-- so far merged: the first part, both parts -/
structure SymS (w wx : World) (g cap n a m b mid st : Nat) (xs ys : List El) : Prop where
  pl : Pl wx g cap ys
  len : ys.length = n
  sh : Shuf xs ys a b
  gr : w.grownBy wx (some g)
  ahead : ∀ i k, a ≤ i → i < mid → mid ≤ k → k < b → LeO cmpK ys[i]? ys[k]?
  s3 : Srt cmpK ys mid (mid + m - st)
  s4 : Srt cmpK ys (mid + m - st) b

set_option maxRecDepth 100000 in
set_option maxHeartbeats 16000000 in
theorem sym_more (g cap n a m b : Nat) (xs : List El) (w : World) (hih : SymIH g cap n (b - a)) (hp : Pl w g cap xs) (hn : xs.length = n) (hok : Oks w g xs) (hm : a + 1 < m) (hmb : m + 1 < b) (hb : b ≤ n) (h63 : n ≤ 1099511627776) (h1 : Srt cmpK xs a m) (h2 : Srt cmpK xs m b) :
    Calls Tryz.prog 112 #[.slice (some ⟨g, 0, none⟩) n cap, .int .i64 a, .int .i64 m, .int .i64 b, cmpV] w (SymP g cap a b xs w) := by
  have HP := Lib.hid (And.intro hp (And.intro hn hok))
  have HM := Lib.hid (And.intro h1 h2)
  have IH := Lib.hid hih
  have hma : ((m : Int) - (a : Int) == 1) = false := by simp; omega
  have hbm : ((b : Int) - (m : Int) == 1) = false := by simp; omega
  obtain ⟨mid, hmid⟩ : ∃ mid, (a + b) / 2 = mid := ⟨_, rfl⟩
  have hmd : ((a : Int) + (b : Int)) / 2 = (mid : Int) := by omega
  have hm1 : a < mid := by omega
  have hm2 : mid < b := by omega
  have HMID := Lib.hid hmid
  clear hp hok h1 h2 hih hmid
  go_enter Tryz.func112, Tryz.ntmps112
  go_upto_if 140 with (fail)
  clear hma hbm hmd
  go_cut [20, 21] (fun s r wx => ∃ s0 r0 : Nat, s = .int .i64 (s0 : Int) ∧ r = .int .i64 (r0 : Int) ∧ Hid ((mid < m ∧ s0 = mid + m - b ∧ r0 = mid) ∨ (m ≤ mid ∧ s0 = a ∧ r0 = m)) ∧ w = wx)
  case first => as_aux_lemma =>
    by_cases c : mid < m
    · have c' : (mid : Int) < (m : Int) := by omega
      have e1 : (mid : Int) + (m : Int) - (b : Int) = ((mid + m - b : Nat) : Int) := by have := HMID.out; omega
      go_wp2_with fail
      go_meet
      exact ⟨mid + m - b, mid, by rw [← e1], rfl, Lib.hid (.inl ⟨c, rfl, rfl⟩), rfl⟩
    · have c' : ¬ (mid : Int) < (m : Int) := by omega
      go_wp2_with fail
      go_meet
      exact ⟨a, m, rfl, rfl, Lib.hid (.inr ⟨by omega, rfl, rfl⟩), rfl⟩
  case rest => as_aux_lemma =>
    obtain ⟨s0, r0, rfl, rfl, h0, rfl⟩ := hcut
    have hsr : s0 ≤ r0 ∧ r0 ≤ mid ∧ r0 ≤ m ∧ a ≤ s0 ∧ mid + m - s0 ≤ b := by
      have := h0.out
      have := HMID.out
      omega
    obtain ⟨sr1, sr2, sr3, sr4, sr5⟩ := hsr
    go_wp2_with fail
    go_loopw [20, 21] (fun sv rv wr => ∃ (s r : Nat), sv = .int .i64 (s : Int) ∧ rv = .int .i64 (r : Int) ∧ Hid (Bs cmpK xs (mid + m - 1) s0 r0 s r ∧ Below w.heap.size w wr)) (fun sv rv _ => (intOf rv).toNat - (intOf sv).toNat)
    case atStart => exact ⟨s0, r0, rfl, rfl, Lib.hid ⟨⟨Nat.le_refl _, by omega, Nat.le_refl _, fun h => by omega, fun h => by omega⟩, Below.refl _ _⟩⟩
    case round =>
      obtain ⟨i, j, rfl, rfl, hh⟩ := hrel
      have q1 := hh.out.1.l
      have q2 := hh.out.1.h
      have q3 := hh.out.1.u
      by_cases hij : i < j
      · obtain ⟨h, hhh⟩ : ∃ h, (i + j) / 2 = h := ⟨_, rfl⟩
        have hd : ((i : Int) + (j : Int)) / 2 = (h : Int) := by omega
        have hih : i ≤ h := by omega
        have hhj : h < j := by omega
        clear hhh
        have hi0 : (0 : Int) ≤ (i : Int) := by omega
        have hij' : (i : Int) < (j : Int) := by omega
        obtain ⟨pc, hpc⟩ : ∃ pc, mid + m - 1 - h = pc := ⟨_, rfl⟩
        have hk1 : (h : Int) < (n : Int) := by omega
        have hk2 : (pc : Int) < (n : Int) := by omega
        have hw : IntKind.i64.wrap ((mid : Int) + (m : Int) - 1 - (h : Int)) = (pc : Int) := by rw [IntWalk.i64_in _ (by omega)]; omega
        obtain ⟨x, hx⟩ := get_some (xs := xs) (i := pc) (by omega)
        obtain ⟨y, hy⟩ := get_some (xs := xs) (i := h) (by omega)
        have hoks := HP.out.2.2.grown (grown_of_below hh.out.2 g) (List.Perm.refl _)
        have hox := hoks x (List.mem_of_getElem? hx)
        have hoy := hoks y (List.mem_of_getElem? hy)
        have HC := Lib.hid (fun W (hW : Below wr.heap.size wr W) => order_any x y W (hox.1.below hW) (hoy.1.below hW))
        have HLT := Lib.hid (show ltAt cmpK xs pc h = decide (cmpK x y < 0) by
          unfold ltAt
          rw [hx, hy])
        obtain ⟨z, hzz⟩ : ∃ z, cmpK x y = z := ⟨_, rfl⟩
        rw [hzz] at HC HLT
        have hpr := HP.out.1.below hh.out.2
        have hglt := hpr.lt
        obtain ⟨a0, a1, a2, a3, a4⟩ := hpr.cells hx
        obtain ⟨b0, b1, b2, b3, b4⟩ := hpr.cells hy
        clear hzz hox hoy hoks hpr hx hy
        unfold El.val at HC
        obtain ⟨at_, se, sq, st, v, vn, vc, vb⟩ := x
        obtain ⟨at2, se2, sq2, st2, v2, vn2, vc2, vb2⟩ := y
        simp only at a0 a1 a2 a3 a4 b0 b1 b2 b3 b4 HC

        have HPC := Lib.hid hpc
        clear hpc
        go_wp2_with fail
        clear hd
        go_region_held3 (fun w' => w'.cell? ⟨g, pc * 5, none⟩ = some (.int .i64 at_) ∧ w'.cell? ⟨g, pc * 5 + 1, none⟩ = some (.int .i64 se) ∧ w'.cell? ⟨g, pc * 5 + 2, none⟩ = some (.int .u32 sq) ∧ w'.cell? ⟨g, pc * 5 + 3, none⟩ = some (.int .u32 st) ∧ w'.cell? ⟨g, pc * 5 + 4, none⟩ = some (.slice v vn vc) ∧ w'.cell? ⟨g, h * 5, none⟩ = some (.int .i64 at2) ∧ w'.cell? ⟨g, h * 5 + 1, none⟩ = some (.int .i64 se2) ∧ w'.cell? ⟨g, h * 5 + 2, none⟩ = some (.int .u32 sq2) ∧ w'.cell? ⟨g, h * 5 + 3, none⟩ = some (.int .u32 st2) ∧ w'.cell? ⟨g, h * 5 + 4, none⟩ = some (.slice v2 vn2 vc2))
          (first | exact ⟨a0, a1, a2, a3, a4, b0, b1, b2, b3, b4⟩ | exact ⟨(hb6.cell (by exact hglt)).trans a0, (hb6.cell (by exact hglt)).trans a1, (hb6.cell (by exact hglt)).trans a2, (hb6.cell (by exact hglt)).trans a3, (hb6.cell (by exact hglt)).trans a4, (hb6.cell (by exact hglt)).trans b0, (hb6.cell (by exact hglt)).trans b1, (hb6.cell (by exact hglt)).trans b2, (hb6.cell (by exact hglt)).trans b3, (hb6.cell (by exact hglt)).trans b4⟩)
          (first | (go_at_call 81; refine (HC.out _ (Below.refl _ _).drew).mono ?_; rintro e w6 ⟨rfl, hb6⟩))
        have HB6 := Lib.hid ((Below.refl wr.heap.size wr).drew.trans hb6)
        clear hb6 a0 a1 a2 a3 a4 b0 b1 b2 b3 b4 HC

        go_wp2_with fail
        · have hzb : (!decide (z < 0)) = true := by assumption
          have HLT2 := Lib.hid (show ltAt cmpK xs (mid + m - 1 - h) h = false by rw [HPC.out, HLT.out]; simpa using hzb)
          go_roundw
          case rel => exact ⟨h + 1, j, by go_num, rfl, Lib.hid ⟨⟨by omega, by omega, q3, fun _ => HLT2.out, hh.out.1.no⟩, back_of hh.out.2 HB6.out⟩⟩
          case measure => simp [intOf]; omega
        · have hzb : (!decide (z < 0)) = false := by assumption
          have HLT2 := Lib.hid (show ltAt cmpK xs (mid + m - 1 - h) h = true by rw [HPC.out, HLT.out]; simpa using hzb)
          go_roundw
          case rel => exact ⟨i, h, rfl, rfl, Lib.hid ⟨⟨q1, by omega, by omega, hh.out.1.yes, fun _ => HLT2.out⟩, back_of hh.out.2 HB6.out⟩⟩
          case measure => simp [intOf]; omega
      · have hij2 : i = j := by omega
        subst hij2
        have HPART := Lib.hid (bs_part cmpK_swo HM.out.1 HM.out.2 (by have := HP.out.2.1; omega) (by omega) (by omega) HMID.out.symm h0.out hh.out.1)
        obtain ⟨en, hen⟩ : ∃ en, mid + m - i = en := ⟨_, rfl⟩
        have hlo := HPART.out.lo
        have hhi := HPART.out.hi
        have hel := HPART.out.el
        have heh := HPART.out.eh
        have hij' : ¬ (i : Int) < (i : Int) := by omega
        have hee : (mid : Int) + (m : Int) - (i : Int) = (en : Int) := by omega
        rw [hen] at hel heh
        go_upto_region 39 with fail
        have HEN := Lib.hid hen
        have HEE := Lib.hid hee
        clear hen hee hij'
        go_cut [185] (fun v wx => v = .bool (decide (i < m ∧ m < en)) ∧ wr = wx)
        case first => as_aux_lemma =>
          by_cases c1 : i < m
          · have d1 : decide (i < m) = true := by simpa using c1
            by_cases c2 : m < en
            · have d2 : decide (m < en) = true := by simpa using c2
              go_wp2_with fail
              go_meet
              exact ⟨by rw [decide_eq_true (And.intro c1 c2)], rfl⟩
            · have d2 : decide (m < en) = false := by simpa using c2
              go_wp2_with fail
              go_meet
              exact ⟨by rw [decide_eq_false (fun h => c2 h.2)], rfl⟩
          · have d1 : decide (i < m) = false := by simpa using c1
            go_wp2_with fail
            go_meet
            exact ⟨by rw [decide_eq_false (fun h => c1 h.1)], rfl⟩
        case rest => as_aux_lemma =>
          obtain ⟨rfl, rfl⟩ := hcut
          obtain ⟨c, hc⟩ : ∃ c, decide (i < m ∧ m < en) = c := ⟨_, rfl⟩
          rw [hc]
          have HC := Lib.hid hc
          clear hc
          go_upto_if 185 with (fail)
          go_cut [24] (fun v wx => v = .int .i64 (en : Int) ∧ ∃ ys, Hid (Pl wx g cap ys ∧ Rot xs ys i m en ∧ w.grownBy wx (some g)))
          case first => as_aux_lemma =>
            cases c
            · go_wp2_with fail
              go_meet
              refine ⟨rfl, xs, Lib.hid ⟨HP.out.1.below hh.out.2, rot_id ?_, grown_of_below hh.out.2 g⟩⟩
              have := HC.out
              simp at this
              omega
            · have hc := HC.out
              simp only [decide_eq_true_eq] at hc
              have HR := Lib.hid (rot_any g cap n i m en xs wr (HP.out.1.below hh.out.2) HP.out.2.1 hc.1 hc.2 (by omega) h63)
              clear hc
              go_wp2_with fail
              refine HR.out.mono ?_
              rintro e w1 ⟨rfl, ys, h1, h2, h3⟩
              have HZ := Lib.hid (And.intro h1 (And.intro h2 (grown_trans (grown_of_below hh.out.2 g) h3)))
              clear h1 h2 h3
              go_wp2_with fail
              go_meet
              exact ⟨rfl, ys, HZ⟩
          case rest => as_aux_lemma =>
            obtain ⟨rfl, ys, hys⟩ := hcut
            clear HC c
            have HS : Hid (SymS w wc g cap n a m b mid i xs ys ∧ Srt cmpK ys a i ∧ Srt cmpK ys i mid) := Lib.hid (by
              obtain ⟨y1, y2, y3⟩ := hys.out
              rw [← HEN.out] at y2
              obtain ⟨p1, p2, p3, p4, p5⟩ := part_rot HM.out.1 HM.out.2 HPART.out (by omega) y2
              exact ⟨⟨y1, y2.1.length_eq.trans HP.out.2.1, (y2.shuf (by omega) (by rw [HEN.out]; omega)).mono hlo (by rw [HEN.out]; omega), y3, p1, p4, p5⟩, p2, p3⟩)
            have him : i ≤ mid := by have := HEN.out; omega
            clear hys HPART h0
            go_upto_region 41 with fail
            go_cut [199] (fun v wx => v = .bool (decide (a < i ∧ i < mid)) ∧ wc = wx)
            case first => as_aux_lemma =>
              by_cases c1 : a < i
              · have d1 : decide (a < i) = true := by simpa using c1
                by_cases c2 : i < mid
                · have d2 : decide (i < mid) = true := by simpa using c2
                  go_wp2_with fail
                  go_meet
                  exact ⟨by rw [decide_eq_true (And.intro c1 c2)], rfl⟩
                · have d2 : decide (i < mid) = false := by simpa using c2
                  go_wp2_with fail
                  go_meet
                  exact ⟨by rw [decide_eq_false (fun h => c2 h.2)], rfl⟩
              · have d1 : decide (a < i) = false := by simpa using c1
                go_wp2_with fail
                go_meet
                exact ⟨by rw [decide_eq_false (fun h => c1 h.1)], rfl⟩
            case rest => as_aux_lemma =>
              obtain ⟨rfl, rfl⟩ := hcut
              obtain ⟨c, hc⟩ : ∃ c, decide (a < i ∧ i < mid) = c := ⟨_, rfl⟩
              rw [hc]
              have HC := Lib.hid hc
              clear hc
              go_upto_if 199 with (fail)
              go_cut [18] (fun v wx => v = .int .i64 (mid : Int) ∧ ∃ zs, Hid (SymS w wx g cap n a m b mid i xs zs ∧ Srt cmpK zs a mid))
              case first => as_aux_lemma =>
                cases c
                · go_wp2_with fail
                  go_meet
                  refine ⟨rfl, ys, Lib.hid ⟨HS.out.1, ?_⟩⟩
                  have hc := HC.out
                  simp only [decide_eq_false_iff_not] at hc
                  by_cases c1 : a < i
                  · exact HS.out.2.1.sub (Nat.le_refl _) (by omega)
                  · exact HS.out.2.2.sub (by omega) (Nat.le_refl _)
                · have hc := HC.out
                  simp only [decide_eq_true_eq] at hc
                  have HR := Lib.hid (IH.out a i mid ys wc (by omega) HS.out.1.pl HS.out.1.len (HP.out.2.2.grown HS.out.1.gr HS.out.1.sh.perm) hc.1 hc.2 (by omega) HS.out.2.1 HS.out.2.2)
                  clear hc
                  go_wp2_with fail
                  refine HR.out.mono ?_
                  rintro e w1 ⟨rfl, zs, h1, h2, h3, h4⟩
                  have HZ := Lib.hid (And.intro (And.intro h1 h2) (And.intro h3 h4))
                  clear h1 h2 h3 h4
                  go_wp2_with fail
                  go_meet
                  refine ⟨rfl, zs, Lib.hid ⟨⟨HZ.out.1.1, HZ.out.1.2.len.trans HS.out.1.len, HS.out.1.sh.trans (HZ.out.1.2.mono (Nat.le_refl _) (by omega)), grown_trans HS.out.1.gr HZ.out.2.2, ahead_shuf HS.out.1.ahead (.inl HZ.out.1.2), HS.out.1.s3.shuf HZ.out.1.2 (.inr (Nat.le_refl _)), HS.out.1.s4.shuf HZ.out.1.2 (.inr (by have := HEN.out; omega))⟩, HZ.out.2.1⟩⟩
              case rest => as_aux_lemma =>
                obtain ⟨rfl, zs, hzs⟩ := hcut
                clear HC c HS
                go_upto_region 43 with fail
                go_cut [213] (fun v wx => v = .bool (decide (mid < en ∧ en < b)) ∧ wc = wx)
                case first => as_aux_lemma =>
                  by_cases c1 : mid < en
                  · have d1 : decide (mid < en) = true := by simpa using c1
                    by_cases c2 : en < b
                    · have d2 : decide (en < b) = true := by simpa using c2
                      go_wp2_with fail
                      go_meet
                      exact ⟨by rw [decide_eq_true (And.intro c1 c2)], rfl⟩
                    · have d2 : decide (en < b) = false := by simpa using c2
                      go_wp2_with fail
                      go_meet
                      exact ⟨by rw [decide_eq_false (fun h => c2 h.2)], rfl⟩
                  · have d1 : decide (mid < en) = false := by simpa using c1
                    go_wp2_with fail
                    go_meet
                    exact ⟨by rw [decide_eq_false (fun h => c1 h.1)], rfl⟩
                case rest => as_aux_lemma =>
                  obtain ⟨rfl, rfl⟩ := hcut
                  obtain ⟨c, hc⟩ : ∃ c, decide (mid < en ∧ en < b) = c := ⟨_, rfl⟩
                  rw [hc]
                  have HC := Lib.hid hc
                  clear hc
                  cases c
                  · go_wp2_with fail
                    go_end0
                    have hc := HC.out
                    simp only [decide_eq_false_iff_not] at hc
                    have hs3 := hzs.out.1.s3
                    have hs4 := hzs.out.1.s4
                    rw [HEN.out] at hs3 hs4
                    have hr : Srt cmpK zs mid b := by
                      by_cases c1 : mid < en
                      · exact hs3.sub (Nat.le_refl _) (by omega)
                      · exact hs4.sub (by omega) (Nat.le_refl _)
                    exact ⟨rfl, zs, hzs.out.1.pl, hzs.out.1.sh, srt_join hzs.out.2 hr hzs.out.1.ahead, hzs.out.1.gr⟩
                  · have hc := HC.out
                    simp only [decide_eq_true_eq] at hc
                    have hs3 := hzs.out.1.s3
                    have hs4 := hzs.out.1.s4
                    rw [HEN.out] at hs3 hs4
                    have HR := Lib.hid (IH.out mid en b zs wc (by omega) hzs.out.1.pl hzs.out.1.len (HP.out.2.2.grown hzs.out.1.gr hzs.out.1.sh.perm) hc.1 hc.2 hb hs3 hs4)
                    clear hc hs3 hs4
                    go_wp2_with fail
                    refine HR.out.mono ?_
                    rintro e w1 ⟨rfl, us, h1, h2, h3, h4⟩
                    have HZ := Lib.hid (And.intro (And.intro h1 h2) (And.intro h3 h4))
                    clear h1 h2 h3 h4
                    go_wp2_with fail
                    go_end0
                    exact ⟨rfl, us, HZ.out.1.1, hzs.out.1.sh.trans (HZ.out.1.2.mono (by omega) (Nat.le_refl _)), srt_join (hzs.out.2.shuf HZ.out.1.2 (.inl (Nat.le_refl _))) HZ.out.2.1 (ahead_shuf hzs.out.1.ahead (.inr HZ.out.1.2)), grown_trans hzs.out.1.gr HZ.out.2.2⟩
end Go.Proofs.YtebacmmfjadalaaGreat
