/- K9 in one text. -/
import Derived.Test.YtebacmmfjadalaaGreatP19

namespace Go.Proofs.YtebacmmfjadalaaGreat
open Go Go.RowKit

/-- the values lie not in that block -/
def Away (e : El) (o : Option Nat) : Prop := ∀ b f, e.v = some ⟨b, f, none⟩ → o ≠ some b
theorem ElOk.lt {w : World} {e : El} (h : ElOk w e) {b f : Nat} (hv : e.v = some ⟨b, f, none⟩) : b < w.heap.size := by
  rcases h.1.2 with ⟨h1, -⟩ | ⟨b', off, h1, h2, -⟩
  · rw [h1] at hv; cases hv
  · rw [h1] at hv
    injection hv with hv
    injection hv with hv
    subst hv
    exact h2
theorem ElOk.keep {w w' : World} {e : El} (h : ElOk w e) (hk : ∀ b f, e.v = some ⟨b, f, none⟩ → w'.heap[b]? = w.heap[b]?) : ElOk w' e := by
  refine ⟨⟨h.1.1, h.1.2.imp id ?_⟩, h.2⟩
  rintro ⟨b, off, h1, h2, h3⟩
  have he := hk b off h1
  refine ⟨b, off, h1, ?_, fun i hi => (World.cell?_of_block he).trans (h3 i hi)⟩
  rcases Nat.lt_or_ge b w'.heap.size with h4 | h4
  · exact h4
  · rw [Array.getElem?_eq_none h4, Array.getElem?_eq_getElem h2] at he
    cases he
theorem ElOk.grown {w w' : World} {e : El} {o : Option Nat} (h : ElOk w e) (hg : w.grownBy w' o) (ha : Away e o) : ElOk w' e :=
  h.keep fun b f hv => hg.block b (h.lt hv) (fun q => ha b f hv q.symm)
theorem Away.new {w : World} {e : El} (h : ElOk w e) {g : Nat} (hg : w.heap.size ≤ g) : Away e (some g) := fun b f hv q => by
  have := h.lt hv
  injection q with q
  omega
def W32 (e : El) : Prop := (0 ≤ e.sq ∧ e.sq ≤ 4294967295) ∧ 0 ≤ e.st ∧ e.st ≤ 4294967295

/-- one moved down to its place -/
def sinkL {α : Type} (C : α → α → Int) : Nat → List α → Nat → List α
  | 0, xs, _ => xs
  | f + 1, xs, j => if 0 < j ∧ ltAt C xs j (j - 1) = true then sinkL C f (sw xs j (j - 1)) (j - 1) else xs
theorem sink_go {α : Type} {C : α → α → Int} {f : Nat} {xs : List α} {j : Nat} (h : ltAt C xs (j + 1) j = true) : sinkL C (f + 1) xs (j + 1) = sinkL C f (sw xs (j + 1) j) j := by
  rw [sinkL, if_pos ⟨by omega, h⟩]; rfl
theorem sink_stop {α : Type} {C : α → α → Int} {f : Nat} {xs : List α} {j : Nat} (h : j = 0 ∨ ltAt C xs j (j - 1) = false) : sinkL C (f + 1) xs j = xs := by
  rw [sinkL, if_neg (by rintro ⟨h1, h2⟩; rcases h with h | h; omega; rw [h] at h2; cases h2)]
theorem sink_len {α : Type} (C : α → α → Int) : ∀ (f : Nat) (xs : List α) (j : Nat), (sinkL C f xs j).length = xs.length
  | 0, _, _ => rfl
  | f + 1, xs, j => by
    rw [sinkL]
    split
    · rw [sink_len, hsw_len]
    · rfl
theorem sink_perm {α : Type} (C : α → α → Int) : ∀ (f : Nat) (xs : List α) (j : Nat), (sinkL C f xs j).Perm xs
  | 0, _, _ => List.Perm.refl _
  | f + 1, xs, j => by
    rw [sinkL]
    split
    · exact (sink_perm C f _ _).trans (hsw_perm _ _ _)
    · exact List.Perm.refl _

theorem put_fin {B g cap n : Nat} {v0 : Value} {ys : List El} {w w1 wr : World} (h1 : Pl wr g cap ys) (h2 : ys.length = n + 1) (hBg : B ≤ g) (hbw : w.grownBy w1 v0.ownBlock) (h4 : w1.grownBy wr (some g)) (hgo : some g = v0.ownBlock ∨ w.heap.size + 2 ≤ g) (k : Nat) :
    ∃ v', Ending.returned (Value.slice (some ⟨g, 0, none⟩) (n + 1) cap) = .returned v' ∧ Row B (wr.drewN k) v' ys ∧ w.grownBy (wr.drewN k) v0.ownBlock ∧ (v'.ownBlock = v0.ownBlock ∨ ∃ g, v'.ownBlock = some g ∧ w.heap.size ≤ g) := by
  have hr := h1.row hBg
  rw [h2] at hr
  refine ⟨_, rfl, hr, ⟨h4.os.trans hbw.os, h4.tape.trans hbw.tape, h4.output.trans hbw.output, Nat.le_trans hbw.size h4.size, fun i hi hne => ?_⟩, ?_⟩
  · refine (h4.block i (Nat.lt_of_lt_of_le hi hbw.size) ?_).trans (hbw.block i hi hne)
    intro e
    rcases hgo with h | h
    · exact hne (e.trans h)
    · injection e with e
      omega
  · rcases hgo with h | h
    · exact .inl h
    · exact .inr ⟨g, rfl, by omega⟩

set_option maxRecDepth 8000 in
set_option maxHeartbeats 4000000 in
theorem put_any (B : Nat) (v0 : Value) (xs : List El) (e : El) (w : World) (hr : Row B w v0 xs) (hB : B ≤ w.heap.size) (hok : ∀ a ∈ xs ++ [e], ElOk w a ∧ Away a v0.ownBlock ∧ W32 a) (hlen : xs.length ≤ 1099511627776) :
    Calls Tryz.prog 41 #[v0, e.val] w fun e' w' => ∃ v', e' = .returned v' ∧ Row B w' v' (sinkL cmpK (xs.length + 1) (xs ++ [e]) xs.length) ∧ w.grownBy w' v0.ownBlock ∧ (v'.ownBlock = v0.ownBlock ∨ ∃ g, v'.ownBlock = some g ∧ w.heap.size ≤ g) := by
  obtain ⟨n, hn⟩ : ∃ n, xs.length = n := ⟨_, rfl⟩
  rw [hn] at hlen ⊢
  have HN := Lib.hid hn
  have HOK := Lib.hid hok
  have HR0 := Lib.hid hr
  obtain ⟨at_, se, sq, st, vv, vn, vc, vb⟩ := e
  have hb0 := (Below.refl w.heap.size w).alloc (Nat.le_refl _) (.cells #[.int .i64 at_, .int .i64 se, .int .u32 sq, .int .u32 st, .slice vv vn vc] 63)
  have HB := Lib.hid ((hb0.alloc (by simp) (.cells #[.int .i64 at_, .int .i64 se, .int .u32 sq, .int .u32 st, .slice vv vn vc] 63)))
  have HR := Lib.hid (hr.below HB.out)
  have hBs : B ≤ ((w.alloc (.cells #[.int .i64 at_, .int .i64 se, .int .u32 sq, .int .u32 st, .slice vv vn vc] 63)).alloc (.cells #[.int .i64 at_, .int .i64 se, .int .u32 sq, .int .u32 st, .slice vv vn vc] 63)).heap.size := Nat.le_trans hB HB.out.size
  have HNW := Lib.hid (show ∀ j, j < 5 → ((w.alloc (.cells #[.int .i64 at_, .int .i64 se, .int .u32 sq, .int .u32 st, .slice vv vn vc] 63)).alloc (.cells #[.int .i64 at_, .int .i64 se, .int .u32 sq, .int .u32 st, .slice vv vn vc] 63)).cell? ((⟨w.heap.size + 1, 0, none⟩ : Addr).add j) = (El.row ⟨at_, se, sq, st, vv, vn, vc, vb⟩)[j]? from fun j hj => by
    have h := row_new' (w.alloc (.cells #[.int .i64 at_, .int .i64 se, .int .u32 sq, .int .u32 st, .slice vv vn vc] 63)) at_ se sq st vv vn vc 63 j hj
    rw [show (w.alloc (.cells #[.int .i64 at_, .int .i64 se, .int .u32 sq, .int .u32 st, .slice vv vn vc] 63)).heap.size = w.heap.size + 1 by simp] at h
    exact h)
  have hl0 : xs.length ≤ 1099511627776 := by omega
  clear hr hok hn hb0
  unfold El.val
  simp only
  obtain ⟨ys0, hys⟩ : ∃ y, xs ++ [(⟨at_, se, sq, st, vv, vn, vc, vb⟩ : El)] = y := ⟨_, rfl⟩
  have hlen1 : ys0.length = n + 1 := by rw [← hys, List.length_append, HN.out]; rfl
  rw [hys] at HOK ⊢
  have HYS := Lib.hid (And.intro hys hlen1)
  clear hys hlen1
  go_enter Tryz.func41, Tryz.ntmps41
  go_wp2_with (at_builtin; refine wpList_append_el _ rfl _ _ 41 B rfl Tryz.underlying41 v0 xs ⟨at_, se, sq, st, vv, vn, vc, vb⟩ rfl HR.out hBs hl0 ⟨w.heap.size + 1, 0, none⟩ 1 rfl HNW.out ?_; intro v1 w1 hr1 hg1 ha1; obtain ⟨A1, k1, rfl⟩ := hr1.slice; have HR1 := Lib.hid hr1; have HG1 := Lib.hid hg1; have HA1 := Lib.hid ha1; clear hr1 hg1 ha1)
  have HR2 := HR1.out
  rw [HYS.out.1] at HR2
  obtain ⟨g, cap, hgv, hBg, hp1⟩ := HR2.pl (by have := HYS.out.2; omega)
  rw [HYS.out.2] at hgv
  clear HR2
  injection hgv with e1 e2 e3
  subst e1 e3
  have hx1 : xs.length = n := HN.out
  have hgo : some g = v0.ownBlock ∨ w.heap.size + 2 ≤ g := by
    have h := HA1.out
    rcases h with h | h
    · exact .inl h
    · right
      have h' : some g = some ((w.alloc (.cells #[.int .i64 at_, .int .i64 se, .int .u32 sq, .int .u32 st, .slice vv vn vc] 63)).alloc (.cells #[.int .i64 at_, .int .i64 se, .int .u32 sq, .int .u32 st, .slice vv vn vc] 63)).heap.size := h
      injection h' with h'
      rw [h']
      simp
  have hok1 : ∀ a ∈ ys0, ElOk w1 a ∧ Away a (some g) ∧ W32 a := by
    intro a ha
    obtain ⟨o1, o2, o3⟩ := HOK.out a ha
    refine ⟨(o1.below HB.out).grown HG1.out o2, ?_, o3⟩
    rcases hgo with h | h
    · rw [h]; exact o2
    · exact Away.new o1 (by omega)
  have hbw : w.grownBy w1 v0.ownBlock := by
    have h := HG1.out
    exact ⟨h.os.trans HB.out.os, h.tape.trans HB.out.tape, h.output.trans HB.out.output, Nat.le_trans HB.out.size h.size, fun k hk hne => (h.block k (Nat.lt_of_lt_of_le hk HB.out.size) hne).trans (HB.out.block k hk)⟩
  have HOK1 := Lib.hid hok1
  have HBW := Lib.hid hbw
  have HGO := Lib.hid hgo
  clear hok1 hbw hgo HR HR0 HR1 HG1 HA1 HB HOK HNW hBs hl0
  have HP1 := Lib.hid (And.intro hp1 HYS.out.2)
  clear hp1
  rw [hx1]
  clear HN hx1
  go_loopw [5] (fun i wr => ∃ (j : Nat) (ys : List El), j ≤ n ∧ i = .int .i64 (j : Int) ∧ Hid (Pl wr g k1 ys ∧ ys.length = n + 1 ∧ sinkL cmpK (j + 1) ys j = sinkL cmpK (n + 1) ys0 n ∧ w1.grownBy wr (some g) ∧ ∀ a ∈ ys, a ∈ ys0)) (fun i _ => (intOf i).toNat)
  case atStart => exact ⟨n, ys0, by omega, rfl, Lib.hid ⟨HP1.out.1, HP1.out.2, rfl, grown_of_below (Below.refl _ _) _, fun a h => h⟩⟩
  case round =>
    obtain ⟨j, ys, hj, rfl, hh⟩ := hrel
    by_cases hj0 : j = 0
    · have HJ := Lib.hid hj0
      have hd : decide (0 < j) = false := by simp; omega
      have hd' : ¬ (0 : Int) < (j : Int) := by omega
      clear hj0
      go_wp2_with fail
      go_quiet (fail)
      go_wp2_with fail
      go_ret
      obtain ⟨h1, h2, h3, h4, -⟩ := hh.out
      rw [sink_stop (.inl HJ.out)] at h3
      rw [← h3]
      exact put_fin h1 h2 hBg HBW.out h4 HGO.out _
    · obtain ⟨q, hq⟩ : ∃ q, j = q + 1 := ⟨j - 1, by omega⟩
      have HJ := Lib.hid (And.intro hj0 hq)
      obtain ⟨a, ha⟩ := get_some (xs := ys) (i := q) (by have := hh.out.2.1; omega)
      obtain ⟨b, hb⟩ := get_some (xs := ys) (i := j) (by have := hh.out.2.1; omega)
      have hoa := HOK1.out a (hh.out.2.2.2.2 a (List.mem_of_getElem? ha))
      have hob := HOK1.out b (hh.out.2.2.2.2 b (List.mem_of_getElem? hb))
      have HC := Lib.hid (fun W (hW : Below wr.heap.size wr W) => rorder_any a b W ((hoa.1.grown hh.out.2.2.2.1 hoa.2.1).below hW) ((hob.1.grown hh.out.2.2.2.1 hob.2.1).below hW) hoa.2.2.1 hob.2.2.1 hoa.2.2.2 hob.2.2.2)
      have hz := fun m => hh.out.1.frozen m
      have hglt := hh.out.1.lt
      have HLT := Lib.hid (show ltAt cmpK ys j q = decide (0 < cmpK a b) by
        unfold ltAt
        rw [ha, hb]
        have := lexL_neg a.key b.key
        unfold cmpK
        simp only [decide_eq_decide]
        omega)
      obtain ⟨z, hzz⟩ : ∃ z, cmpK a b = z := ⟨_, rfl⟩
      rw [hzz] at HC HLT
      have HAB := Lib.hid (And.intro ha hb)
      have HHP := Lib.hid hh.out.1
      clear hzz hoa hob
      unfold El.val at HC
      obtain ⟨a0, a1, a2, a3, a4⟩ := hh.out.1.cells ha
      obtain ⟨b0, b1, b2, b3, b4⟩ := hh.out.1.cells hb
      obtain ⟨at_, se, sq, st, v, vn, vc, vb⟩ := a
      obtain ⟨at2, se2, sq2, st2, v2, vn2, vc2, vb2⟩ := b
      simp only at a0 a1 a2 a3 a4 b0 b1 b2 b3 b4
      simp only at HC
      clear ha hb
      have hd : decide (0 < j) = true := by simp; omega
      have hd' : (0 : Int) < (j : Int) := by omega
      have hw1 : IntKind.i64.wrap ((j : Int) - 1) = (q : Int) := by rw [IntWalk.i64_in _ (by omega)]; omega
      have i0 : (0 : Int) ≤ (q : Int) := by omega
      have i1 : (q : Int) < ((n + 1 : Nat) : Int) := by omega
      have k0 : (0 : Int) ≤ (j : Int) := by omega
      have k1' : (j : Int) < ((n + 1 : Nat) : Int) := by omega
      have i2 : (q : Int) < (n : Int) + 1 := by omega
      have k2 : (j : Int) < (n : Int) + 1 := by omega
      clear hj0 hq
      go_wp2_with fail
      go_region_held3 (fun w' => w'.cell? ⟨g, q * 5, none⟩ = some (.int .i64 at_) ∧ w'.cell? ⟨g, q * 5 + 1, none⟩ = some (.int .i64 se) ∧ w'.cell? ⟨g, q * 5 + 2, none⟩ = some (.int .u32 sq) ∧ w'.cell? ⟨g, q * 5 + 3, none⟩ = some (.int .u32 st) ∧ w'.cell? ⟨g, q * 5 + 4, none⟩ = some (.slice v vn vc) ∧ w'.cell? ⟨g, j * 5, none⟩ = some (.int .i64 at2) ∧ w'.cell? ⟨g, j * 5 + 1, none⟩ = some (.int .i64 se2) ∧ w'.cell? ⟨g, j * 5 + 2, none⟩ = some (.int .u32 sq2) ∧ w'.cell? ⟨g, j * 5 + 3, none⟩ = some (.int .u32 st2) ∧ w'.cell? ⟨g, j * 5 + 4, none⟩ = some (.slice v2 vn2 vc2))
        (first | exact ⟨a0, a1, a2, a3, a4, b0, b1, b2, b3, b4⟩ | exact ⟨(hb6.cell (by exact hglt)).trans a0, (hb6.cell (by exact hglt)).trans a1, (hb6.cell (by exact hglt)).trans a2, (hb6.cell (by exact hglt)).trans a3, (hb6.cell (by exact hglt)).trans a4, (hb6.cell (by exact hglt)).trans b0, (hb6.cell (by exact hglt)).trans b1, (hb6.cell (by exact hglt)).trans b2, (hb6.cell (by exact hglt)).trans b3, (hb6.cell (by exact hglt)).trans b4⟩)
        (first | (go_at_call 61; refine (HC.out _ (Below.refl _ _).drew).mono ?_; rintro e w6 ⟨rfl, hb6⟩))
      have HB6 := Lib.hid ((Below.refl wr.heap.size wr).drew.trans hb6)
      have hp6 := HHP.out.below HB6.out
      have HG6 := Lib.hid (grown_trans hh.out.2.2.2.1 (grown_of_below HB6.out g))
      have HP6 := Lib.hid hp6
      clear hb6 a0 a1 a2 a3 a4 b0 b1 b2 b3 b4 hz
      have hz := fun m => hp6.frozen m
      obtain ⟨a0, a1, a2, a3, a4⟩ := hp6.cells HAB.out.1
      obtain ⟨b0, b1, b2, b3, b4⟩ := hp6.cells HAB.out.2
      simp only at a0 a1 a2 a3 a4 b0 b1 b2 b3 b4
      clear hp6
      by_cases hzp : 0 < z
      · have hlt := HLT.out
        rw [decide_eq_true hzp] at hlt
        have HLT2 := Lib.hid hlt
        clear hlt
        go_wp2_with fail
        obtain ⟨z00, d0⟩ := set_some ⟨g, q * 5, none⟩ (.int .i64 at2) b0
        obtain ⟨z10, f10⟩ := set_some ⟨g, q * 5, none⟩ (.int .i64 at2) b1
        obtain ⟨z11, d1⟩ := set_some ⟨g, q * 5 + 1, none⟩ (.int .i64 se2) f10
        obtain ⟨z20, f20⟩ := set_some ⟨g, q * 5, none⟩ (.int .i64 at2) b2
        obtain ⟨z21, f21⟩ := set_some ⟨g, q * 5 + 1, none⟩ (.int .i64 se2) f20
        obtain ⟨z22, d2⟩ := set_some ⟨g, q * 5 + 2, none⟩ (.int .u32 sq2) f21
        obtain ⟨z30, f30⟩ := set_some ⟨g, q * 5, none⟩ (.int .i64 at2) b3
        obtain ⟨z31, f31⟩ := set_some ⟨g, q * 5 + 1, none⟩ (.int .i64 se2) f30
        obtain ⟨z32, f32⟩ := set_some ⟨g, q * 5 + 2, none⟩ (.int .u32 sq2) f31
        obtain ⟨z33, d3⟩ := set_some ⟨g, q * 5 + 3, none⟩ (.int .u32 st2) f32
        obtain ⟨z40, f40⟩ := set_some ⟨g, q * 5, none⟩ (.int .i64 at2) b4
        obtain ⟨z41, f41⟩ := set_some ⟨g, q * 5 + 1, none⟩ (.int .i64 se2) f40
        obtain ⟨z42, f42⟩ := set_some ⟨g, q * 5 + 2, none⟩ (.int .u32 sq2) f41
        obtain ⟨z43, f43⟩ := set_some ⟨g, q * 5 + 3, none⟩ (.int .u32 st2) f42
        obtain ⟨z44, d4⟩ := set_some ⟨g, q * 5 + 4, none⟩ (.slice v2 vn2 vc2) f43
        clear f10 f20 f21 f30 f31 f32 f40 f41 f42 f43
        go_region
        all_goals go_wp2_with fail
        go_roundw
        case rel =>
          have e1 := Pl.set HP6.out (i := q) (by have := hh.out.2.1; omega) ⟨at2, se2, sq2, st2, v2, vn2, vc2, vb2⟩
          have e2 := Pl.set e1.1 (i := j) (by rw [List.length_set]; have := hh.out.2.1; omega) ⟨at_, se, sq, st, v, vn, vc, vb⟩
          have es : sw ys j q = (ys.set q ⟨at2, se2, sq2, st2, v2, vn2, vc2, vb2⟩).set j ⟨at_, se, sq, st, v, vn, vc, vb⟩ := by
            rw [sw_eq HAB.out.2 HAB.out.1, List.set_comm _ _ (by have := HJ.out.2; omega)]
          refine ⟨q, sw ys j q, by have := HJ.out.2; omega, by go_num, Lib.hid ⟨?_, by rw [sw_len]; exact hh.out.2.1, ?_, ?_, fun a ha => hh.out.2.2.2.2 a (sw_mem ha)⟩⟩
          · rw [es]; exact e2.1.drew
          · rw [← hh.out.2.2.1]
            have := HJ.out.2
            subst this
            rw [sink_go HLT2.out]
          · exact grown_trans HG6.out (grown_trans (grown_trans e1.2 e2.2) (grown_drew _ _))
        case measure =>
          have := HJ.out.2
          simp [intOf]; omega
      · have hlt := HLT.out
        rw [decide_eq_false hzp] at hlt
        have hzd : decide (0 < z) = false := by simpa using hzp
        have HLT2 := Lib.hid hlt
        clear hlt
        go_wp2_with fail
        go_ret
        rw [← hh.out.2.2.1, sink_stop (.inr (by have := HJ.out.2; rw [show j - 1 = q by omega]; exact HLT2.out))]
        exact put_fin HP6.out hh.out.2.1 hBg HBW.out HG6.out HGO.out 0
end Go.Proofs.YtebacmmfjadalaaGreat
