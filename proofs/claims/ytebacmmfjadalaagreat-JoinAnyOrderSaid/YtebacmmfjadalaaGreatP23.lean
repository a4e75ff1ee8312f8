/- G5 G6 in one text. -/
import Derived.Test.YtebacmmfjadalaaGreatP13
import Derived.Test.YtebacmmfjadalaaGreatP22

namespace Go.Proofs.YtebacmmfjadalaaGreat
open Go Go.RowKit

/-- clocks lie behind a slice -/
def ClAt (w : World) (v : Value) (cs : List (Int × Int × Int)) : Prop := ∃ A c, v = .slice A cs.length c ∧ (cs = [] ∨ ∃ b off, A = some ⟨b, off, none⟩ ∧ b < w.heap.size ∧ ∀ i, i < cs.length → w.cell? ⟨b, off + i * 3, none⟩ = some (.int .i64 (cs.getD i (0, 0, 0)).1) ∧ w.cell? ⟨b, off + i * 3 + 1, none⟩ = some (.int .i64 (cs.getD i (0, 0, 0)).2.1) ∧ w.cell? ⟨b, off + i * 3 + 2, none⟩ = some (.int .i64 (cs.getD i (0, 0, 0)).2.2))
def ClRow (w : World) (A : Option Addr) (cs : List (Int × Int × Int)) : Prop := cs = [] ∨ ∃ b off, A = some ⟨b, off, none⟩ ∧ b < w.heap.size ∧ ∀ i, i < cs.length → w.cell? ⟨b, off + i * 3, none⟩ = some (.int .i64 (cs.getD i (0, 0, 0)).1) ∧ w.cell? ⟨b, off + i * 3 + 1, none⟩ = some (.int .i64 (cs.getD i (0, 0, 0)).2.1) ∧ w.cell? ⟨b, off + i * 3 + 2, none⟩ = some (.int .i64 (cs.getD i (0, 0, 0)).2.2)
theorem ClRow.at {w : World} {A : Option Addr} {cs : List (Int × Int × Int)} (h : ClRow w A cs) (i : Nat) (hi : i < cs.length) : ∃ b off, A = some ⟨b, off, none⟩ ∧ b < w.heap.size ∧ w.cell? ⟨b, off + i * 3, none⟩ = some (.int .i64 (cs.getD i (0, 0, 0)).1) ∧ w.cell? ⟨b, off + i * 3 + 1, none⟩ = some (.int .i64 (cs.getD i (0, 0, 0)).2.1) ∧ w.cell? ⟨b, off + i * 3 + 2, none⟩ = some (.int .i64 (cs.getD i (0, 0, 0)).2.2) := by
  rcases h with h | ⟨b, off, h1, h2, h3⟩
  · subst h; simp at hi
  · exact ⟨b, off, h1, h2, h3 i hi⟩
def okC (c : Int × Int × Int) : Bool := Ck.okc c.1 c.2.1 c.2.2
/-- the error of a new joiner -/
def newE (cs : List (Int × Int × Int)) (win : Int) : Int := if 64 < cs.length ∨ win < 0 ∨ 1125899906842624 < win then 1 else if cs.all okC = true then 0 else 130
def NewP (w : World) (cs : List (Int × Int × Int)) (win : Int) (e : Ending) (w' : World) : Prop :=
  (newE cs win = 0 ∧ e = .returned (.tuple #[.pointer (some ⟨w.heap.size, 0, none⟩), .int .i64 0]) ∧ ∃ sv, SRow (w.heap.size + 1) w' sv (cs.map sn0) ∧ JnAt w' w.heap.size ⟨sv, win, .slice none 0 0, false, 0, 0, 0, 0, 0, 0, 0⟩ ∧ (∀ i, w'.frozen? ⟨w.heap.size, i, none⟩ = false) ∧ w.heap.size < w'.heap.size ∧ Below w.heap.size w w') ∨
  (newE cs win ≠ 0 ∧ e = .returned (.tuple #[.pointer none, .int .i64 (newE cs win)]) ∧ Below w.heap.size w w')
theorem ok_take {cs : List (Int × Int × Int)} {k : Nat} {co cn cd : Int} (h : (cs.take k).all okC = true) (hk : k < cs.length) (h1 : (cs.getD k (0, 0, 0)).1 = co) (h2 : (cs.getD k (0, 0, 0)).2.1 = cn) (h3 : (cs.getD k (0, 0, 0)).2.2 = cd) (ho : Ck.okc co cn cd = true) : (cs.take (k + 1)).all okC = true := by
  rw [List.take_add_one, List.getElem?_eq_getElem hk, List.all_append, h]
  rw [List.getD_eq_getElem?_getD, List.getElem?_eq_getElem hk] at h1 h2 h3
  simp only [Option.getD_some] at h1 h2 h3
  simp [okC, h1, h2, h3, ho]

set_option maxRecDepth 8000 in
set_option maxHeartbeats 4000000 in
theorem new_long (A : Option Addr) (cc n : Nat) (cs : List (Int × Int × Int)) (win : Int) (w : World) (hn : cs.length = n) (hl : 64 < n ∨ win < 0 ∨ 1125899906842624 < win) :
    Calls Tryz.prog 6 #[.slice A n cc, .int .i64 win] w (NewP w cs win) := by
  have hE : newE cs win = 1 := by unfold newE; rw [if_pos (by rw [hn]; exact hl)]
  have hP : NewP w cs win (.returned (.tuple #[.pointer none, .int .i64 1])) w := .inr ⟨by rw [hE]; decide, by rw [hE], Below.refl _ _⟩
  have HP := Lib.hid hP
  clear hP hE hn
  by_cases c1 : 64 < n
  · have c1' : (64 : Int) < (n : Int) := by omega
    go_enter Tryz.func6, Tryz.ntmps6
    go_wp2_with fail
    go_ret2
    exact HP.out
  · have c1' : ¬ (64 : Int) < (n : Int) := by omega
    by_cases c2 : win < 0
    · go_enter Tryz.func6, Tryz.ntmps6
      go_wp2_with fail
      go_ret2
      exact HP.out
    · have c3 : 1125899906842624 < win := by omega
      go_enter Tryz.func6, Tryz.ntmps6
      go_wp2_with fail
      go_ret2
      exact HP.out

set_option maxRecDepth 8000 in
set_option maxHeartbeats 8000000 in
theorem new_gen (A : Option Addr) (cc n : Nat) (cs : List (Int × Int × Int)) (win : Int) (w : World) (hn : cs.length = n) (hc : ClRow w A cs) (hn2 : n ≤ 64) (w0 : 0 ≤ win) (w1 : win ≤ 1125899906842624) :
    Calls Tryz.prog 6 #[.slice A n cc, .int .i64 win] w (NewP w cs win) := by
  have HCL := Lib.hid hc
  have HN := Lib.hid hn
  clear hc hn
  go_enter Tryz.func6, Tryz.ntmps6
  go_wp2_with fail
  have H0 := Lib.hid (show SRow (w.heap.size + 1) (w.alloc (.cells #[.slice none 0 0, .int .i64 win, .slice none 0 0, .bool false, .int .i64 0, .int .i64 0, .int .i64 0, .int .i64 0, .int .i64 0, .int .i64 0, .int .i64 0, .bool true] 77)) (.slice none 0 0) (([] : List (Int × Int × Int)).map sn0) ∧ (w.alloc (.cells #[.slice none 0 0, .int .i64 win, .slice none 0 0, .bool false, .int .i64 0, .int .i64 0, .int .i64 0, .int .i64 0, .int .i64 0, .int .i64 0, .int .i64 0, .bool true] 77)).cell? ⟨w.heap.size, 0, none⟩ = some (.slice none 0 0) ∧ Fr (w.alloc (.cells #[.slice none 0 0, .int .i64 win, .slice none 0 0, .bool false, .int .i64 0, .int .i64 0, .int .i64 0, .int .i64 0, .int .i64 0, .int .i64 0, .int .i64 0, .bool true] 77)) (w.alloc (.cells #[.slice none 0 0, .int .i64 win, .slice none 0 0, .bool false, .int .i64 0, .int .i64 0, .int .i64 0, .int .i64 0, .int .i64 0, .int .i64 0, .int .i64 0, .bool true] 77)) none ⟨w.heap.size, 0, none⟩ from ⟨World.ownsRow_nil _ _ _ _, by simp [go_sem], Fr.refl _ _ _⟩)
  have HJ0 := Lib.hid (show JnAt (w.alloc (.cells #[.slice none 0 0, .int .i64 win, .slice none 0 0, .bool false, .int .i64 0, .int .i64 0, .int .i64 0, .int .i64 0, .int .i64 0, .int .i64 0, .int .i64 0, .bool true] 77)) w.heap.size ⟨.slice none 0 0, win, .slice none 0 0, false, 0, 0, 0, 0, 0, 0, 0⟩ ∧ (∀ i, (w.alloc (.cells #[.slice none 0 0, .int .i64 win, .slice none 0 0, .bool false, .int .i64 0, .int .i64 0, .int .i64 0, .int .i64 0, .int .i64 0, .int .i64 0, .int .i64 0, .bool true] 77)).frozen? ⟨w.heap.size, i, none⟩ = false) ∧ Below w.heap.size w (w.alloc (.cells #[.slice none 0 0, .int .i64 win, .slice none 0 0, .bool false, .int .i64 0, .int .i64 0, .int .i64 0, .int .i64 0, .int .i64 0, .int .i64 0, .int .i64 0, .bool true] 77)) ∧ (w.alloc (.cells #[.slice none 0 0, .int .i64 win, .slice none 0 0, .bool false, .int .i64 0, .int .i64 0, .int .i64 0, .int .i64 0, .int .i64 0, .int .i64 0, .int .i64 0, .bool true] 77)).heap.size = w.heap.size + 1 from ⟨by unfold JnAt; simp [go_sem], fun i => by simp [go_sem], (Below.refl _ _).alloc (Nat.le_refl _) _, by simp⟩)
  generalize (w.alloc (.cells #[.slice none 0 0, .int .i64 win, .slice none 0 0, .bool false, .int .i64 0, .int .i64 0, .int .i64 0, .int .i64 0, .int .i64 0, .int .i64 0, .int .i64 0, .bool true] 77)) = W0 at *
  go_loopw [26] (fun iv wr => ∃ (k : Nat) (sv : Value), k ≤ n ∧ iv = .int .i64 (k : Int) ∧ Hid ((cs.take k).all okC = true ∧ SRow (w.heap.size + 1) wr sv ((cs.take k).map sn0) ∧ wr.cell? ⟨w.heap.size, 0, none⟩ = some sv ∧ Fr W0 wr none ⟨w.heap.size, 0, none⟩)) (fun iv _ => n - (intOf iv).toNat)
  case atStart => exact ⟨0, .slice none 0 0, by omega, rfl, Lib.hid ⟨rfl, H0.out⟩⟩
  case round =>
    obtain ⟨k, sv, hk, rfl, hh⟩ := hrel
    by_cases hlt : k < n
    · obtain ⟨cb, coff, rfl, hcb, hrow0⟩ := HCL.out.at k (by have := HN.out; omega)
      obtain ⟨co, hco⟩ : ∃ y, (cs.getD k (0, 0, 0)).1 = y := ⟨_, rfl⟩
      obtain ⟨cn, hcn⟩ : ∃ y, (cs.getD k (0, 0, 0)).2.1 = y := ⟨_, rfl⟩
      obtain ⟨cd, hcd⟩ : ∃ y, (cs.getD k (0, 0, 0)).2.2 = y := ⟨_, rfl⟩
      have hrow := hrow0
      clear hrow0
      rw [hco, hcn, hcd] at hrow
      have hrd : ∀ i, wr.cell? ⟨cb, i, none⟩ = w.cell? ⟨cb, i, none⟩ := fun i =>
        (World.cell?_of_block (hh.out.2.2.2.block cb (by rw [HJ0.out.2.2.2]; omega) (by show cb ≠ w.heap.size; omega) (by simp))).trans (HJ0.out.2.2.1.cell (p := ⟨cb, i, none⟩) hcb)
      have r0 := (hrd _).trans hrow.1
      have r1 := (hrd _).trans hrow.2.1
      have r2 := (hrd _).trans hrow.2.2
      have HX := Lib.hid (And.intro hco (And.intro hcn hcd))
      have hki : (k : Int) < (n : Int) := by omega
      clear hrow hrd hco hcn hcd
      obtain ⟨A, c, rfl⟩ := hh.out.2.1.slice
      have hwr : w.heap.size + 1 ≤ wr.heap.size := by have := hh.out.2.2.2.size; rw [HJ0.out.2.2.2] at this; exact this
      have hlen : ((cs.take k).map sn0).length = k := by rw [List.length_map, List.length_take, Nat.min_eq_left (by have := HN.out; omega)]
      have hhc := hh.out.2.2.1
      rw [hlen] at hhc hh
      go_wp2_with fail
      have HCK := Lib.hid (fun W => check_any co cn cd W)
      unfold clk at HCK
      by_cases hkf : Ck.okc co cn cd = false
      · have hk0 : ¬ Ck.okc co cn cd = true := by rw [hkf]; simp
        rw [if_neg hk0] at HCK
        clear hkf
        refine (HCK.out _).mono ?_
        rintro e1 w2 ⟨rfl, hb2⟩
        have HBD := Lib.hid (show Below w.heap.size w w2 from (HJ0.out.2.2.1.trans ⟨hh.out.2.2.2.os, hh.out.2.2.2.tape, hh.out.2.2.2.output, hh.out.2.2.2.size, fun q hq => hh.out.2.2.2.block q (by rw [HJ0.out.2.2.2]; omega) (by show q ≠ w.heap.size; omega) (by simp)⟩).trans ((((Below.refl wr.heap.size wr).alloc (Nat.le_refl _) _).trans (hb2.mono (by simp))).mono (by omega)))
        clear hb2
        go_wp2_with fail
        go_ret2
        refine .inr ⟨?_, ?_, HBD.out⟩
        · unfold newE
          rw [if_neg (by have := HN.out; omega), if_neg]
          · omega
          · intro hall
            have := List.all_eq_true.1 hall (cs.getD k (0, 0, 0)) (by rw [List.getD_eq_getElem?_getD, List.getElem?_eq_getElem (by have := HN.out; omega)]; exact List.getElem_mem _)
            unfold okC at this
            rw [HX.out.1, HX.out.2.1, HX.out.2.2] at this
            exact hk0 this
        · unfold newE
          rw [if_neg (by have := HN.out; omega), if_neg]
          · rfl
          · intro hall
            have := List.all_eq_true.1 hall (cs.getD k (0, 0, 0)) (by rw [List.getD_eq_getElem?_getD, List.getElem?_eq_getElem (by have := HN.out; omega)]; exact List.getElem_mem _)
            unfold okC at this
            rw [HX.out.1, HX.out.2.1, HX.out.2.2] at this
            exact hk0 this
      have hk0 : Ck.okc co cn cd = true := by simpa using hkf
      rw [if_pos hk0] at HCK
      clear hkf
      have HK0 := Lib.hid hk0
      clear hk0
      refine (HCK.out _).mono ?_
      rintro e1 w2 ⟨rfl, hb2⟩
      obtain ⟨hcell, hfrz⟩ := bcell hb2
      have hbb : Below wr.heap.size wr w2 := ((Below.refl wr.heap.size wr).alloc (Nat.le_refl _) _).trans (hb2.mono (by simp))
      have hx0 := (hbb.cell (p := ⟨w.heap.size, 0, none⟩) (by show w.heap.size < _; omega)).trans hhc
      have hf0 := (hbb.frozen (p := ⟨w.heap.size, 0, none⟩) (by show w.heap.size < _; omega)).trans ((hh.out.2.2.2.frozen ⟨w.heap.size, 0, none⟩ rfl).trans (HJ0.out.2.1 0))
      have q0 : w2.cell? ⟨wr.heap.size, 0, none⟩ = some (.int .i64 co) := (hcell _ _ (by simp)).trans (by simp [go_sem])
      have q1 : w2.cell? ⟨wr.heap.size, 1, none⟩ = some (.int .i64 cn) := (hcell _ _ (by simp)).trans (by simp [go_sem])
      have q2 : w2.cell? ⟨wr.heap.size, 2, none⟩ = some (.int .i64 cd) := (hcell _ _ (by simp)).trans (by simp [go_sem])
      have HBB := Lib.hid hbb
      have HBX := Lib.hid (((Below.refl w2.heap.size w2).alloc (Nat.le_refl _) (.cells #[.int .i64 co, .int .i64 cn, .int .i64 cd, .int .i64 0, .bool false, .int .u32 0, .int .u64 0] 81)).drew)
      have HSR := Lib.hid ((hh.out.2.1.below hbb).below HBX.out)
      have hx2 : w.heap.size < w2.heap.size := Nat.lt_of_lt_of_le (by omega : w.heap.size < wr.heap.size) hbb.size
      clear hcell hfrz hbb hb2 hhc r0 r1 r2
      go_wp2_with fail
      have hxo : (Value.slice A k c).ownBlock ≠ some w.heap.size := HSR.out.own (by omega)
      have hl1 : ((cs.take k).map sn0 ++ [(⟨co, cn, cd, 0, false, 0, 0⟩ : Sn)]).length = k + 1 := by rw [List.length_append, hlen]; rfl
      go_region_law ((refine step_append_sn rfl (.tmp 39) (.tmp 42) 74 rfl Tryz.underlying74 (.slice A k c) ((cs.take k).map sn0) ⟨co, cn, cd, 0, false, 0, 0⟩ (by simp [Act.eval]) HSR.out (Nat.le_trans (by omega : w.heap.size + 1 ≤ w2.heap.size) HBX.out.size) (by omega) ⟨w2.heap.size, 0, none⟩ 1 (by simp [Act.eval]) (sn_new w2 _ _ _ _ _ _ _ _) ?_); intro v' w3 hr1 hg1 ha1; obtain ⟨A1, c1, hv1⟩ := hr1.slice; rw [hl1] at hv1; subst hv1; have y1 := (grownO_cell hg1 (p := ⟨w.heap.size, 0, none⟩) (Nat.lt_of_lt_of_le hx2 HBX.out.size) hxo).trans ((HBX.out.cell (p := ⟨w.heap.size, 0, none⟩) (by exact hx2)).trans hx0); have y2 := (grownO_frozen hg1 (p := ⟨w.heap.size, 0, none⟩) (Nat.lt_of_lt_of_le hx2 HBX.out.size) hxo).trans ((HBX.out.frozen (p := ⟨w.heap.size, 0, none⟩) (by exact hx2)).trans hf0); have HR1 := Lib.hid hr1; have HG1 := Lib.hid hg1; clear hr1 hg1 ha1)
      all_goals go_wp2_with fail
      all_goals go_roundw
      all_goals first
        | (refine ⟨k + 1, .slice A1 (k + 1) c1, by omega, by go_num, Lib.hid ⟨?_, ?_, by simp [go_sem, y1], ?_⟩⟩
           · exact ok_take hh.out.1 (by have := HN.out; omega) HX.out.1 HX.out.2.1 HX.out.2.2 HK0.out
           · rw [show (cs.take (k + 1)).map sn0 = (cs.take k).map sn0 ++ [(⟨co, cn, cd, 0, false, 0, 0⟩ : Sn)] from take_sn (by have := HN.out; omega) HX.out.1 HX.out.2.1 HX.out.2.2]
             exact HR1.out.set (by show w.heap.size < _; omega) _
           · exact ((((hh.out.2.2.2.trans (Fr.of_below HBB.out _ (by show w.heap.size < _; omega))).trans (Fr.of_below HBX.out _ (by exact hx2))).grownN HG1.out (fun g' e => Nat.not_lt.1 (fun hl => HSR.out.own (by rw [HJ0.out.2.2.2] at hl; exact hl) e)) (by rw [HJ0.out.2.2.2]; show w.heap.size < _; omega)).set _))
        | (simp [intOf]; omega)
    · have hkn : k = n := by omega
      subst hkn
      have HFIN := Lib.hid (new_fin hh.out.2.1 hh.out.2.2.1 hh.out.2.2.2 HJ0.out.1 HJ0.out.2.1 HJ0.out.2.2.1 HJ0.out.2.2.2 HN.out)
      go_wp2_with fail
      go_ret2
      refine .inl ⟨?_, rfl, sv, HFIN.out⟩
      unfold newE
      have hall := hh.out.1
      rw [List.take_of_length_le (by have := HN.out; omega)] at hall
      rw [if_neg (by have := HN.out; omega), if_pos hall]
end Go.Proofs.YtebacmmfjadalaaGreat

namespace Go.Proofs.YtebacmmfjadalaaGreat
open Go Go.RowKit Go.WideShapes

theorem run_append_els (B D : Nat) (t : TypeId) (ht : Tryz.prog.underlying t = some (.slice 63)) (w : World) (v u : Value) (xs ys : List El) (hr : Row B w v xs) (hB : B ≤ w.heap.size) (hu : Row D w u ys) (hlen : xs.length + ys.length ≤ 1099511627776) (ty : TypeId) :
    ∃ v' w', (Builtin.append_ #[t, t] ty #[v, u]).run Tryz.prog w = .ok v' w' ∧ Row B w' v' (xs ++ ys) ∧ w.grownBy w' v.ownBlock ∧ (v'.ownBlock = v.ownBlock ∨ v'.ownBlock = some w.heap.size) := by
  obtain ⟨i0, hi0, hz0, hz1, hz2⟩ := info_parts infoT
  rcases hu.2 with ⟨hn, h0⟩ | ⟨g, cap, cur, hv, h1, h2, -⟩
  · have hy : ys = [] := by
      cases ys with
      | nil => rfl
      | cons a l => simp at h0
    subst hy hn
    rw [List.append_nil]
    refine ⟨v, w, ?_, hr, ⟨rfl, rfl, rfl, Nat.le_refl _, fun _ _ _ => rfl⟩, .inl rfl⟩
    rcases hr.2 with ⟨h3, h4⟩ | ⟨g', cap', cur', h3, h4, h5, h6⟩
    · rw [h3]
      simp [Builtin.append_, run_underlying ht, sizeOf, typeInfo, hi0, Builtin.lenOf, Builtin.firstCells]
    · rw [h3]
      simp [Builtin.append_, run_underlying ht, sizeOf, typeInfo, hi0, Builtin.lenOf, Builtin.firstCells, h6.1, storeCells]
  · subst hv
    obtain ⟨v', w', hrun, hown, hg, -, hat⟩ := run_append_own_at (P := Tryz.prog) w B t ty 63 i0 _ 5 48 ht hi0 hz0 hz1 hz2 rfl (by omega) v xs.length (flat xs) hr
      ⟨g, 0, none⟩ ys.length cap (flat ys) (flat_len _) (fun j q hq => by
        have hj : j < ys.length * 5 := by
          have := (List.getElem?_eq_some_iff.1 hq).1
          rwa [flat_len] at this
        rw [add_plain, Nat.zero_add]
        exact (World.ownsRow.cellAt hu j (by omega)).trans hq) (flat_one _) (by simp only [maxLen]; omega) (by omega) hB
    refine ⟨v', w', hrun, ?_, hg, hat⟩
    unfold Row
    rw [List.length_append, flat_app]
    exact hown
section
variable (w : World)
theorem wp_append_els {o : Oper} {a : Act} {K : Act → World → Prop} {Q : Exit → Act → World → Prop} (s x : Operand) (t : TypeId) (B D : Nat)
    (ho : o.op = .call { callee := .builtin .append, args := #[s, x], argTypes := #[t, t] }) (ht : Tryz.prog.underlying t = some (.slice 63)) (v u : Value) (xs ys : List El) (hs : a.eval s = v) (hx : a.eval x = u) (hr : Row B w v xs) (hB : B ≤ w.heap.size) (hu : Row D w u ys) (hlen : xs.length + ys.length ≤ 1099511627776)
    (h : ∀ v' w', Row B w' v' (xs ++ ys) → w.grownBy w' v.ownBlock → (v'.ownBlock = v.ownBlock ∨ v'.ownBlock = some w.heap.size) → K (a.put o.dst v') w') : o.wp Tryz.prog a w K Q := by
  obtain ⟨v', w', hrun, h2, h3, h4⟩ := run_append_els B D t ht w v u xs ys hr hB hu hlen o.type
  unfold Oper.wp execOp
  simp only [ho, resolve, invoke, builtin, Sem.run_bind, Sem.run_pure, Result.andThen_ok, List.map_toArray, List.map_cons, List.map_nil, hs, hx, hrun]
  exact h v' w' h2 h3 h4
theorem wpList_append_els {ops : Array Oper} {rest : List Oper} {o : Oper} {a : Act} {Q : Exit → Act → World → Prop} (hgd : o.guard = none) (s x : Operand) (t : TypeId) (B D : Nat)
    (ho : o.op = .call { callee := .builtin .append, args := #[s, x], argTypes := #[t, t] }) (ht : Tryz.prog.underlying t = some (.slice 63)) (v u : Value) (xs ys : List El) (hs : a.eval s = v) (hx : a.eval x = u) (hr : Row B w v xs) (hB : B ≤ w.heap.size) (hu : Row D w u ys) (hlen : xs.length + ys.length ≤ 1099511627776)
    (h : ∀ v' w', Row B w' v' (xs ++ ys) → w.grownBy w' v.ownBlock → (v'.ownBlock = v.ownBlock ∨ v'.ownBlock = some w.heap.size) → wpList Tryz.prog ops Q rest (a.put o.dst v') w') : wpList Tryz.prog ops Q (o :: rest) a w :=
  wpList_plain hgd fun _ hK => wp_append_els w s x t B D ho ht v u xs ys hs hx hr hB hu hlen fun v' w' h2 h3 h4 => hK _ _ (h v' w' h2 h3 h4)
end

theorem infoC : (Tryz.prog.info? 53).map (fun i => (i.zero, i.size, i.bytes)) = some (some (.agg #[.int .i64 0, .int .i64 0, .int .i64 0]), 3, 24) := by kernel_rfl
def flat3 : List (Int × Int × Int) → List Value
  | [] => []
  | c :: l => .int .i64 c.1 :: .int .i64 c.2.1 :: .int .i64 c.2.2 :: flat3 l
theorem flat3_len : ∀ cs : List (Int × Int × Int), (flat3 cs).length = cs.length * 3
  | [] => rfl
  | c :: l => by simp [flat3, flat3_len l]; omega
theorem flat3_get : ∀ (cs : List (Int × Int × Int)) (i : Nat), i < cs.length → (flat3 cs)[i * 3]? = some (.int .i64 (cs.getD i (0, 0, 0)).1) ∧ (flat3 cs)[i * 3 + 1]? = some (.int .i64 (cs.getD i (0, 0, 0)).2.1) ∧ (flat3 cs)[i * 3 + 2]? = some (.int .i64 (cs.getD i (0, 0, 0)).2.2)
  | [], _, h => by simp at h
  | c :: l, 0, _ => by simp [flat3]
  | c :: l, i + 1, h => by
    have := flat3_get l i (by simpa using h)
    rw [show (i + 1) * 3 = i * 3 + 1 + 1 + 1 by omega, show i * 3 + 1 + 1 + 1 + 1 = (i * 3 + 1) + 1 + 1 + 1 by omega, show i * 3 + 1 + 1 + 1 + 2 = (i * 3 + 2) + 1 + 1 + 1 by omega]
    simpa [flat3] using this
theorem flat3_one : ∀ cs : List (Int × Int × Int), ∀ u ∈ flat3 cs, u.oneCell' = true
  | [], u, h => by simp [flat3] at h
  | c :: l, u, h => by
    simp only [flat3, List.mem_cons] at h
    rcases h with rfl | rfl | rfl | h
    · rfl
    · rfl
    · rfl
    · exact flat3_one l u h
/-- clocks appended to the nil slice: clocks in new memory -/
theorem run_append_clocks (w : World) (A : Option Addr) (n c : Nat) (cs : List (Int × Int × Int)) (hn : cs.length = n) (h : ClRow w A cs) (hA : n = 0 ∨ A ≠ none) (hl : n * 24 ≤ 140737488355328) (ty : TypeId) :
    ∃ A' c' w', (Builtin.append_ #[22, 22] ty #[.slice none 0 0, .slice A n c]).run Tryz.prog w = .ok (.slice A' n c') w' ∧ ClRow w' A' cs ∧ Below w.heap.size w w' := by
  obtain ⟨i0, hi0, hz0, hz1, hz2⟩ := info_parts infoC
  rcases Nat.eq_zero_or_pos n with h0 | h0
  · subst h0
    have hcs : cs = [] := List.length_eq_zero_iff.1 hn
    cases A with
    | none =>
      refine ⟨none, 0, w, ?_, .inl hcs, Below.refl _ _⟩
      simp [Builtin.append_, run_underlying Tryz.underlying22, sizeOf, typeInfo, hi0, Builtin.lenOf, Builtin.firstCells]
    | some ad =>
      obtain ⟨v', w', hrun, hown, hg, -, -⟩ := run_append_own_at (P := Tryz.prog) w w.heap.size 22 ty 53 i0 _ 3 24 Tryz.underlying22 hi0 hz0 hz1 hz2 rfl (by omega) (.slice none 0 0) 0 [] (World.ownsRow_nil _ _ _ _)
        ad 0 c [] rfl (fun j u hu => by simp at hu) (fun u hu => by simp at hu) (by simp only [maxLen]; omega) (by omega) (Nat.le_refl _)
      rcases hown.2 with ⟨h1, -⟩ | ⟨g, cap, cur, h1, -⟩
      · exact ⟨none, 0, w', by rw [hrun, h1], .inl hcs, (Below.refl _ _).grown hg (Nat.le_refl _) (by simp [Value.ownBlock])⟩
      · exact ⟨_, _, w', by rw [hrun, h1], .inl hcs, (Below.refl _ _).grown hg (Nat.le_refl _) (by simp [Value.ownBlock])⟩
  · have hne : cs ≠ [] := by intro e; rw [e] at hn; simp at hn; omega
    rcases h with h | ⟨b, off, rfl, hb, hcell⟩
    · exact absurd h hne
    obtain ⟨v', w', hrun, hown, hg, -, -⟩ := run_append_own_at (P := Tryz.prog) w w.heap.size 22 ty 53 i0 _ 3 24 Tryz.underlying22 hi0 hz0 hz1 hz2 rfl (by omega) (.slice none 0 0) 0 [] (World.ownsRow_nil _ _ _ _)
      ⟨b, off, none⟩ n c (flat3 cs) (by rw [flat3_len, hn]) (fun j u hu => by
        have hj : j < cs.length * 3 := by
          have := (List.getElem?_eq_some_iff.1 hu).1
          rwa [flat3_len] at this
        have hq := flat3_get cs (j / 3) (by omega)
        have hcq := hcell (j / 3) (by omega)
        rw [add_plain]
        rcases (show j = j / 3 * 3 ∨ j = j / 3 * 3 + 1 ∨ j = j / 3 * 3 + 2 by omega) with hjj | hjj | hjj
        · rw [hjj] at hu ⊢
          rw [hq.1] at hu
          rw [← hu]
          exact hcq.1
        · rw [hjj] at hu ⊢
          rw [hq.2.1] at hu
          rw [← hu]
          exact hcq.2.1
        · rw [hjj] at hu ⊢
          rw [hq.2.2] at hu
          rw [← hu]
          exact hcq.2.2) (flat3_one cs) (by simp only [maxLen]; omega) (by omega) (Nat.le_refl _)
    rw [Nat.zero_add, List.nil_append] at hown
    rcases hown.2 with ⟨h1, h2⟩ | ⟨g, cap, cur, h1, h2, h3, -⟩
    · omega
    · refine ⟨_, _, w', by rw [hrun, h1], .inr ⟨g, 0, rfl, (Array.getElem?_eq_some_iff.1 h3).1, fun i hi => ?_⟩, (Below.refl _ _).grown hg (Nat.le_refl _) (by simp [Value.ownBlock])⟩
      have hq := flat3_get cs i hi
      rw [h1] at hown
      have hc := fun j u (hu : (flat3 cs)[j]? = some u) => (World.ownsRow.cellAt hown j (by
        have := (List.getElem?_eq_some_iff.1 hu).1
        rw [flat3_len] at this
        omega)).trans hu
      rw [Nat.zero_add]
      exact ⟨hc _ _ hq.1, hc _ _ hq.2.1, hc _ _ hq.2.2⟩
section
variable (w : World)
theorem wp_append_clocks {o : Oper} {a : Act} {K : Act → World → Prop} {Q : Exit → Act → World → Prop} (s x : Operand)
    (ho : o.op = .call { callee := .builtin .append, args := #[s, x], argTypes := #[22, 22] }) (A : Option Addr) (n c : Nat) (cs : List (Int × Int × Int)) (hs : a.eval s = .slice none 0 0) (hx : a.eval x = .slice A n c) (hn : cs.length = n) (hm : ClRow w A cs) (hA : n = 0 ∨ A ≠ none) (hl : n * 24 ≤ 140737488355328)
    (h : ∀ A' c' w', ClRow w' A' cs → Below w.heap.size w w' → K (a.put o.dst (.slice A' n c')) w') : o.wp Tryz.prog a w K Q := by
  obtain ⟨A', c', w', hrun, h2, h3⟩ := run_append_clocks w A n c cs hn hm hA hl o.type
  unfold Oper.wp execOp
  simp only [ho, resolve, invoke, builtin, Sem.run_bind, Sem.run_pure, Result.andThen_ok, List.map_toArray, List.map_cons, List.map_nil, hs, hx, hrun]
  exact h A' c' w' h2 h3
theorem wpList_append_clocks {ops : Array Oper} {rest : List Oper} {o : Oper} {a : Act} {Q : Exit → Act → World → Prop} (hgd : o.guard = none) (s x : Operand)
    (ho : o.op = .call { callee := .builtin .append, args := #[s, x], argTypes := #[22, 22] }) (A : Option Addr) (n c : Nat) (cs : List (Int × Int × Int)) (hs : a.eval s = .slice none 0 0) (hx : a.eval x = .slice A n c) (hn : cs.length = n) (hm : ClRow w A cs) (hA : n = 0 ∨ A ≠ none) (hl : n * 24 ≤ 140737488355328)
    (h : ∀ A' c' w', ClRow w' A' cs → Below w.heap.size w w' → wpList Tryz.prog ops Q rest (a.put o.dst (.slice A' n c')) w') : wpList Tryz.prog ops Q (o :: rest) a w :=
  wpList_plain hgd fun _ hK => wp_append_clocks w s x ho A n c cs hs hx hn hm hA hl fun A' c' w' h2 h3 => hK _ _ (h A' c' w' h2 h3)
end
end Go.Proofs.YtebacmmfjadalaaGreat
