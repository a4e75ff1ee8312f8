/- J14 A4 J15 A5 in one text. -/
import Derived.Test.YtebacmmfjadalaaGreatP09
import Derived.Test.YtebacmmfjadalaaGreatP04

namespace Go.Proofs.YtebacmmfjadalaaGreat
open Go Go.RowKit Go.WideShapes

theorem infoSn : (Tryz.prog.info? 81).map (fun i => (i.zero, i.size, i.bytes)) = some (some (.agg #[.int .i64 0, .int .i64 0, .int .i64 0, .int .i64 0, .bool false, .int .u32 0, .int .u64 0]), 7, 48) := by kernel_rfl
def Sn.row (s : Sn) : List Value := [.int .i64 s.o, .int .i64 s.n, .int .i64 s.d, .int .i64 s.last, .bool s.some, .int .u32 s.most, .int .u64 s.taken]
def flat7 : List Sn → List Value
  | [] => []
  | s :: l => s.row ++ flat7 l
theorem flat7_len : ∀ xs : List Sn, (flat7 xs).length = xs.length * 7
  | [] => rfl
  | e :: l => by simp [flat7, Sn.row, flat7_len l]; omega
theorem flat7_app : ∀ xs ys : List Sn, flat7 (xs ++ ys) = flat7 xs ++ flat7 ys
  | [], _ => rfl
  | e :: l, ys => by simp [flat7, flat7_app l ys]
theorem flat7_one : ∀ xs : List Sn, ∀ u ∈ flat7 xs, u.oneCell' = true
  | [], u, h => by simp [flat7] at h
  | e :: l, u, h => by
    rw [flat7, List.mem_append] at h
    rcases h with h | h
    · simp only [Sn.row, List.mem_cons, List.not_mem_nil, or_false] at h
      rcases h with rfl | rfl | rfl | rfl | rfl | rfl | rfl <;> rfl
    · exact flat7_one l u h
theorem flat7_get : ∀ (xs : List Sn) (i j : Nat) (e : Sn), xs[i]? = some e → j < 7 → (flat7 xs)[i * 7 + j]? = e.row[j]?
  | [], i, j, e, h, _ => by simp at h
  | x :: l, 0, j, e, h, hj => by
    simp at h
    subst h
    rw [flat7, Nat.zero_mul, Nat.zero_add, List.getElem?_append_left (by simpa [Sn.row] using hj)]
  | x :: l, i + 1, j, e, h, hj => by
    simp at h
    rw [flat7, List.getElem?_append_right (by simp [Sn.row]; omega), show (i + 1) * 7 + j - x.row.length = i * 7 + j by simp [Sn.row]; omega]
    exact flat7_get l i j e h hj
/-- sensors in a row of the call's own, in blocks from B on -/
def SRow (B : Nat) (w : World) (v : Value) (xs : List Sn) : Prop := w.ownsRow B 81 7 v xs.length (flat7 xs)
theorem SRow.below {B : Nat} {w w' : World} {v : Value} {xs : List Sn} (h : SRow B w v xs) (hb : Below w.heap.size w w') : SRow B w' v xs := by
  refine ⟨h.1, ?_⟩
  rcases h.2 with hn | ⟨g, cap, cur, hv, h1, h2, h3⟩
  · exact .inl hn
  · exact .inr ⟨g, cap, cur, hv, h1, (hb.block g (Array.getElem?_eq_some_iff.1 h2).1).trans h2, h3⟩
theorem SRow.slice {B : Nat} {w : World} {v : Value} {xs : List Sn} (h : SRow B w v xs) : ∃ A c, v = .slice A xs.length c := by
  rcases h.2 with ⟨hn, h0⟩ | ⟨g, cap, cur, hv, -⟩
  · exact ⟨none, 0, by rw [hn, h0]⟩
  · exact ⟨_, _, hv⟩
theorem SRow.own {B : Nat} {w : World} {v : Value} {xs : List Sn} (h : SRow B w v xs) {k : Nat} (hk : k < B) : v.ownBlock ≠ some k := by
  rcases h.2 with ⟨hn, h0⟩ | ⟨g, cap, cur, hv, h1, -⟩
  · rw [hn]; simp [Value.ownBlock]
  · rw [hv]
    simp only [Value.ownBlock]
    intro e
    injection e with e
    omega
theorem SRow.set {B : Nat} {w : World} {v : Value} {xs : List Sn} (h : SRow B w v xs) {p : Addr} (hk : p.block < B) (u : Value) : SRow B (w.setCell p u) v xs := by
  refine ⟨h.1, ?_⟩
  rcases h.2 with hn | ⟨g, cap, cur, hv, h1, h2, h3⟩
  · exact .inl hn
  · refine .inr ⟨g, cap, cur, hv, h1, ?_, h3⟩
    rw [← h2]
    simp only [World.setCell, Array.getElem?_modify]
    rw [if_neg (by omega)]
/-- a sensor in its place -/
theorem SRow.at {B : Nat} {w : World} {v : Value} {xs : List Sn} (h : SRow B w v xs) {i : Nat} {s : Sn} (hi : xs[i]? = some s) : ∃ g cap, v = .slice (some ⟨g, 0, none⟩) xs.length cap ∧ B ≤ g ∧ g < w.heap.size ∧ SnAt w g (i * 7) s ∧ (∀ j, w.frozen? ⟨g, j, none⟩ = false) := by
  have hil : i < xs.length := (List.getElem?_eq_some_iff.1 hi).1
  rcases h.2 with ⟨hn, h0⟩ | ⟨g, cap, cur, hv, h1, h2, h3⟩
  · omega
  · subst hv
    have hc : ∀ j, j < 7 → w.cell? ⟨g, i * 7 + j, none⟩ = s.row[j]? := fun j hj => (World.ownsRow.cellAt h (i * 7 + j) (by omega)).trans (flat7_get xs i j s hi hj)
    exact ⟨g, cap, rfl, h1, (Array.getElem?_eq_some_iff.1 h2).1, ⟨hc 0 (by omega), hc 1 (by omega), hc 2 (by omega), hc 3 (by omega), hc 4 (by omega), hc 5 (by omega), hc 6 (by omega)⟩, fun j => World.ownsRow.frozenAt h j⟩

theorem step_append_sn {B : Nat} {ops : Array Oper} {o : Oper} {a : Act} {w : World} {K : Act → World → Prop} {Q : Exit → Act → World → Prop} {E : Prop} (hg : o.guard = none) (s x : Operand) (t : TypeId)
    (hop : o.op = Op.call { callee := Callee.builtin Builtin.append, args := #[s, x], argTypes := #[t, t] }) (ht : Tryz.prog.underlying t = some (.slice 81)) (v : Value) (xs : List Sn) (e : Sn) (hs : a.eval s = v) (hr : SRow B w v xs) (hB : B ≤ w.heap.size) (hlen : xs.length ≤ 1099511627776)
    (ad : Addr) (c : Nat) (hx : a.eval x = .slice (some ad) 1 c) (hnews : ∀ j, j < 7 → w.cell? (ad.add j) = e.row[j]?)
    (hK : ∀ v' w', SRow B w' v' (xs ++ [e]) → w.grownBy w' v.ownBlock → (v'.ownBlock = v.ownBlock ∨ v'.ownBlock = some w.heap.size) → K (a.put o.dst v') w') :
    if Region.wanted o (yielded ops a.tmps) = true then Oper.wp Tryz.prog o a w K Q else E := by
  have hw : Region.wanted o (yielded ops a.tmps) = true := by simp [Region.wanted, hg]
  rw [if_pos hw]
  obtain ⟨i0, hi0, hz0, hz1, hz2⟩ := info_parts infoSn
  obtain ⟨v', w', hrun, hown, hgr, -, hat⟩ := run_append_own_at (P := Tryz.prog) w B t o.type 81 i0 _ 7 48 ht hi0 hz0 hz1 hz2 rfl (by omega) v xs.length (flat7 xs) hr
    ad 1 c (flat7 [e]) (flat7_len _) (fun j u hu => by
      have hj : j < 7 := by
        have := (List.getElem?_eq_some_iff.1 hu).1
        rwa [flat7_len] at this
      rw [hnews j hj]
      rwa [flat7, flat7, List.append_nil] at hu) (flat7_one _) (by simp only [maxLen]; omega) (by omega) hB
  unfold Oper.wp
  simp [execOp, hop, resolve, invoke, builtin, hs, hx, hrun, Result.andThen]
  refine hK v' w' ?_ hgr hat
  unfold SRow
  rw [List.length_append, flat7_app]
  exact hown
theorem sn_new (w : World) (a b c d : Int) (s : Bool) (m t : Int) (T : TypeId) : ∀ j, j < 7 → (w.alloc (.cells #[.int .i64 a, .int .i64 b, .int .i64 c, .int .i64 d, .bool s, .int .u32 m, .int .u64 t] T)).drew.cell? ((⟨w.heap.size, 0, none⟩ : Addr).add j) = (Sn.row ⟨a, b, c, d, s, m, t⟩)[j]? := by
  intro j hj
  rw [Go.WideShapes.add_plain, Nat.zero_add]
  rcases (by omega : j = 0 ∨ j = 1 ∨ j = 2 ∨ j = 3 ∨ j = 4 ∨ j = 5 ∨ j = 6) with rfl | rfl | rfl | rfl | rfl | rfl | rfl <;> simp [go_sem, Sn.row]
end Go.Proofs.YtebacmmfjadalaaGreat

namespace Go.Proofs.YtebacmmfjadalaaGreat
open Go.RowKit

theorem withinT (n : Int) (w : World) :
    Calls Tryz.prog 48 #[.int .i64 n, .int .i64 1125899906842624] w fun e w' => e = .returned (.bool (Ck.inT n)) ∧ w = w' :=
  within_any n 1125899906842624 w (by omega) (by omega)

theorem check_ok (o n d : Int) (w : World) (k : Ck.okc o n d = true) :
    Calls Tryz.prog 21 #[.agg #[.int .i64 o, .int .i64 n, .int .i64 d]] w fun e w' => e = .returned (.int .i64 0) ∧ Below w.heap.size w w' := by
  have h := check_any o n d w
  rw [k] at h
  exact h
theorem check_bad (o n d : Int) (w : World) (k : Ck.okc o n d = false) :
    Calls Tryz.prog 21 #[.agg #[.int .i64 o, .int .i64 n, .int .i64 d]] w fun e w' => e = .returned (.int .i64 130) ∧ Below w.heap.size w w' := by
  have h := check_any o n d w
  rw [k] at h
  exact h
theorem plain_ok (o n d c t : Int) (w : World) (k : Ck.okc o n d = true) (kc : Ck.inT c = true) (kf : Ck.fits (c * n) d = true) (ht : o + c * n / d = t) :
    Calls Tryz.prog 57 #[.agg #[.int .i64 o, .int .i64 n, .int .i64 d], .int .i64 c] w fun e w' => e = .returned (.tuple #[.int .i64 t, .bool true]) ∧ Below w.heap.size w w' := by
  have h := plain_any o n d c w k (Ck.inT_iff.1 kc).1 (Ck.inT_iff.1 kc).2
  simp only [kf, if_true, ht] at h
  exact h
theorem plain_no (o n d c : Int) (w : World) (k : Ck.okc o n d = true) (kc : Ck.inT c = true) (kf : Ck.fits (c * n) d = false) :
    Calls Tryz.prog 57 #[.agg #[.int .i64 o, .int .i64 n, .int .i64 d], .int .i64 c] w fun e w' => e = .returned (.tuple #[.int .i64 o, .bool false]) ∧ Below w.heap.size w w' := by
  have h := plain_any o n d c w k (Ck.inT_iff.1 kc).1 (Ck.inT_iff.1 kc).2
  simp only [kf, Bool.false_eq_true, if_false, Int.add_zero] at h
  exact h
theorem below2 {w w1 : World} {o : Obj} (hb1 : Below (w.alloc o).heap.size (w.alloc o) w1) : Below w.heap.size w w1 := ((Below.refl _ _).alloc (Nat.le_refl _) _).trans (hb1.mono (by simp))
theorem below3 {w w1 w2 : World} {o : Obj} (hb1 : Below (w.alloc o).heap.size (w.alloc o) w1) (hb2 : Below w1.heap.size w1 w2) : Below w.heap.size w w2 := (below2 hb1).trans (hb2.mono (by have := hb1.size; simp at this; omega))

set_option maxHeartbeats 400000 in
theorem time_any (o n d c : Int) (w : World) :
    Calls Tryz.prog 32 #[clk o n d, .int .i64 c] w fun e w' => e = .returned (.tuple #[.int .i64 (Ck.timeV o n d c), .int .i64 (Ck.timeE o n d c)]) ∧ Below w.heap.size w w' := by
  by_cases k : Ck.okc o n d = true
  · have K := Lib.hid k
    by_cases kc : Ck.inT c = true
    · have KC := Lib.hid kc
      by_cases kf : Ck.fits (c * n) d = true
      · obtain ⟨t, ht⟩ : ∃ t, o + c * n / d = t := ⟨_, rfl⟩
        have KF := Lib.hid kf
        have HT := Lib.hid ht
        by_cases kt : Ck.inT t = true
        · have e1 : Ck.timeOk o n d c = true := by simp [Ck.timeOk, k, kc, ht, kt]
          rw [show Ck.timeV o n d c = t by simp [Ck.timeV, e1, ht], show Ck.timeE o n d c = 0 by simp [Ck.timeE, k, e1]]
          have KT := Lib.hid kt
          clear k kc kf ht kt e1
          unfold clk
          go_enter Tryz.func32, Tryz.ntmps32
          go_wp2_with (first | (go_at_call 21; refine (check_ok _ _ _ _ K.out).mono ?_; rintro e w1 ⟨rfl, hb1⟩; obtain ⟨hcell, -⟩ := bcell hb1) | (go_at_call 57; refine (plain_ok _ _ _ _ t _ K.out KC.out KF.out HT.out).mono ?_; rintro e w2 ⟨rfl, hb2⟩) | (go_at_call_of 48 t; refine (withinT _ _).mono ?_; rw [KT.out]; rintro e w' ⟨rfl, rfl⟩) | (go_at_call_of 48 c; refine (withinT _ _).mono ?_; rw [KC.out]; rintro e w' ⟨rfl, rfl⟩))
          go_ret2
          exact ⟨rfl, below3 hb1 hb2⟩
        · have kt' : Ck.inT t = false := by simpa using kt
          have e1 : Ck.timeOk o n d c = false := by simp [Ck.timeOk, ht, kt']
          rw [show Ck.timeV o n d c = 0 by simp [Ck.timeV, e1], show Ck.timeE o n d c = 1 by simp [Ck.timeE, k, e1]]
          have KT := Lib.hid kt'
          clear k kc kf ht kt kt' e1
          unfold clk
          go_enter Tryz.func32, Tryz.ntmps32
          go_wp2_with (first | (go_at_call 21; refine (check_ok _ _ _ _ K.out).mono ?_; rintro e w1 ⟨rfl, hb1⟩; obtain ⟨hcell, -⟩ := bcell hb1) | (go_at_call 57; refine (plain_ok _ _ _ _ t _ K.out KC.out KF.out HT.out).mono ?_; rintro e w2 ⟨rfl, hb2⟩) | (go_at_call_of 48 t; refine (withinT _ _).mono ?_; rw [KT.out]; rintro e w' ⟨rfl, rfl⟩) | (go_at_call_of 48 c; refine (withinT _ _).mono ?_; rw [KC.out]; rintro e w' ⟨rfl, rfl⟩))
          go_ret2
          exact ⟨rfl, below3 hb1 hb2⟩
      · have kf' : Ck.fits (c * n) d = false := by simpa using kf
        have e1 : Ck.timeOk o n d c = false := by
          refine Bool.eq_false_iff.2 fun h => ?_
          rw [Ck.fits_time h] at kf'
          cases kf'
        rw [show Ck.timeV o n d c = 0 by simp [Ck.timeV, e1], show Ck.timeE o n d c = 1 by simp [Ck.timeE, k, e1]]
        have KF := Lib.hid kf'
        clear k kc kf kf' e1
        unfold clk
        go_enter Tryz.func32, Tryz.ntmps32
        go_wp2_with (first | (go_at_call 21; refine (check_ok _ _ _ _ K.out).mono ?_; rintro e w1 ⟨rfl, hb1⟩; obtain ⟨hcell, -⟩ := bcell hb1) | (go_at_call 57; refine (plain_no _ _ _ _ _ K.out KC.out KF.out).mono ?_; rintro e w2 ⟨rfl, hb2⟩) | (go_at_call_of 48 c; refine (withinT _ _).mono ?_; rw [KC.out]; rintro e w' ⟨rfl, rfl⟩))
        go_ret2
        exact ⟨rfl, below3 hb1 hb2⟩
    · have kc' : Ck.inT c = false := by simpa using kc
      have e1 : Ck.timeOk o n d c = false := by simp [Ck.timeOk, kc']
      rw [show Ck.timeV o n d c = 0 by simp [Ck.timeV, e1], show Ck.timeE o n d c = 1 by simp [Ck.timeE, k, e1]]
      have KC := Lib.hid kc'
      clear k kc kc' e1
      unfold clk
      go_enter Tryz.func32, Tryz.ntmps32
      go_wp2_with (first | (go_at_call 21; refine (check_ok _ _ _ _ K.out).mono ?_; rintro e w1 ⟨rfl, hb1⟩; obtain ⟨hcell, -⟩ := bcell hb1) | (go_at_call 48; refine (withinT _ _).mono ?_; rw [KC.out]; rintro e w' ⟨rfl, rfl⟩))
      go_ret2
      exact ⟨rfl, below2 hb1⟩
  · have k' : Ck.okc o n d = false := by simpa using k
    rw [show Ck.timeV o n d c = 0 by simp [Ck.timeV, Ck.timeOk, k'], show Ck.timeE o n d c = 130 by simp [Ck.timeE, k']]
    have K := Lib.hid k'
    clear k k'
    unfold clk
    go_enter Tryz.func32, Tryz.ntmps32
    go_wp2_with (go_at_call 21; refine (check_bad _ _ _ _ K.out).mono ?_; rintro e w1 ⟨rfl, hb1⟩)
    go_ret2
    exact ⟨rfl, below2 hb1⟩
end Go.Proofs.YtebacmmfjadalaaGreat

namespace Go.Proofs.YtebacmmfjadalaaGreat
open Go Go.RowKit

def sn0 (c : Int × Int × Int) : Sn := ⟨c.1, c.2.1, c.2.2, 0, false, 0, 0⟩

theorem take_sn {cs : List (Int × Int × Int)} {k : Nat} {co cn cd : Int} (h : k < cs.length) (h1 : (cs.getD k (0, 0, 0)).1 = co) (h2 : (cs.getD k (0, 0, 0)).2.1 = cn) (h3 : (cs.getD k (0, 0, 0)).2.2 = cd) :
    (cs.take (k + 1)).map sn0 = (cs.take k).map sn0 ++ [(⟨co, cn, cd, 0, false, 0, 0⟩ : Sn)] := by
  rw [List.take_add_one, List.getElem?_eq_getElem h]
  rw [List.getD_eq_getElem?_getD, List.getElem?_eq_getElem h] at h1 h2 h3
  simp only [Option.getD_some] at h1 h2 h3
  subst h1 h2 h3
  rw [List.map_append]
  rfl
theorem new_fin {w W0 wr : World} {sv : Value} {cs : List (Int × Int × Int)} {win : Int} {k : Nat} (hr : SRow (w.heap.size + 1) wr sv ((cs.take k).map sn0)) (hc : wr.cell? ⟨w.heap.size, 0, none⟩ = some sv) (hF : Fr W0 wr none ⟨w.heap.size, 0, none⟩)
    (hj : JnAt W0 w.heap.size ⟨.slice none 0 0, win, .slice none 0 0, false, 0, 0, 0, 0, 0, 0, 0⟩) (hz : ∀ i, W0.frozen? ⟨w.heap.size, i, none⟩ = false) (hb : Below w.heap.size w W0) (hs : W0.heap.size = w.heap.size + 1) (hn : cs.length = k) :
    SRow (w.heap.size + 1) wr sv (cs.map sn0) ∧ JnAt wr w.heap.size ⟨sv, win, .slice none 0 0, false, 0, 0, 0, 0, 0, 0, 0⟩ ∧ (∀ i, wr.frozen? ⟨w.heap.size, i, none⟩ = false) ∧ w.heap.size < wr.heap.size ∧ Below w.heap.size w wr := by
  rw [List.take_of_length_le (by omega)] at hr
  have hcell : ∀ i, i ≠ 0 → wr.cell? ⟨w.heap.size, i, none⟩ = W0.cell? ⟨w.heap.size, i, none⟩ := fun i hi => hF.cell _ rfl (by intro e; injection e with _ e _; exact hi e)
  obtain ⟨g0, g1, g2, g3, g4, g5, ⟨g6, g7, g8, g9, g10⟩, g11⟩ := hj
  refine ⟨hr, ⟨hc, (hcell 1 (by omega)).trans g1, (hcell 2 (by omega)).trans g2, (hcell 3 (by omega)).trans g3, (hcell 4 (by omega)).trans g4, (hcell 5 (by omega)).trans g5, ⟨(hcell 6 (by omega)).trans g6, (hcell 7 (by omega)).trans g7, (hcell 8 (by omega)).trans g8, (hcell 9 (by omega)).trans g9, (hcell 10 (by omega)).trans g10⟩, (hcell 11 (by omega)).trans g11⟩,
    fun i => (hF.frozen ⟨w.heap.size, i, none⟩ rfl).trans (hz i), by have := hF.size; omega, ?_⟩
  exact ⟨hF.os.trans hb.os, hF.tape.trans hb.tape, hF.output.trans hb.output, Nat.le_trans hb.size hF.size, fun i hi => (hF.block i (by omega) (by show i ≠ w.heap.size; omega) (by simp)).trans (hb.block i hi)⟩

set_option maxRecDepth 8000 in
set_option maxHeartbeats 4000000 in
theorem new_any (cb coff cc n : Nat) (cs : List (Int × Int × Int)) (win : Int) (w : World) (hn : cs.length = n) (hcb : cb < w.heap.size)
    (hc : ∀ i, i < n → w.cell? ⟨cb, coff + i * 3, none⟩ = some (.int .i64 (cs.getD i (0, 0, 0)).1) ∧ w.cell? ⟨cb, coff + i * 3 + 1, none⟩ = some (.int .i64 (cs.getD i (0, 0, 0)).2.1) ∧ w.cell? ⟨cb, coff + i * 3 + 2, none⟩ = some (.int .i64 (cs.getD i (0, 0, 0)).2.2))
    (hok : ∀ i, i < n → Ck.okc (cs.getD i (0, 0, 0)).1 (cs.getD i (0, 0, 0)).2.1 (cs.getD i (0, 0, 0)).2.2 = true) (hn2 : n ≤ 64) (w0 : 0 ≤ win) (w1 : win ≤ 1125899906842624) :
    Calls Tryz.prog 6 #[.slice (some ⟨cb, coff, none⟩) n cc, .int .i64 win] w fun e w' => e = .returned (.tuple #[.pointer (some ⟨w.heap.size, 0, none⟩), .int .i64 0]) ∧
      ∃ sv, SRow (w.heap.size + 1) w' sv (cs.map sn0) ∧ JnAt w' w.heap.size ⟨sv, win, .slice none 0 0, false, 0, 0, 0, 0, 0, 0, 0⟩ ∧ (∀ i, w'.frozen? ⟨w.heap.size, i, none⟩ = false) ∧ w.heap.size < w'.heap.size ∧ Below w.heap.size w w' := by
  have HCL := Lib.hid hc
  have HOK := Lib.hid hok
  have HN := Lib.hid hn
  clear hc hok hn
  go_enter Tryz.func6, Tryz.ntmps6
  go_wp2_with fail
  have H0 := Lib.hid (show SRow (w.heap.size + 1) (w.alloc (.cells #[.slice none 0 0, .int .i64 win, .slice none 0 0, .bool false, .int .i64 0, .int .i64 0, .int .i64 0, .int .i64 0, .int .i64 0, .int .i64 0, .int .i64 0, .bool true] 77)) (.slice none 0 0) (([] : List (Int × Int × Int)).map sn0) ∧ (w.alloc (.cells #[.slice none 0 0, .int .i64 win, .slice none 0 0, .bool false, .int .i64 0, .int .i64 0, .int .i64 0, .int .i64 0, .int .i64 0, .int .i64 0, .int .i64 0, .bool true] 77)).cell? ⟨w.heap.size, 0, none⟩ = some (.slice none 0 0) ∧ Fr (w.alloc (.cells #[.slice none 0 0, .int .i64 win, .slice none 0 0, .bool false, .int .i64 0, .int .i64 0, .int .i64 0, .int .i64 0, .int .i64 0, .int .i64 0, .int .i64 0, .bool true] 77)) (w.alloc (.cells #[.slice none 0 0, .int .i64 win, .slice none 0 0, .bool false, .int .i64 0, .int .i64 0, .int .i64 0, .int .i64 0, .int .i64 0, .int .i64 0, .int .i64 0, .bool true] 77)) none ⟨w.heap.size, 0, none⟩ from ⟨World.ownsRow_nil _ _ _ _, by simp [go_sem], Fr.refl _ _ _⟩)
  have HJ0 := Lib.hid (show JnAt (w.alloc (.cells #[.slice none 0 0, .int .i64 win, .slice none 0 0, .bool false, .int .i64 0, .int .i64 0, .int .i64 0, .int .i64 0, .int .i64 0, .int .i64 0, .int .i64 0, .bool true] 77)) w.heap.size ⟨.slice none 0 0, win, .slice none 0 0, false, 0, 0, 0, 0, 0, 0, 0⟩ ∧ (∀ i, (w.alloc (.cells #[.slice none 0 0, .int .i64 win, .slice none 0 0, .bool false, .int .i64 0, .int .i64 0, .int .i64 0, .int .i64 0, .int .i64 0, .int .i64 0, .int .i64 0, .bool true] 77)).frozen? ⟨w.heap.size, i, none⟩ = false) ∧ Below w.heap.size w (w.alloc (.cells #[.slice none 0 0, .int .i64 win, .slice none 0 0, .bool false, .int .i64 0, .int .i64 0, .int .i64 0, .int .i64 0, .int .i64 0, .int .i64 0, .int .i64 0, .bool true] 77)) ∧ (w.alloc (.cells #[.slice none 0 0, .int .i64 win, .slice none 0 0, .bool false, .int .i64 0, .int .i64 0, .int .i64 0, .int .i64 0, .int .i64 0, .int .i64 0, .int .i64 0, .bool true] 77)).heap.size = w.heap.size + 1 from ⟨by unfold JnAt; simp [go_sem], fun i => by simp [go_sem], (Below.refl _ _).alloc (Nat.le_refl _) _, by simp⟩)
  generalize (w.alloc (.cells #[.slice none 0 0, .int .i64 win, .slice none 0 0, .bool false, .int .i64 0, .int .i64 0, .int .i64 0, .int .i64 0, .int .i64 0, .int .i64 0, .int .i64 0, .bool true] 77)) = W0 at *
  go_loopw [26] (fun iv wr => ∃ (k : Nat) (sv : Value), k ≤ n ∧ iv = .int .i64 (k : Int) ∧ Hid (SRow (w.heap.size + 1) wr sv ((cs.take k).map sn0) ∧ wr.cell? ⟨w.heap.size, 0, none⟩ = some sv ∧ Fr W0 wr none ⟨w.heap.size, 0, none⟩)) (fun iv _ => n - (intOf iv).toNat)
  case atStart => exact ⟨0, .slice none 0 0, by omega, rfl, H0⟩
  case round =>
    obtain ⟨k, sv, hk, rfl, hh⟩ := hrel
    by_cases hlt : k < n
    · obtain ⟨co, hco⟩ : ∃ y, (cs.getD k (0, 0, 0)).1 = y := ⟨_, rfl⟩
      obtain ⟨cn, hcn⟩ : ∃ y, (cs.getD k (0, 0, 0)).2.1 = y := ⟨_, rfl⟩
      obtain ⟨cd, hcd⟩ : ∃ y, (cs.getD k (0, 0, 0)).2.2 = y := ⟨_, rfl⟩
      have hrow := HCL.out k hlt
      have hk0 := HOK.out k hlt
      rw [hco, hcn, hcd] at hrow hk0
      have hrd : ∀ i, wr.cell? ⟨cb, i, none⟩ = w.cell? ⟨cb, i, none⟩ := fun i =>
        (World.cell?_of_block (hh.out.2.2.block cb (by rw [HJ0.out.2.2.2]; omega) (by show cb ≠ w.heap.size; omega) (by simp))).trans (HJ0.out.2.2.1.cell (p := ⟨cb, i, none⟩) hcb)
      have r0 := (hrd _).trans hrow.1
      have r1 := (hrd _).trans hrow.2.1
      have r2 := (hrd _).trans hrow.2.2
      have HX := Lib.hid (And.intro hco (And.intro hcn hcd))
      have HK0 := Lib.hid hk0
      have hki : (k : Int) < (n : Int) := by omega
      clear hrow hk0 hrd hco hcn hcd
      obtain ⟨A, c, rfl⟩ := hh.out.1.slice
      have hwr : w.heap.size + 1 ≤ wr.heap.size := by have := hh.out.2.2.size; rw [HJ0.out.2.2.2] at this; exact this
      have hlen : ((cs.take k).map sn0).length = k := by rw [List.length_map, List.length_take, Nat.min_eq_left (by have := HN.out; omega)]
      have hhc := hh.out.2.1
      rw [hlen] at hhc hh
      go_wp2_with fail
      refine (check_ok _ _ _ _ HK0.out).mono ?_
      rintro e1 w2 ⟨rfl, hb2⟩
      obtain ⟨hcell, hfrz⟩ := bcell hb2
      have hbb : Below wr.heap.size wr w2 := ((Below.refl wr.heap.size wr).alloc (Nat.le_refl _) _).trans (hb2.mono (by simp))
      have hx0 := (hbb.cell (p := ⟨w.heap.size, 0, none⟩) (by show w.heap.size < _; omega)).trans hhc
      have hf0 := (hbb.frozen (p := ⟨w.heap.size, 0, none⟩) (by show w.heap.size < _; omega)).trans ((hh.out.2.2.frozen ⟨w.heap.size, 0, none⟩ rfl).trans (HJ0.out.2.1 0))
      have q0 : w2.cell? ⟨wr.heap.size, 0, none⟩ = some (.int .i64 co) := (hcell _ _ (by simp)).trans (by simp [go_sem])
      have q1 : w2.cell? ⟨wr.heap.size, 1, none⟩ = some (.int .i64 cn) := (hcell _ _ (by simp)).trans (by simp [go_sem])
      have q2 : w2.cell? ⟨wr.heap.size, 2, none⟩ = some (.int .i64 cd) := (hcell _ _ (by simp)).trans (by simp [go_sem])
      have HBB := Lib.hid hbb
      have HBX := Lib.hid (((Below.refl w2.heap.size w2).alloc (Nat.le_refl _) (.cells #[.int .i64 co, .int .i64 cn, .int .i64 cd, .int .i64 0, .bool false, .int .u32 0, .int .u64 0] 81)).drew)
      have HSR := Lib.hid ((hh.out.1.below hbb).below HBX.out)
      have hx2 : w.heap.size < w2.heap.size := Nat.lt_of_lt_of_le (by omega : w.heap.size < wr.heap.size) hbb.size
      clear hcell hfrz hbb hb2 hhc r0 r1 r2
      go_wp2_with fail
      have hxo : (Value.slice A k c).ownBlock ≠ some w.heap.size := HSR.out.own (by omega)
      have hl1 : ((cs.take k).map sn0 ++ [(⟨co, cn, cd, 0, false, 0, 0⟩ : Sn)]).length = k + 1 := by rw [List.length_append, hlen]; rfl
      go_region_law ((refine step_append_sn rfl (.tmp 39) (.tmp 42) 74 rfl Tryz.underlying74 (.slice A k c) ((cs.take k).map sn0) ⟨co, cn, cd, 0, false, 0, 0⟩ (by simp [Act.eval]) HSR.out (Nat.le_trans (by omega : w.heap.size + 1 ≤ w2.heap.size) HBX.out.size) (by omega) ⟨w2.heap.size, 0, none⟩ 1 (by simp [Act.eval]) (sn_new w2 _ _ _ _ _ _ _ _) ?_); intro v' w3 hr1 hg1 ha1; obtain ⟨A1, c1, hv1⟩ := hr1.slice; rw [hl1] at hv1; subst hv1; have y1 := (grownO_cell hg1 (p := ⟨w.heap.size, 0, none⟩) (Nat.lt_of_lt_of_le hx2 HBX.out.size) hxo).trans ((HBX.out.cell (p := ⟨w.heap.size, 0, none⟩) (by exact hx2)).trans hx0); have y2 := (grownO_frozen hg1 (p := ⟨w.heap.size, 0, none⟩) (Nat.lt_of_lt_of_le hx2 HBX.out.size) hxo).trans ((HBX.out.frozen (p := ⟨w.heap.size, 0, none⟩) (by exact hx2)).trans hf0); have HR1 := Lib.hid hr1; have HG1 := Lib.hid hg1; clear hr1 hg1 ha1)
      all_goals go_wp2_with fail
      all_goals go_roundw
      all_goals first
        | (refine ⟨k + 1, .slice A1 (k + 1) c1, by omega, by go_num, Lib.hid ⟨?_, by simp [go_sem, y1], ?_⟩⟩
           · rw [show (cs.take (k + 1)).map sn0 = (cs.take k).map sn0 ++ [(⟨co, cn, cd, 0, false, 0, 0⟩ : Sn)] from take_sn (by have := HN.out; omega) HX.out.1 HX.out.2.1 HX.out.2.2]
             exact HR1.out.set (by show w.heap.size < _; omega) _
           · exact ((((hh.out.2.2.trans (Fr.of_below HBB.out _ (by show w.heap.size < _; omega))).trans (Fr.of_below HBX.out _ (by exact hx2))).grownN HG1.out (fun g' e => Nat.not_lt.1 (fun hl => HSR.out.own (by rw [HJ0.out.2.2.2] at hl; exact hl) e)) (by rw [HJ0.out.2.2.2]; show w.heap.size < _; omega)).set _))
        | (simp [intOf]; omega)
    · have hkn : k = n := by omega
      subst hkn
      have HFIN := Lib.hid (new_fin hh.out.1 hh.out.2.1 hh.out.2.2 HJ0.out.1 HJ0.out.2.1 HJ0.out.2.2.1 HJ0.out.2.2.2 HN.out)
      go_wp2_with fail
      go_ret2
      exact ⟨rfl, sv, HFIN.out⟩
end Go.Proofs.YtebacmmfjadalaaGreat

namespace Go.Proofs.YtebacmmfjadalaaGreat
open Go.RowKit

theorem keep_three {a b c : Addr} {x y z : Value} {B : Nat} {W0 w1 w2 : World} (h : w1.cell? a = some x ∧ w1.cell? b = some y ∧ w1.cell? c = some z ∧ Below B W0 w1) (hb : Below w1.heap.size w1 w2) (hB : B ≤ W0.heap.size) (ha : a.block < B) (hb' : b.block < B) (hc : c.block < B) :
    w2.cell? a = some x ∧ w2.cell? b = some y ∧ w2.cell? c = some z ∧ Below B W0 w2 := by
  have hs := h.2.2.2.size
  exact ⟨(hb.cell (by omega)).trans h.1, (hb.cell (by omega)).trans h.2.1, (hb.cell (by omega)).trans h.2.2.1, h.2.2.2.trans (hb.mono (by omega))⟩

end Go.Proofs.YtebacmmfjadalaaGreat
