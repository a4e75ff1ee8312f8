/- J12 J13 J14 in one text. -/
import Derived.Test.YtebacmmfjadalaaGreatP08

namespace Go.Proofs.YtebacmmfjadalaaGreat
open Go Go.RowKit

/-- a joiner's own cells -/
structure Jn where
  sen : Value
  win : Int
  wait : Value
  some : Bool
  top : Int
  hor : Int
  ct : Int
  cd : Int
  co : Int
  cl : Int
  cs : Int
def JnAt (w : World) (x : Nat) (j : Jn) : Prop :=
  w.cell? ⟨x, 0, none⟩ = some j.sen ∧ w.cell? ⟨x, 1, none⟩ = some (.int .i64 j.win) ∧ w.cell? ⟨x, 2, none⟩ = some j.wait ∧ w.cell? ⟨x, 3, none⟩ = some (.bool j.some) ∧ w.cell? ⟨x, 4, none⟩ = some (.int .i64 j.top) ∧ w.cell? ⟨x, 5, none⟩ = some (.int .i64 j.hor) ∧
  (w.cell? ⟨x, 6, none⟩ = some (.int .i64 j.ct) ∧ w.cell? ⟨x, 7, none⟩ = some (.int .i64 j.cd) ∧ w.cell? ⟨x, 8, none⟩ = some (.int .i64 j.co) ∧ w.cell? ⟨x, 9, none⟩ = some (.int .i64 j.cl) ∧ w.cell? ⟨x, 10, none⟩ = some (.int .i64 j.cs)) ∧ w.cell? ⟨x, 11, none⟩ = some (.bool true)
def riseT (j : Jn) (t : Int) : Int := if j.some = false ∨ j.top < t then t else j.top
def riseM (j : Jn) (t : Int) : Int := max (riseT j t - j.win) (-1125899906842624)
def riseH (j : Jn) (t : Int) : Int := if j.some = false ∨ j.hor < riseM j t then riseM j t else j.hor
def riseJ (j : Jn) (t : Int) : Jn := { j with some := true, top := riseT j t, hor := riseH j t }

set_option maxRecDepth 8000 in
set_option maxHeartbeats 2000000 in
theorem rise_any (x : Nat) (j : Jn) (t : Int) (w : World) (hj : JnAt w x j) (hz : ∀ i, w.frozen? ⟨x, i, none⟩ = false) (b1 : -2251799813685248 ≤ t) (b2 : t ≤ 2251799813685248) (b3 : -2251799813685248 ≤ j.top) (b4 : j.top ≤ 2251799813685248) (b5 : 0 ≤ j.win) (b6 : j.win ≤ 2251799813685248) :
    Calls Tryz.prog 37 #[.pointer (some ⟨x, 0, none⟩), .int .i64 t] w fun e w' => e = .returned (.tuple #[]) ∧ JnAt w' x (riseJ j t) ∧ Ch w w' none (fun a => a = ⟨x, 3, none⟩ ∨ a = ⟨x, 4, none⟩ ∨ a = ⟨x, 5, none⟩) := by
  have HJ := Lib.hid hj
  obtain ⟨S, win, V, sm, top, hor, ct, cd, co, cl, cs⟩ := j
  obtain ⟨g0, g1, g2, g3, g4, g5, -, -⟩ := hj
  simp only at g0 g1 g2 g3 g4 g5 b3 b4 b5 b6 ⊢
  have HR := Lib.hid ((Ch.refl w none (fun a => a = (⟨x, 3, none⟩ : Addr) ∨ a = ⟨x, 4, none⟩ ∨ a = ⟨x, 5, none⟩)))
  cases sm
  · have HT := Lib.hid (show riseJ ⟨S, win, V, false, top, hor, ct, cd, co, cl, cs⟩ t = ⟨S, win, V, true, t, max (t - win) (-1125899906842624), ct, cd, co, cl, cs⟩ by simp [riseJ, riseH, riseM, riseT])
    go_enter Tryz.func37, Tryz.ntmps37
    go_wp2_with fail
    go_region
    all_goals go_wp2_with fail
    all_goals go_end0
    all_goals (
      refine ⟨rfl, ?_, ((((HR.out.set (.inr (.inl rfl)) _).set (.inr (.inr rfl)) _).set (.inl rfl) _).drew)⟩
      rw [HT.out]
      obtain ⟨g0, g1, g2, g3, g4, g5, ⟨g6, g7, g8, g9, g10⟩, g11⟩ := HJ.out
      simp only at g0 g1 g2 g3 g4 g5 g6 g7 g8 g9 g10 g11
      simp [JnAt, go_sem, g0, g1, g2, g3, g4, g5, g6, g7, g8, g9, g10, g11])
  · by_cases c1 : top < t
    · have k1 : -4503599627370496 ≤ t - win := by omega
      have k2 : t - win ≤ 4503599627370496 := by omega
      by_cases c2 : hor < max (t - win) (-1125899906842624)
      · have HT := Lib.hid (show riseJ ⟨S, win, V, true, top, hor, ct, cd, co, cl, cs⟩ t = ⟨S, win, V, true, t, max (t - win) (-1125899906842624), ct, cd, co, cl, cs⟩ by simp [riseJ, riseH, riseM, riseT, c1, c2])
        go_enter Tryz.func37, Tryz.ntmps37
        go_wp2_with fail
        go_region
        all_goals go_wp2_with fail
        all_goals go_end0
        all_goals (
          refine ⟨rfl, ?_, ((((HR.out.set (.inr (.inl rfl)) _).set (.inr (.inr rfl)) _).set (.inl rfl) _).drew)⟩
          rw [HT.out]
          obtain ⟨g0, g1, g2, g3, g4, g5, ⟨g6, g7, g8, g9, g10⟩, g11⟩ := HJ.out
          simp only at g0 g1 g2 g3 g4 g5 g6 g7 g8 g9 g10 g11
          simp [JnAt, go_sem, g0, g1, g2, g3, g4, g5, g6, g7, g8, g9, g10, g11])
      · have HT := Lib.hid (show riseJ ⟨S, win, V, true, top, hor, ct, cd, co, cl, cs⟩ t = ⟨S, win, V, true, t, hor, ct, cd, co, cl, cs⟩ by simp [riseJ, riseH, riseM, riseT, c1, c2])
        go_enter Tryz.func37, Tryz.ntmps37
        go_wp2_with fail
        go_region
        all_goals go_wp2_with fail
        all_goals go_end0
        all_goals (
          refine ⟨rfl, ?_, (((HR.out.set (.inr (.inl rfl)) _).set (.inl rfl) _).drew)⟩
          rw [HT.out]
          obtain ⟨g0, g1, g2, g3, g4, g5, ⟨g6, g7, g8, g9, g10⟩, g11⟩ := HJ.out
          simp only at g0 g1 g2 g3 g4 g5 g6 g7 g8 g9 g10 g11
          simp [JnAt, go_sem, g0, g1, g2, g3, g4, g5, g6, g7, g8, g9, g10, g11])
    · have k1 : -4503599627370496 ≤ top - win := by omega
      have k2 : top - win ≤ 4503599627370496 := by omega
      by_cases c2 : hor < max (top - win) (-1125899906842624)
      · have HT := Lib.hid (show riseJ ⟨S, win, V, true, top, hor, ct, cd, co, cl, cs⟩ t = ⟨S, win, V, true, top, max (top - win) (-1125899906842624), ct, cd, co, cl, cs⟩ by simp [riseJ, riseH, riseM, riseT, c1, c2])
        go_enter Tryz.func37, Tryz.ntmps37
        go_wp2_with fail
        go_region
        all_goals go_wp2_with fail
        all_goals go_end0
        all_goals (
          refine ⟨rfl, ?_, (((HR.out.set (.inr (.inr rfl)) _).set (.inl rfl) _).drew)⟩
          rw [HT.out]
          obtain ⟨g0, g1, g2, g3, g4, g5, ⟨g6, g7, g8, g9, g10⟩, g11⟩ := HJ.out
          simp only at g0 g1 g2 g3 g4 g5 g6 g7 g8 g9 g10 g11
          simp [JnAt, go_sem, g0, g1, g2, g3, g4, g5, g6, g7, g8, g9, g10, g11])
      · have HT := Lib.hid (show riseJ ⟨S, win, V, true, top, hor, ct, cd, co, cl, cs⟩ t = ⟨S, win, V, true, top, hor, ct, cd, co, cl, cs⟩ by simp [riseJ, riseH, riseM, riseT, c1, c2])
        go_enter Tryz.func37, Tryz.ntmps37
        go_wp2_with fail
        go_region
        all_goals go_wp2_with fail
        all_goals go_end0
        all_goals (
          refine ⟨rfl, ?_, ((HR.out.set (.inl rfl) _).drew)⟩
          rw [HT.out]
          obtain ⟨g0, g1, g2, g3, g4, g5, ⟨g6, g7, g8, g9, g10⟩, g11⟩ := HJ.out
          simp only at g0 g1 g2 g3 g4 g5 g6 g7 g8 g9 g10 g11
          simp [JnAt, go_sem, g0, g1, g2, g3, g4, g5, g6, g7, g8, g9, g10, g11])
end Go.Proofs.YtebacmmfjadalaaGreat

namespace Go.Proofs.YtebacmmfjadalaaGreat
open Go Go.RowKit

set_option maxRecDepth 8000 in
set_option maxHeartbeats 2000000 in
theorem least_any (g cap n : Nat) (xs : List El) (a : El) (w : World) (hp : Pl w g cap xs) (ha : xs[0]? = some a) (h0 : 0 < n) (h63 : n ≤ 1099511627776) :
    Calls Tryz.prog 147 #[.slice (some ⟨g, 0, none⟩) n cap] w fun e w' => e = .returned a.val ∧ Below w.heap.size w w' := by
  obtain ⟨a0, a1, a2, a3, a4⟩ := hp.cells ha
  have hg := hp.lt
  obtain ⟨at_, se, sq, st, v, vn, vc, vb⟩ := a
  unfold El.val
  simp only [Nat.zero_mul, Nat.zero_add] at a0 a1 a2 a3 a4 ⊢
  have i1 : (0 : Int) < (n : Int) := by omega
  have hb := (Below.refl w.heap.size w).alloc (Nat.le_refl _) (.cells #[.int .i64 0, .int .i64 0, .int .u32 0, .int .u32 0, .slice none 0 0] 63)
  have b0 := (hb.cell (p := ⟨g, 0, none⟩) hg).trans a0
  have b1 := (hb.cell (p := ⟨g, 1, none⟩) hg).trans a1
  have b2 := (hb.cell (p := ⟨g, 2, none⟩) hg).trans a2
  have b3 := (hb.cell (p := ⟨g, 3, none⟩) hg).trans a3
  have b4 := (hb.cell (p := ⟨g, 4, none⟩) hg).trans a4
  have HB := Lib.hid hb
  clear hb hp ha
  go_enter Tryz.func147, Tryz.ntmps147
  go_wp2_with fail
  exact bodyPost_ret (by simp only [results, Tryz.results147]; simp [go_sem]; try rfl) rfl ⟨rfl, (Below.refl w.heap.size w).alloc (Nat.le_refl _) _⟩

section
variable (w : World)
theorem wp_append_el {o : Oper} {a : Act} {K : Act → World → Prop} {Q : Exit → Act → World → Prop} (s x : Operand) (t : TypeId) (B : Nat)
    (ho : o.op = .call { callee := .builtin .append, args := #[s, x], argTypes := #[t, t] }) (ht : Tryz.prog.underlying t = some (.slice 63)) (v : Value) (xs : List El) (e : El) (hs : a.eval s = v) (hr : Row B w v xs) (hB : B ≤ w.heap.size) (hlen : xs.length ≤ 1099511627776)
    (ad : Addr) (c : Nat) (hx : a.eval x = .slice (some ad) 1 c) (hnews : ∀ j, j < 5 → w.cell? (ad.add j) = e.row[j]?)
    (h : ∀ v' w', Row B w' v' (xs ++ [e]) → w.grownBy w' v.ownBlock → (v'.ownBlock = v.ownBlock ∨ v'.ownBlock = some w.heap.size) → K (a.put o.dst v') w') : o.wp Tryz.prog a w K Q := by
  obtain ⟨v', w', hrun, h2, h3, h4⟩ := run_append_el B t ht w v xs e hr hB hlen ad c hnews o.type
  unfold Oper.wp execOp
  simp only [ho, resolve, invoke, builtin, Sem.run_bind, Sem.run_pure, Result.andThen_ok, List.map_toArray, List.map_cons, List.map_nil, hs, hx, hrun]
  exact h v' w' h2 h3 h4
theorem wpList_append_el {ops : Array Oper} {rest : List Oper} {o : Oper} {a : Act} {Q : Exit → Act → World → Prop} (hgd : o.guard = none) (s x : Operand) (t : TypeId) (B : Nat)
    (ho : o.op = .call { callee := .builtin .append, args := #[s, x], argTypes := #[t, t] }) (ht : Tryz.prog.underlying t = some (.slice 63)) (v : Value) (xs : List El) (e : El) (hs : a.eval s = v) (hr : Row B w v xs) (hB : B ≤ w.heap.size) (hlen : xs.length ≤ 1099511627776)
    (ad : Addr) (c : Nat) (hx : a.eval x = .slice (some ad) 1 c) (hnews : ∀ j, j < 5 → w.cell? (ad.add j) = e.row[j]?)
    (h : ∀ v' w', Row B w' v' (xs ++ [e]) → w.grownBy w' v.ownBlock → (v'.ownBlock = v.ownBlock ∨ v'.ownBlock = some w.heap.size) → wpList Tryz.prog ops Q rest (a.put o.dst v') w') : wpList Tryz.prog ops Q (o :: rest) a w :=
  wpList_plain hgd fun _ hK => wp_append_el w s x t B ho ht v xs e hs hr hB hlen ad c hx hnews fun v' w' h2 h3 h4 => hK _ _ (h v' w' h2 h3 h4)
end

theorem Row.fr {B : Nat} {w w' : World} {v : Value} {xs : List El} (h : Row B w v xs) {o : Option Nat} {pa : Addr} (hf : Fr w w' o pa) (ho : ∀ g, o = some g → g < B) (hp : pa.block < B) : Row B w' v xs := by
  refine ⟨h.1, ?_⟩
  rcases h.2 with hn | ⟨g, cap, cur, hv, h1, h2, h3⟩
  · exact .inl hn
  · refine .inr ⟨g, cap, cur, hv, h1, ?_, h3⟩
    rw [hf.block g (Array.getElem?_eq_some_iff.1 h2).1 (by omega) (fun e => by have := ho g e.symm; omega)]
    exact h2
theorem Pl.grownO {w w' : World} {g cap : Nat} {xs : List El} (h : Pl w g cap xs) {o : Option Nat} (hg : w.grownBy w' o) (ho : o ≠ some g) : Pl w' g cap xs := by
  have hl := h.lt
  refine ⟨h.1, ?_⟩
  rcases h.2 with ⟨h', _⟩ | ⟨g', cap', cur, h', h1, h2, h3⟩
  · simp at h'
  · have e1 : g = g' := by injection h' with e1; injection e1 with e1; injection e1
    subst e1
    exact .inr ⟨g, cap', cur, h', h1, (hg.block g hl (fun e => ho e.symm)).trans h2, h3⟩
theorem Fr.grownN {w w1 w2 : World} {o o' : Option Nat} {pa : Addr} (h : Fr w w1 o pa) (k : w1.grownBy w2 o') (hn : ∀ g, o' = some g → w.heap.size ≤ g) (hpa : pa.block < w.heap.size) : Fr w w2 o pa := by
  have hne : ∀ i, i < w.heap.size → some i ≠ o' := fun i hi e => by have := hn i e.symm; omega
  refine ⟨k.os.trans h.os, k.tape.trans h.tape, k.output.trans h.output, Nat.le_trans h.size k.size, fun i h1 h2 h3 => ?_, fun a h1 h2 => ?_, fun a h1 => ?_⟩
  · rw [k.block i (Nat.lt_of_lt_of_le h1 h.size) (hne i h1), h.block i h1 h2 h3]
  · rw [World.cell?_of_block (k.block a.block (by rw [h1]; exact Nat.lt_of_lt_of_le hpa h.size) (hne _ (by rw [h1]; exact hpa))), h.cell a h1 h2]
  · rw [World.frozen?_of_block (k.block a.block (by rw [h1]; exact Nat.lt_of_lt_of_le hpa h.size) (hne _ (by rw [h1]; exact hpa))), h.frozen a h1]

/-- what is due, and what is left -/
def dueL (C : El → El → Int) : Nat → List El → Int → List El → List El × List El
  | 0, xs, _, out => (out, xs)
  | f + 1, xs, bef, out => match xs[0]? with
    | none => (out, xs)
    | some a => if a.at_ < bef then dueL C f (popL C xs (xs.length - 1)) bef (out ++ [a]) else (out, xs)

theorem el_val (a : El) : a.val = .agg #[.int .i64 a.at_, .int .i64 a.se, .int .u32 a.sq, .int .u32 a.st, .slice a.v a.n a.c] := rfl
theorem field_at (a b c d : Int) (v : Option Addr) (n k : Nat) (w : World) : Sem.run Tryz.prog (Instr.field 63 (.agg #[.int .i64 a, .int .i64 b, .int .u32 c, .int .u32 d, .slice v n k]) 0) w = .ok (.int .i64 a) w := by kernel_rfl
theorem row_new' (w : World) (a b c d : Int) (v : Option Addr) (n k : Nat) (T : TypeId) : ∀ j, j < 5 → (w.alloc (.cells #[.int .i64 a, .int .i64 b, .int .u32 c, .int .u32 d, .slice v n k] T)).cell? ((⟨w.heap.size, 0, none⟩ : Addr).add j) = (El.row ⟨a, b, c, d, v, n, k, []⟩)[j]? := row_new w a b c d v n k T
theorem due_fin {B D x : Nat} {v0 v ov u : Value} {cs : Int} {w wr : World} {T : List El × List El} {outs ys : List El} {n : Nat} (hT : T = (outs, ys)) (ho : Row D wr ov outs) (hr : Row B wr v ys) (hc : wr.cell? ⟨x, 2, none⟩ = some v) (hv : v.ownBlock = v0.ownBlock)
    (hF : Fr w wr v0.ownBlock ⟨x, 2, none⟩) (hD : x < D) (hB : x < B) (hu : wr.cell? ⟨x, 10, none⟩ = some u) (hn : outs.length = n) :
    ∃ ov' v', Ending.returned ov = Ending.returned ov' ∧ Row D (wr.setCell ⟨x, 10, none⟩ (.int .i64 (cs + (n : Int)))) ov' T.1 ∧ Row B (wr.setCell ⟨x, 10, none⟩ (.int .i64 (cs + (n : Int)))) v' T.2 ∧ (wr.setCell ⟨x, 10, none⟩ (.int .i64 (cs + (n : Int)))).cell? ⟨x, 2, none⟩ = some v' ∧ v'.ownBlock = v0.ownBlock ∧
      (wr.setCell ⟨x, 10, none⟩ (.int .i64 (cs + (n : Int)))).cell? ⟨x, 10, none⟩ = some (.int .i64 (cs + T.1.length)) ∧ Ch w (wr.setCell ⟨x, 10, none⟩ (.int .i64 (cs + (n : Int)))) v0.ownBlock (fun a => a = ⟨x, 2, none⟩ ∨ a = ⟨x, 10, none⟩) := by
  subst hT hn
  refine ⟨ov, v, rfl, ho.set hD _, hr.set hB _, ?_, hv, ?_, ((Ch.of_fr hF).mono (.inl rfl) (fun _ h => .inl h)).set (.inr rfl) _⟩
  · rw [World.cell?_setCell_other _ _ _ _ (by intro e; injection e with _ e _; omega)]
    exact hc
  · simp [go_sem, hu]

set_option maxRecDepth 8000 in
set_option maxHeartbeats 4000000 in
theorem due_walk (C : El → El → Int) (B x : Nat) (v0 : Value) (xs : List El) (bef cs : Int) (w : World) (hr : Row B w v0 xs) (hB : B ≤ w.heap.size) (hxB : x < B) (hc : w.cell? ⟨x, 2, none⟩ = some v0) (hs : w.cell? ⟨x, 10, none⟩ = some (.int .i64 cs)) (hz : ∀ i, w.frozen? ⟨x, i, none⟩ = false) (hlen : xs.length ≤ 1099511627776)
    (s0 : 0 ≤ cs) (s1 : cs ≤ 4611686018427387904)
    (hC : ∀ a ∈ xs, ∀ b ∈ xs, ∀ W, Fr w W v0.ownBlock ⟨x, 2, none⟩ → Calls Tryz.prog 81 #[a.val, b.val] W fun e w' => e = .returned (.int .i64 (C a b)) ∧ Below W.heap.size W w') :
    Calls Tryz.prog 38 #[.pointer (some ⟨x, 0, none⟩), .iface 101 (.pointer (some ⟨x, 2, none⟩)), .int .i64 bef] w fun e w' => ∃ ov v', e = .returned ov ∧ Row w.heap.size w' ov (dueL C (xs.length + 1) xs bef []).1 ∧ Row B w' v' (dueL C (xs.length + 1) xs bef []).2 ∧
      w'.cell? ⟨x, 2, none⟩ = some v' ∧ v'.ownBlock = v0.ownBlock ∧ w'.cell? ⟨x, 10, none⟩ = some (.int .i64 (cs + (dueL C (xs.length + 1) xs bef []).1.length)) ∧ Ch w w' v0.ownBlock (fun a => a = ⟨x, 2, none⟩ ∨ a = ⟨x, 10, none⟩) := by
  obtain ⟨T, hT⟩ : ∃ T, dueL C (xs.length + 1) xs bef [] = T := ⟨_, rfl⟩
  rw [hT]
  have hx : x < w.heap.size := by omega
  have H0 := Lib.hid (show Row w.heap.size w (.slice none 0 0) [] ∧ Row B w v0 xs ∧ w.cell? ⟨x, 2, none⟩ = some v0 ∧ dueL C (xs.length + 1) xs bef [] = T ∧ (∀ a ∈ xs, a ∈ xs) ∧ Fr w w v0.ownBlock ⟨x, 2, none⟩ from ⟨World.ownsRow_nil _ _ _ _, hr, hc, hT, fun _ h => h, Fr.refl _ _ _⟩)
  have HC := Lib.hid hC
  have HS := Lib.hid (And.intro hc hs)
  have HZ := Lib.hid hz
  clear hr hC hT hc hs hz
  go_enter Tryz.func38, Tryz.ntmps38
  go_wp2_with fail
  go_loopg [7] (xs.length + 1) (fun f ov wr => ∃ (ys outs : List El) (v : Value), ys.length < f ∧ outs.length + ys.length = xs.length ∧ Hid (Row w.heap.size wr ov outs ∧ Row B wr v ys ∧ wr.cell? ⟨x, 2, none⟩ = some v ∧ dueL C f ys bef outs = T ∧ (∀ a ∈ ys, a ∈ xs) ∧ Fr w wr v0.ownBlock ⟨x, 2, none⟩ ∧ v.ownBlock = v0.ownBlock))
  case atStart => exact ⟨xs, [], v0, by omega, by simp, Lib.hid ⟨H0.out.1, H0.out.2.1, H0.out.2.2.1, H0.out.2.2.2.1, H0.out.2.2.2.2.1, H0.out.2.2.2.2.2, rfl⟩⟩
  case round =>
    obtain ⟨ys, outs, v, hf, hl, hh⟩ := hrel
    obtain ⟨f, rfl⟩ : ∃ f', gk = f' + 1 := ⟨gk - 1, by omega⟩
    obtain ⟨A, c, rfl⟩ := hh.out.2.1.slice
    obtain ⟨oA, oc, rfl⟩ := hh.out.1.slice
    have hcell := hh.out.2.2.1
    have hsum : wr.cell? ⟨x, 10, none⟩ = some (.int .i64 cs) := (hh.out.2.2.2.2.2.1.cell ⟨x, 10, none⟩ rfl (by intro e; injection e with _ e _; omega)).trans HS.out.2
    have hfz : wr.frozen? ⟨x, 10, none⟩ = false := (hh.out.2.2.2.2.2.1.frozen ⟨x, 10, none⟩ rfl).trans (HZ.out 10)
    cases ys with
    | nil =>
      have HT : Hid (T = (outs, [])) := Lib.hid (by rw [← hh.out.2.2.2.1]; rfl)
      have hlenm := method_val (fuel := 309) m_len ⟨x, 2, none⟩ _ _ _ wr hcell
      go_wp2_with fail
      refine (len_any _ _ _ _).mono ?_
      rintro e1 w1 ⟨rfl, rfl⟩
      clear hlenm
      go_wp2_with fail
      go_ret
      exact due_fin HT.out hh.out.1 hh.out.2.1 hcell hh.out.2.2.2.2.2.2 hh.out.2.2.2.2.2.1 hx hxB hsum rfl
    | cons a ys =>
      obtain ⟨g, cap, hvg, hBg, hpl⟩ := hh.out.2.1.pl (by simp)
      injection hvg with e1 _ e3
      subst e1 e3
      have hgw : g < w.heap.size := by
        have hov := hh.out.2.2.2.2.2.2
        obtain ⟨gg, _, hv0, _, hpl0⟩ := H0.out.2.1.pl (by simp at hl; omega)
        rw [hv0] at hov
        simp only [Value.ownBlock] at hov
        injection hov with hov
        rw [hov]
        exact hpl0.lt
      have hxg : x ≠ g := by omega
      have hxr : x < wr.heap.size := Nat.lt_of_lt_of_le hx hh.out.2.2.2.2.2.1.size
      obtain ⟨n, hn⟩ : ∃ n, ys.length = n := ⟨_, rfl⟩
      have hn1 : (a :: ys).length = n + 1 := by simp [hn]
      have hD : Hid (dueL C (f + 1) (a :: ys) bef outs = if a.at_ < bef then dueL C f (popL C (a :: ys) n) bef (outs ++ [a]) else (outs, a :: ys)) := Lib.hid (by rw [dueL]; simp [hn])
      rw [hn1] at hcell hf hl
      have HPL := Lib.hid (And.intro hpl hn1)
      have hlenm := method_val (fuel := 309) m_len ⟨x, 2, none⟩ _ _ _ wr hcell
      have hlst := method_val (fuel := 309) m_least ⟨x, 2, none⟩ _ _ _ wr hcell
      have HLE := Lib.hid (least_any g c (n + 1) (a :: ys) a wr hpl rfl (by omega) (by omega))
      have HPO := Lib.hid (fun W1 (hb : Below wr.heap.size wr W1) => hpop_any C ⟨x, 2, none⟩ g c n (a :: ys) a W1 (hpl.below hb) hn1 rfl ((hb.cell (by exact hxr)).trans hcell) ((hb.frozen (by exact hxr)).trans ((hh.out.2.2.2.2.2.1.frozen ⟨x, 2, none⟩ rfl).trans (HZ.out 2))) hxg (Nat.lt_of_lt_of_le hxr hb.size) (by omega)
        (fun p hp q hq W hW => HC.out p (hh.out.2.2.2.2.1 p hp) q (hh.out.2.2.2.2.1 q hq) W (by
          have hfr := (hh.out.2.2.2.2.2.1.trans (Fr.of_below hb _ (by exact hxr)))
          rw [← hh.out.2.2.2.2.2.2] at hfr ⊢
          exact hfr.trans hW)))
      have hta := assert_timed a.val
      clear hpl
      have hEl := el_val a
      rw [hEl] at HLE hta
      simp only [hEl] at HPO
      clear hEl
      have hfld := field_at a.at_ a.se a.sq a.st a.v a.n a.c
      go_wp2_with fail
      refine (len_any _ _ _ _).mono ?_
      rintro e1 w1 ⟨rfl, rfl⟩
      clear hlenm
      go_wp2_with fail
      refine HLE.out.mono ?_
      rintro e1 w1 ⟨rfl, hb1⟩
      have hcell1 := (hb1.cell (p := ⟨x, 2, none⟩) (by exact hxr)).trans hcell
      have hsum1 := (hb1.cell (p := ⟨x, 10, none⟩) (by exact hxr)).trans hsum
      have hfz1 := (hb1.frozen (p := ⟨x, 10, none⟩) (by exact hxr)).trans hfz
      have HB1 := Lib.hid hb1
      have HF1 := Lib.hid (hh.out.2.2.2.2.2.1.trans (Fr.of_below hb1 _ (by exact hxr)))
      clear hb1 hlst HLE hcell hsum hfz
      by_cases hlt : a.at_ < bef
      · have HT : Hid (T = dueL C f (popL C (a :: ys) n) bef (outs ++ [a])) := Lib.hid (by rw [← hh.out.2.2.2.1, hD.out, if_pos hlt])
        go_wp2_with fail
        refine (HPO.out _ HB1.out).mono ?_
        rintro e1 w2 ⟨rfl, hp2, hc2, hF2⟩
        have HP2 := Lib.hid (And.intro hp2 (And.intro hc2 hF2))
        have hw12 : w.heap.size ≤ w2.heap.size := Nat.le_trans HF1.out.size hF2.size
        have HO2 := Lib.hid ((hh.out.1.below HB1.out).fr hF2 (fun g' e => by injection e with e; subst e; exact hgw) (by exact hx))
        clear hp2 hc2 hF2 HPO
        have HBX := Lib.hid ((Below.refl w2.heap.size w2).alloc (Nat.le_refl _) (.cells #[.int .i64 a.at_, .int .i64 a.se, .int .u32 a.sq, .int .u32 a.st, .slice a.v a.n a.c] 63))
        go_wp2_with (at_builtin; refine wpList_append_el _ rfl _ _ 41 w.heap.size rfl Tryz.underlying41 (.slice oA outs.length oc) outs a rfl (HO2.out.below HBX.out) (Nat.le_trans hw12 HBX.out.size) (by omega) ⟨w2.heap.size, 0, none⟩ 1 rfl (row_new' w2 _ _ _ _ _ _ _ _) ?_; intro v' w3 hr3 hg3 ha3; have HR3 := Lib.hid (And.intro hr3 (And.intro hg3 ha3)); clear hr3 hg3 ha3)
        have hog : (Value.slice oA outs.length oc).ownBlock ≠ some g := HO2.out.own hgw
        have hPl3 := (HP2.out.1.below HBX.out).grownO HR3.out.2.1 hog
        have hox : (Value.slice oA outs.length oc).ownBlock ≠ some x := HO2.out.own hx
        have hx2 : x < w2.heap.size := Nat.lt_of_lt_of_le hx hw12
        have hc3 := (grownO_cell HR3.out.2.1 (p := ⟨x, 2, none⟩) (Nat.lt_of_lt_of_le hx2 HBX.out.size) hox).trans ((HBX.out.cell (p := ⟨x, 2, none⟩) (by exact hx2)).trans HP2.out.2.1)
        have hF2 : Fr w w2 v0.ownBlock ⟨x, 2, none⟩ := by
          have h := HP2.out.2.2
          have h0 := HF1.out
          rw [← hh.out.2.2.2.2.2.2] at h0 ⊢
          exact h0.trans h
        have hF3 := (hF2.trans (Fr.of_below HBX.out _ (by exact hx2))).grownN HR3.out.2.1 (fun g' e => by
          refine Nat.not_lt.1 fun hlt' => ?_
          exact HO2.out.own hlt' e) (by exact hx)
        have HFIN := Lib.hid (And.intro hPl3 (And.intro hc3 hF3))
        clear hPl3 hc3 hF2 hF3
        have hln := popL_len (C := C) HPL.out.2
        have hR := HFIN.out.1.row hBg
        rw [hln] at hR
        have HRR := Lib.hid hR
        have HLN := Lib.hid hln
        clear hR hln
        go_roundg f
        case measure => omega
        case rel => exact ⟨popL C (a :: ys) n, outs ++ [a], .slice (some ⟨g, 0, none⟩) n c, by rw [HLN.out]; omega, by rw [List.length_append, HLN.out]; simp; omega, Lib.hid ⟨HR3.out.1, HRR.out, HFIN.out.2.1, HT.out.symm, fun e he => hh.out.2.2.2.2.1 e (popL_mem he), HFIN.out.2.2, hh.out.2.2.2.2.2.2⟩⟩
      · have HT : Hid (T = (outs, a :: ys)) := Lib.hid (by rw [← hh.out.2.2.2.1, hD.out, if_neg hlt])
        go_wp2_with fail
        go_ret
        exact due_fin HT.out (hh.out.1.below HB1.out) (hh.out.2.1.below HB1.out) (by rw [show (a :: ys).length = n + 1 from HPL.out.2]; exact hcell1) hh.out.2.2.2.2.2.2 HF1.out hx hxB hsum1 rfl
end Go.Proofs.YtebacmmfjadalaaGreat

namespace Go.Proofs.YtebacmmfjadalaaGreat
open Go Go.RowKit Go.WideShapes

theorem infoSn : (Tryz.prog.info? 81).map (fun i => (i.zero, i.size, i.bytes)) = some (some (.agg #[.int .i64 0, .int .i64 0, .int .i64 0, .int .i64 0, .bool false, .int .u32 0, .int .u64 0]), 7, 48) := by kernel_rfl
def Sn.row (s : Sn) : List Value := [.int .i64 s.o, .int .i64 s.n, .int .i64 s.d, .int .i64 s.last, .bool s.some, .int .u32 s.most, .int .u64 s.taken]
def flat7 : List Sn → List Value
  | [] => []
  | s :: l => s.row ++ flat7 l
theorem flat7_len : ∀ xs : List Sn, (flat7 xs).length = xs.length * 7
  | [] => rfl
  | e :: l => by simp [flat7, Sn.row, flat7_len l]; omega
theorem flat7_app : ∀ xs ys : List Sn, flat7 (xs ++ ys) = flat7 xs ++ flat7 ys
  | [], _ => rfl
  | e :: l, ys => by simp [flat7, flat7_app l ys]
theorem flat7_one : ∀ xs : List Sn, ∀ u ∈ flat7 xs, u.oneCell' = true
  | [], u, h => by simp [flat7] at h
  | e :: l, u, h => by
    rw [flat7, List.mem_append] at h
    rcases h with h | h
    · simp only [Sn.row, List.mem_cons, List.not_mem_nil, or_false] at h
      rcases h with rfl | rfl | rfl | rfl | rfl | rfl | rfl <;> rfl
    · exact flat7_one l u h
theorem flat7_get : ∀ (xs : List Sn) (i j : Nat) (e : Sn), xs[i]? = some e → j < 7 → (flat7 xs)[i * 7 + j]? = e.row[j]?
  | [], i, j, e, h, _ => by simp at h
  | x :: l, 0, j, e, h, hj => by
    simp at h
    subst h
    rw [flat7, Nat.zero_mul, Nat.zero_add, List.getElem?_append_left (by simpa [Sn.row] using hj)]
  | x :: l, i + 1, j, e, h, hj => by
    simp at h
    rw [flat7, List.getElem?_append_right (by simp [Sn.row]; omega), show (i + 1) * 7 + j - x.row.length = i * 7 + j by simp [Sn.row]; omega]
    exact flat7_get l i j e h hj
/-- sensors in a row of the call's own, in blocks from B on -/
def SRow (B : Nat) (w : World) (v : Value) (xs : List Sn) : Prop := w.ownsRow B 81 7 v xs.length (flat7 xs)
theorem SRow.below {B : Nat} {w w' : World} {v : Value} {xs : List Sn} (h : SRow B w v xs) (hb : Below w.heap.size w w') : SRow B w' v xs := by
  refine ⟨h.1, ?_⟩
  rcases h.2 with hn | ⟨g, cap, cur, hv, h1, h2, h3⟩
  · exact .inl hn
  · exact .inr ⟨g, cap, cur, hv, h1, (hb.block g (Array.getElem?_eq_some_iff.1 h2).1).trans h2, h3⟩
theorem SRow.slice {B : Nat} {w : World} {v : Value} {xs : List Sn} (h : SRow B w v xs) : ∃ A c, v = .slice A xs.length c := by
  rcases h.2 with ⟨hn, h0⟩ | ⟨g, cap, cur, hv, -⟩
  · exact ⟨none, 0, by rw [hn, h0]⟩
  · exact ⟨_, _, hv⟩
theorem SRow.own {B : Nat} {w : World} {v : Value} {xs : List Sn} (h : SRow B w v xs) {k : Nat} (hk : k < B) : v.ownBlock ≠ some k := by
  rcases h.2 with ⟨hn, h0⟩ | ⟨g, cap, cur, hv, h1, -⟩
  · rw [hn]; simp [Value.ownBlock]
  · rw [hv]
    simp only [Value.ownBlock]
    intro e
    injection e with e
    omega
theorem SRow.set {B : Nat} {w : World} {v : Value} {xs : List Sn} (h : SRow B w v xs) {p : Addr} (hk : p.block < B) (u : Value) : SRow B (w.setCell p u) v xs := by
  refine ⟨h.1, ?_⟩
  rcases h.2 with hn | ⟨g, cap, cur, hv, h1, h2, h3⟩
  · exact .inl hn
  · refine .inr ⟨g, cap, cur, hv, h1, ?_, h3⟩
    rw [← h2]
    simp only [World.setCell, Array.getElem?_modify]
    rw [if_neg (by omega)]
/-- a sensor in its place -/
theorem SRow.at {B : Nat} {w : World} {v : Value} {xs : List Sn} (h : SRow B w v xs) {i : Nat} {s : Sn} (hi : xs[i]? = some s) : ∃ g cap, v = .slice (some ⟨g, 0, none⟩) xs.length cap ∧ B ≤ g ∧ g < w.heap.size ∧ SnAt w g (i * 7) s ∧ (∀ j, w.frozen? ⟨g, j, none⟩ = false) := by
  have hil : i < xs.length := (List.getElem?_eq_some_iff.1 hi).1
  rcases h.2 with ⟨hn, h0⟩ | ⟨g, cap, cur, hv, h1, h2, h3⟩
  · omega
  · subst hv
    have hc : ∀ j, j < 7 → w.cell? ⟨g, i * 7 + j, none⟩ = s.row[j]? := fun j hj => (World.ownsRow.cellAt h (i * 7 + j) (by omega)).trans (flat7_get xs i j s hi hj)
    exact ⟨g, cap, rfl, h1, (Array.getElem?_eq_some_iff.1 h2).1, ⟨hc 0 (by omega), hc 1 (by omega), hc 2 (by omega), hc 3 (by omega), hc 4 (by omega), hc 5 (by omega), hc 6 (by omega)⟩, fun j => World.ownsRow.frozenAt h j⟩

theorem step_append_sn {B : Nat} {ops : Array Oper} {o : Oper} {a : Act} {w : World} {K : Act → World → Prop} {Q : Exit → Act → World → Prop} {E : Prop} (hg : o.guard = none) (s x : Operand) (t : TypeId)
    (hop : o.op = Op.call { callee := Callee.builtin Builtin.append, args := #[s, x], argTypes := #[t, t] }) (ht : Tryz.prog.underlying t = some (.slice 81)) (v : Value) (xs : List Sn) (e : Sn) (hs : a.eval s = v) (hr : SRow B w v xs) (hB : B ≤ w.heap.size) (hlen : xs.length ≤ 1099511627776)
    (ad : Addr) (c : Nat) (hx : a.eval x = .slice (some ad) 1 c) (hnews : ∀ j, j < 7 → w.cell? (ad.add j) = e.row[j]?)
    (hK : ∀ v' w', SRow B w' v' (xs ++ [e]) → w.grownBy w' v.ownBlock → (v'.ownBlock = v.ownBlock ∨ v'.ownBlock = some w.heap.size) → K (a.put o.dst v') w') :
    if Region.wanted o (yielded ops a.tmps) = true then Oper.wp Tryz.prog o a w K Q else E := by
  have hw : Region.wanted o (yielded ops a.tmps) = true := by simp [Region.wanted, hg]
  rw [if_pos hw]
  obtain ⟨i0, hi0, hz0, hz1, hz2⟩ := info_parts infoSn
  obtain ⟨v', w', hrun, hown, hgr, -, hat⟩ := run_append_own_at (P := Tryz.prog) w B t o.type 81 i0 _ 7 48 ht hi0 hz0 hz1 hz2 rfl (by omega) v xs.length (flat7 xs) hr
    ad 1 c (flat7 [e]) (flat7_len _) (fun j u hu => by
      have hj : j < 7 := by
        have := (List.getElem?_eq_some_iff.1 hu).1
        rwa [flat7_len] at this
      rw [hnews j hj]
      rwa [flat7, flat7, List.append_nil] at hu) (flat7_one _) (by simp only [maxLen]; omega) (by omega) hB
  unfold Oper.wp
  simp [execOp, hop, resolve, invoke, builtin, hs, hx, hrun, Result.andThen]
  refine hK v' w' ?_ hgr hat
  unfold SRow
  rw [List.length_append, flat7_app]
  exact hown
theorem sn_new (w : World) (a b c d : Int) (s : Bool) (m t : Int) (T : TypeId) : ∀ j, j < 7 → (w.alloc (.cells #[.int .i64 a, .int .i64 b, .int .i64 c, .int .i64 d, .bool s, .int .u32 m, .int .u64 t] T)).drew.cell? ((⟨w.heap.size, 0, none⟩ : Addr).add j) = (Sn.row ⟨a, b, c, d, s, m, t⟩)[j]? := by
  intro j hj
  rw [Go.WideShapes.add_plain, Nat.zero_add]
  rcases (by omega : j = 0 ∨ j = 1 ∨ j = 2 ∨ j = 3 ∨ j = 4 ∨ j = 5 ∨ j = 6) with rfl | rfl | rfl | rfl | rfl | rfl | rfl <;> simp [go_sem, Sn.row]
end Go.Proofs.YtebacmmfjadalaaGreat
