/- L8 I1 I2 I3 in one text. -/
import Derived.Test.YtebacmmfjadalaaGreatP29
import Derived.Test.YtebacmmfjadalaaGreatP24
import Derived.SizedLaws
import Derived.Deep.Slices
import Derived.Deep.Fields
import Derived.ChangeSame
import Derived.Test.YtebacmmfjadalaaGreatP23

namespace Go.Proofs.YtebacmmfjadalaaGreat
open Go Go.RowKit Go.WideShapes

theorem sink_srt {xs : List El} {n : Nat} {e : El} (hn : xs.length = n) (h : xs.Pairwise (Le cmpK)) : (sinkL cmpK (n + 1) (xs ++ [e]) n).Pairwise (Le cmpK) := by
  have hst : ∀ (f : Nat) (ys : List El) (j : Nat), j < f → ys.length = n + 1 → j ≤ n → InsSt cmpK ys 0 (n + 1) j → Srt cmpK (sinkL cmpK f ys j) 0 (n + 1) := by
    intro f
    induction f with
    | zero => intro ys j h1 h2 h3 h4; omega
    | succ f ih =>
      intro ys j h1 h2 h3 h4
      rw [sinkL]
      split
      · rename_i hc
        obtain ⟨q, rfl⟩ : ∃ q, j = q + 1 := ⟨j - 1, by omega⟩
        rw [Nat.add_sub_cancel] at hc ⊢
        exact ih _ _ (by omega) (by rw [hsw_len]; exact h2) (by omega) (ins_step cmpK_swo h4 (Nat.zero_le _) (by omega) (by omega) hc.2)
      · rename_i hc
        refine ins_stop cmpK_swo h4 (by omega) (Nat.zero_le _) ?_
        by_cases e : j = 0
        · exact .inl e
        · right
          cases hl : ltAt cmpK ys j (j - 1) with
          | false => rfl
          | true => exact absurd ⟨by omega, hl⟩ hc
  have hl : (xs ++ [e]).length = n + 1 := by rw [List.length_append, hn]; rfl
  refine srt_pair (hst (n + 1) (xs ++ [e]) n (by omega) hl (Nat.le_refl _) (ins_start ?_)) (by rw [sink_len]; exact hl)
  intro i k h1 h2 h3 a b ha hb
  rw [List.getElem?_append_left (by omega)] at ha hb
  obtain ⟨q1, rfl⟩ := List.getElem?_eq_some_iff.1 ha
  obtain ⟨q2, rfl⟩ := List.getElem?_eq_some_iff.1 hb
  exact List.pairwise_iff_getElem.1 h i k q1 q2 h2

structure ROrdSt (w wr : World) (ov : Value) (zs xs : List El) : Prop where
  row : Row w.heap.size wr ov zs
  perm : zs.Perm xs
  srt : zs.Pairwise (Le cmpK)
  bel : Below w.heap.size w wr

set_option maxRecDepth 8000 in
set_option maxHeartbeats 4000000 in
theorem rlist_any (v : Value) (xs : List El) (w : World) (hx : TlAt w v xs) (hok : ∀ e ∈ xs, ElOk w e ∧ W32 e) (hlen : xs.length ≤ 1099511627776) :
    Calls Tryz.prog 15 #[v] w fun e w' => ∃ v' ys, e = .returned v' ∧ Row w.heap.size w' v' ys ∧ ys.Perm xs ∧ ys.Pairwise (Le cmpK) ∧ Below w.heap.size w w' := by
  have HX := Lib.hid (And.intro hx hok)
  obtain ⟨A, c, rfl, hxx⟩ := hx
  obtain ⟨n, hn⟩ : ∃ n, xs.length = n := ⟨_, rfl⟩
  have HN := Lib.hid hn
  rw [hn] at hlen ⊢
  have HXX := Lib.hid hxx
  clear hxx hok hn
  go_enter Tryz.func15, Tryz.ntmps15
  go_wp2_with fail
  go_loopw [3, 8] (fun ov iv wr => ∃ (k : Nat) (zs : List El), k ≤ n ∧ iv = .int .i64 (k : Int) ∧ Hid (ROrdSt w wr ov zs (xs.take k))) (fun _ iv _ => n - (intOf iv).toNat)
  case atStart => exact ⟨0, [], by omega, rfl, Lib.hid ⟨World.ownsRow_nil _ _ _ _, List.Perm.refl _, List.Pairwise.nil, Below.refl _ _⟩⟩
  case round =>
    obtain ⟨k, zs, hk, rfl, hh⟩ := hrel
    by_cases hlt : k < n
    · obtain ⟨a, ha⟩ := get_some (xs := xs) (i := k) (by have := HN.out; omega)
      rcases HXX.out with ⟨-, h0⟩ | ⟨g1, o1, rfl, q1, hc1⟩
      · rw [h0] at ha; simp at ha
      have d1 := fun j hj => (hh.out.bel.cell (p := ⟨g1, o1 + k * 5 + j, none⟩) q1).trans (hc1 k a ha j hj)
      have x0 := d1 0 (by omega)
      have x1 := d1 1 (by omega)
      have x2 := d1 2 (by omega)
      have x3 := d1 3 (by omega)
      have x4 := d1 4 (by omega)
      have HA := Lib.hid ha
      have hki : (k : Int) < (n : Int) := by omega
      have hk0 : (0 : Int) ≤ (k : Int) := by omega
      have hb1 := (Below.refl wr.heap.size wr).alloc (Nat.le_refl _) (.cells a.row.toArray 63)
      have hB1 := hh.out.bel.trans (hb1.mono hh.out.bel.size)
      have hzl : zs.length ≤ 1099511627776 := by
        have h := hh.out.perm.length_eq
        rw [List.length_take] at h
        omega
      have HPUT := Lib.hid (put_any w.heap.size u3 zs a _ (hh.out.row.below hb1) hB1.size (fun e he => by
        have he' : e ∈ xs := by
          rcases List.mem_append.1 he with h | h
          · exact List.mem_of_mem_take (hh.out.perm.mem_iff.1 h)
          · rw [List.mem_singleton.1 h]; exact List.mem_of_getElem? HA.out
        obtain ⟨o1, o2⟩ := HX.out.2 e he'
        refine ⟨o1.below hB1, fun b f hv hq => ?_, o2⟩
        have h1 := o1.lt hv
        have h2 := ownsRow_base hh.out.row b hq
        omega) hzl)
      have HB1 := Lib.hid hB1
      clear d1 hc1 ha hb1 hB1 hzl
      obtain ⟨at_, se, sq, st, av, an, ac, abs⟩ := a
      rw [Nat.add_zero] at x0
      simp only [El.row, List.getElem?_cons_zero, List.getElem?_cons_succ] at x0 x1 x2 x3 x4
      unfold El.val at HPUT
      simp only [El.row] at HPUT HB1
      go_wp2_with fail
      refine HPUT.out.mono ?_
      rintro e w2 ⟨v', rfl, h1, h2, h3⟩
      have HV := Lib.hid (And.intro h1 (And.intro h2 h3))
      clear h1 h2 h3 x0 x1 x2 x3 x4 HPUT
      go_wp2_with fail
      go_roundw
      case rel =>
        obtain ⟨r1, r2, r3⟩ := HV.out
        refine ⟨k + 1, _, by omega, by go_num, Lib.hid ⟨r1, ?_, sink_srt rfl hh.out.srt, ?_⟩⟩
        · refine (sink_perm _ _ _ _).trans ?_
          rw [List.take_add_one, HA.out]
          exact hh.out.perm.append_right _
        · exact HB1.out.grown r2 HB1.out.size (ownsRow_base hh.out.row)
      case measure => simp [intOf]; omega
    · have hkn : k = n := by omega
      have hki : ¬ (k : Int) < (n : Int) := by omega
      have hp := hh.out.perm
      rw [hkn, List.take_of_length_le (by have := HN.out; omega)] at hp
      have HK := Lib.hid hp
      clear hp hkn
      obtain ⟨A', c', hu⟩ := hh.out.row.slice
      subst hu
      go_wp2_with fail
      go_ret
      exact ⟨_, rfl, zs, hh.out.row, HK.out, hh.out.srt, hh.out.bel⟩
end Go.Proofs.YtebacmmfjadalaaGreat

namespace Go.Proofs.YtebacmmfjadalaaGreat
open Go Go.RowKit Go.WideShapes

/-- a timed reading of bits, as it lies in memory -/
structure In where
  at_ : Int
  se : Int
  sq : Int
  st : Int
  v : Option Addr
  n : Nat
  c : Nat
  us : List Int
def In.row (e : In) : List Value := [.int .i64 e.at_, .int .i64 e.se, .int .u32 e.sq, .int .u32 e.st, .slice e.v e.n e.c]
def In.key (e : In) : List Int := e.at_ :: e.se :: e.sq :: e.st :: (e.n : Int) :: (e.us.map Int.toNat).map keyN
/-- its bits lie in memory -/
structure InOk (w : World) (e : In) : Prop where
  len : e.us.length = e.n
  at_ : ∀ i, i < e.n → ∃ b off, e.v = some ⟨b, off, none⟩ ∧ b < w.heap.size ∧ w.cell? ⟨b, off + i, none⟩ = some (.int .u64 (e.us.getD i 0))
  lt : Lt64 (e.us.map Int.toNat)
  big : e.n * 8 ≤ 140737488355328
  w32 : (0 ≤ e.sq ∧ e.sq ≤ 4294967295) ∧ 0 ≤ e.st ∧ e.st ≤ 4294967295
theorem InOk.below {w w' : World} {e : In} (h : InOk w e) (hb : Below w.heap.size w w') : InOk w' e :=
  ⟨h.len, fun i hi => by
    obtain ⟨b, off, h1, h2, h3⟩ := h.at_ i hi
    exact ⟨b, off, h1, Nat.lt_of_lt_of_le h2 hb.size, (hb.cell (p := ⟨b, off + i, none⟩) h2).trans h3⟩, h.lt, h.big, h.w32⟩
def InAt (w : World) (v : Value) (xs : List In) : Prop := ∃ A c, v = .slice A xs.length c ∧ (xs = [] ∨ ∃ b off, A = some ⟨b, off, none⟩ ∧ b < w.heap.size ∧ ∀ i e, xs[i]? = some e → ∀ j, j < 5 → w.cell? ⟨b, off + i * 5 + j, none⟩ = e.row[j]?)
theorem InAt.below {w w' : World} {v : Value} {xs : List In} (h : InAt w v xs) (hb : Below w.heap.size w w') : InAt w' v xs := by
  obtain ⟨A, c, h1, h2⟩ := h
  refine ⟨A, c, h1, h2.imp id ?_⟩
  rintro ⟨b, off, h3, h4, h5⟩
  exact ⟨b, off, h3, Nat.lt_of_lt_of_le h4 hb.size, fun i e he j hj => (hb.cell (p := ⟨b, off + i * 5 + j, none⟩) h4).trans (h5 i e he j hj)⟩
theorem get_someI {xs : List In} {i : Nat} (h : i < xs.length) : ∃ a, xs[i]? = some a := ⟨xs[i], List.getElem?_eq_getElem h⟩
theorem keys_unique {xs ys : List El} (hx : xs.Pairwise (Le cmpK)) (hy : ys.Pairwise (Le cmpK)) (hp : (xs.map El.key).Perm (ys.map El.key)) : xs.map El.key = ys.map El.key := by
  refine List.Perm.eq_of_pairwise (le := fun a b : List Int => ¬ lexL b a < 0) (fun a b _ _ h1 h2 => ?_) ?_ ?_ hp
  · have := lexL_neg a b
    exact lexL_eq a b (by omega)
  · rw [List.pairwise_map]
    exact hx
  · rw [List.pairwise_map]
    exact hy

end Go.Proofs.YtebacmmfjadalaaGreat

namespace Go.Proofs.YtebacmmfjadalaaGreat
open Go Go.RowKit Go.ChangeShapes Go.WideShapes Go.Deep

theorem cell_lt {w : World} {a : Addr} {v : Value} (h : w.cell? a = some v) : a.block < w.heap.size := by
  rcases Nat.lt_or_ge a.block w.heap.size with h' | h'
  · exact h'
  · rw [World.cell?, Array.getElem?_eq_none h'] at h
    simp at h
theorem bytesU8 : Tryz.prog.bytesOf 79 = 8 := by kernel_rfl
theorem weights_all {H : Type} {P : Program} {e : TypeId} : ∀ {ds : List (DataW H)} {d : DataW H}, d ∈ ds → ∀ n ∈ d.weights P e, n ∈ DataW.weightsAll P e ds
  | a :: l, d, h, n, hn => by
    simp only [DataW.weightsAll, List.mem_append]
    rcases List.mem_cons.1 h with rfl | h
    · exact .inl hn
    · exact .inr (weights_all h n hn)

section
variable {H : Type} {enc : TypeId × Value → H}
/-- what a reading of bits is -/
def RdIs (W : World) (cs : List Value) (se sq st : Int) (v : Option Addr) (n c : Nat) (us : List Int) : Prop :=
  cs = [.int .i64 se, .int .u32 sq, .int .u32 st, .slice v n c] ∧ us.length = n ∧ (∀ i, i < n → ∃ b off, v = some ⟨b, off, none⟩ ∧ b < W.heap.size ∧ W.cell? ⟨b, off + i, none⟩ = some (.int .u64 (us.getD i 0))) ∧ Lt64 (us.map Int.toNat) ∧ n * 8 ≤ 140737488355328 ∧
  ((0 ≤ sq ∧ sq ≤ 4294967295) ∧ 0 ≤ st ∧ st ≤ 4294967295) ∧ -9223372036854775808 ≤ se ∧ se ≤ 9223372036854775807
set_option maxRecDepth 100000 in
theorem open_reading {W : World} {fuel : Nat} {cs : List Value} {x : DataW H × List MemPlace} (h : DataW.trod enc Tryz.prog W 0 (fun _ => true) true fuel 35 cs = some x)
    (hw : ∀ m ∈ x.1.weights Tryz.prog 35, m ≤ reachBytes) : ∃ se sq st v n c us, RdIs W cs se sq st v n c us := by
  obtain ⟨xs, n', -, hy, hlen, hyl, hfld⟩ := DataW.trod_struct Tryz.underlying35 h
  have hl4 : cs.length = 4 := hlen.trans (by kernel_rfl)
  match cs, hl4 with
  | [c0, c1, c2, c3], _ =>
    have hx4 : xs.length = 4 := hyl
    have g0 := hfld 0 _ rfl
    have g1 := hfld 1 _ rfl
    have g2 := hfld 2 _ rfl
    have g3 := hfld 3 _ rfl
    obtain ⟨se, e0, -, w0⟩ := DataW.trod_int Tryz.underlying3 (show DataW.trod enc Tryz.prog W 0 (fun _ => true) true _ 3 [c0] = some _ from g0.trans (List.getElem?_eq_getElem (show 0 < xs.length by omega)))
    obtain ⟨sq, e1, -, w1⟩ := DataW.trod_int Tryz.underlying32 (show DataW.trod enc Tryz.prog W 0 (fun _ => true) true _ 32 [c1] = some _ from g1.trans (List.getElem?_eq_getElem (show 1 < xs.length by omega)))
    obtain ⟨st, e2, -, w2⟩ := DataW.trod_int Tryz.underlying32 (show DataW.trod enc Tryz.prog W 0 (fun _ => true) true _ 32 [c2] = some _ from g2.trans (List.getElem?_eq_getElem (show 2 < xs.length by omega)))
    have b0 := bounds_i64 w0
    have b1 := bounds_u32 w1
    have b2 := bounds_u32 w2
    simp only [List.cons.injEq, and_true] at e0 e1 e2
    subst e0 e1 e2
    have h3 : DataW.trod enc Tryz.prog W 0 (fun _ => true) true n' 33 [c3] = some (xs[3]'(by omega)) := g3.trans (List.getElem?_eq_getElem (show 3 < xs.length by omega))
    rcases open_ints Tryz.underlying33 Tryz.underlying79 (by kernel_rfl) h3 with ⟨hcs, -⟩ | ⟨a, len', cap', zs, hcs, -, hl', hm, hz, hd, hcell', hwf⟩
    · simp only [List.cons.injEq, and_true] at hcs
      subst hcs
      exact ⟨se, sq, st, none, 0, 0, [], rfl, rfl, fun i hi => by omega, fun i => by simp, by omega, ⟨b1, b2⟩, b0⟩
    · simp only [List.cons.injEq, and_true] at hcs
      subst hcs
      have hz' : zs.length = cap' := by simpa using hz
      have hln : (zs.take len').length = len' := by simp; omega
      refine ⟨se, sq, st, some a, len', cap', zs.take len', rfl, hln, fun i hi => ?_, fun i => ?_, ?_, ⟨b1, b2⟩, b0⟩
      · obtain ⟨b, off, rfl, hcl⟩ := ints_at hcell' (by omega)
        refine ⟨b, off, rfl, cell_lt (a := ⟨b, off + 0, none⟩) (hcl 0 (by omega)), ?_⟩
        rw [hcl i (by omega)]
        simp [List.getD_eq_getElem?_getD, hi]
      · rw [List.getD_eq_getElem?_getD, List.getElem?_map]
        cases hg : (zs.take len')[i]? with
        | none => simp
        | some z =>
          have hmem : z ∈ zs := List.mem_of_mem_take (List.mem_of_getElem? hg)
          have := bounds_u64 (hwf z hmem)
          simp
          omega
      · have hmem : ((lits .u64 (zs.take len') : List (DataW H)).length + (lits .u64 (zs.drop len') : List (DataW H)).length) * 8 ∈ x.1.weights Tryz.prog 35 := by
          rw [hy]
          simp only [DataW.weights, Tryz.underlying35]
          refine DataW.weights_mem_each (j := 3) (t := 33) (d := (xs[3]'(by omega)).1) rfl (by rw [List.getElem?_map, List.getElem?_eq_getElem (show 3 < xs.length by omega)]; rfl) _ ?_
          rw [hd]
          simp [DataW.weights, Tryz.underlying33, bytesU8]
        have h1 := hw _ hmem
        have := reachBytes_lt
        simp only [lits, List.length_map, List.length_take, List.length_drop] at h1
        omega
end
end Go.Proofs.YtebacmmfjadalaaGreat

namespace Go.Proofs.YtebacmmfjadalaaGreat
open Go Go.RowKit Go.ChangeShapes Go.WideShapes Go.Deep

theorem bytesC : Tryz.prog.bytesOf 53 = 24 := by kernel_rfl
section
variable {H : Type} {enc : TypeId × Value → H}
set_option maxRecDepth 100000 in
/-- a list of clocks -/
theorem open_clocks {W : World} {r : Reach} {b0 : Nat} {v : Value} {d : DataW H} {p : List MemPlace} (hsz : ∀ m ∈ d.weights Tryz.prog 22, m ≤ reachBytes)
    (hv : Value.okWide Tryz.prog W r b0 22 v) (h : DataW.Trod enc Tryz.prog W 0 (fun _ => true) true 22 v d p) :
    ∃ (A : Option Addr) (c : Nat) (cs : List (Int × Int × Int)), v = .slice A cs.length c ∧ ClRow W A cs ∧ (cs.length = 0 ∨ A ≠ none) ∧ cs.length * 24 ≤ 140737488355328 := by
  obtain ⟨a0, len, cap, rfl⟩ := okWide_slice Tryz.underlying22 hv
  obtain ⟨fuel, hf⟩ := h
  rcases open_slice Tryz.underlying22 hf with ⟨hcs, hx⟩ | ⟨a, len', cap', m, n, D, Pl, hcs, hb, hl, hm, hmm, hx, hi⟩
  · simp only [Value.cells, List.cons.injEq, Value.slice.injEq, and_true] at hcs
    obtain ⟨rfl, rfl, rfl⟩ := hcs
    exact ⟨none, 0, [], rfl, .inl rfl, .inl rfl, by simp⟩
  · simp only [Value.cells, List.cons.injEq, Value.slice.injEq, and_true] at hcs
    obtain ⟨rfl, rfl, rfl⟩ := hcs
    rw [show Tryz.prog.cellsOf 53 = 3 by kernel_rfl] at hi
    have hmc : m = cap := by rw [hmm]; simp
    simp only [Prod.mk.injEq] at hx
    have hrow : ∀ i, i < len → ∃ q : Int × Int × Int, W.cell? (a.add (i * 3)) = some (.int .i64 q.1) ∧ W.cell? (a.add (i * 3 + 1)) = some (.int .i64 q.2.1) ∧ W.cell? (a.add (i * 3 + 2)) = some (.int .i64 q.2.2) := by
      intro i hi'
      obtain ⟨cs', hc, ht'⟩ := hi i (by omega)
      obtain ⟨xs, n', hn', hy, hlen, hyl, hfld⟩ := DataW.trod_struct Tryz.underlying53 ht'
      obtain ⟨_, hcl, hat⟩ := World.cells?_some hc
      match cs', hcl with
      | [c0, c1, c2], _ =>
        have hx3 : xs.length = 3 := hyl
        have g0 := hfld 0 _ rfl
        have g1 := hfld 1 _ rfl
        have g2 := hfld 2 _ rfl
        have a0 := hat 0 (by omega)
        have a1 := hat 1 (by omega)
        have a2 := hat 2 (by omega)
        obtain ⟨x, e0, -, -⟩ := DataW.trod_int Tryz.underlying2 (show DataW.trod enc Tryz.prog W 0 (fun _ => true) true _ 2 [c0] = some _ from g0.trans (List.getElem?_eq_getElem (show 0 < xs.length by omega)))
        obtain ⟨y, e1, -, -⟩ := DataW.trod_int Tryz.underlying2 (show DataW.trod enc Tryz.prog W 0 (fun _ => true) true _ 2 [c1] = some _ from g1.trans (List.getElem?_eq_getElem (show 1 < xs.length by omega)))
        obtain ⟨z, e2, -, -⟩ := DataW.trod_int Tryz.underlying2 (show DataW.trod enc Tryz.prog W 0 (fun _ => true) true _ 2 [c2] = some _ from g2.trans (List.getElem?_eq_getElem (show 2 < xs.length by omega)))
        simp at e0 e1 e2
        subst e0 e1 e2
        refine ⟨(x, y, z), ?_, ?_, ?_⟩
        · have := a0; rw [Go.Deep.add_add] at this; simpa using this
        · have := a1; rw [Go.Deep.add_add] at this; simpa using this
        · have := a2; rw [Go.Deep.add_add] at this; simpa using this
    have hsk : ∀ i, ∃ q : Int × Int × Int, i < len → W.cell? (a.add (i * 3)) = some (.int .i64 q.1) ∧ W.cell? (a.add (i * 3 + 1)) = some (.int .i64 q.2.1) ∧ W.cell? (a.add (i * 3 + 2)) = some (.int .i64 q.2.2) := by
      intro i
      by_cases hi' : i < len
      · obtain ⟨q, hq⟩ := hrow i hi'
        exact ⟨q, fun _ => hq⟩
      · exact ⟨(0, 0, 0), fun h => absurd h hi'⟩
    obtain ⟨f, hf'⟩ := Classical.axiomOfChoice hsk
    have hlf : ((List.range len).map f).length = len := by simp
    have hgf : ∀ j, j < len → ((List.range len).map f).getD j (0, 0, 0) = f j := fun j hj => by simp [List.getD_eq_getElem?_getD, List.getElem?_range hj]
    refine ⟨some a, cap, (List.range len).map f, by rw [hlf], ?_, .inr (by simp), ?_⟩
    · rcases Nat.eq_zero_or_pos len with h0 | h0
      · subst h0; exact .inl rfl
      · right
        obtain ⟨b, off, spot⟩ := a
        have hspot : spot = none := by simpa [Addr.add] using World.cell?_spot (hf' 0 h0).1
        subst hspot
        refine ⟨b, off, rfl, cell_lt (a := ⟨b, off, none⟩) (by have := (hf' 0 h0).1; rw [add_plain] at this; exact this), fun j hj => ?_⟩
        rw [hlf] at hj
        rw [hgf j hj]
        have := hf' j hj
        rw [add_plain, add_plain, add_plain] at this
        exact this
    · rw [hlf]
      have h1 := hsz ((len + (m - len)) * 24) (by
        rw [hx.1]
        simp only [DataW.weights, Tryz.underlying22, bytesC, List.length_map, List.length_range]
        exact List.mem_cons_self)
      have := reachBytes_lt
      omega

/-- readings of bits behind a slice -/
def In.row4 (e : In) : List Value := [.int .i64 e.se, .int .u32 e.sq, .int .u32 e.st, .slice e.v e.n e.c]
def RdAt (w : World) (A : Option Addr) (xs : List In) : Prop := xs = [] ∨ ∃ b off, A = some ⟨b, off, none⟩ ∧ b < w.heap.size ∧ ∀ i e, xs[i]? = some e → ∀ j, j < 4 → w.cell? ⟨b, off + i * 4 + j, none⟩ = e.row4[j]?
theorem RdAt.below {w w' : World} {A : Option Addr} {xs : List In} (h : RdAt w A xs) (hb : Below w.heap.size w w') : RdAt w' A xs := by
  refine h.imp id ?_
  rintro ⟨b, off, h3, h4, h5⟩
  exact ⟨b, off, h3, Nat.lt_of_lt_of_le h4 hb.size, fun i e he j hj => (hb.cell (p := ⟨b, off + i * 4 + j, none⟩) h4).trans (h5 i e he j hj)⟩
set_option maxRecDepth 100000 in
theorem open_readings {W : World} {r : Reach} {b0 : Nat} {v : Value} {d : DataW H} {p : List MemPlace} (hsz : ∀ m ∈ d.weights Tryz.prog 23, m ≤ reachBytes)
    (hv : Value.okWide Tryz.prog W r b0 23 v) (h : DataW.Trod enc Tryz.prog W 0 (fun _ => true) true 23 v d p) :
    ∃ (A : Option Addr) (c : Nat) (xs : List In), v = .slice A xs.length c ∧ RdAt W A xs ∧ ∀ e ∈ xs, InOk W e := by
  obtain ⟨a0, len, cap, rfl⟩ := okWide_slice Tryz.underlying23 hv
  obtain ⟨fuel, hf⟩ := h
  rcases open_slice Tryz.underlying23 hf with ⟨hcs, hx⟩ | ⟨a, len', cap', m, n, D, Pl, hcs, hb, hl, hm, hmm, hx, hi⟩
  · simp only [Value.cells, List.cons.injEq, Value.slice.injEq, and_true] at hcs
    obtain ⟨rfl, rfl, rfl⟩ := hcs
    exact ⟨none, 0, [], rfl, .inl rfl, fun e he => by simp at he⟩
  · simp only [Value.cells, List.cons.injEq, Value.slice.injEq, and_true] at hcs
    obtain ⟨rfl, rfl, rfl⟩ := hcs
    rw [show Tryz.prog.cellsOf 35 = 4 by kernel_rfl] at hi
    have hmc : m = cap := by rw [hmm]; simp
    simp only [Prod.mk.injEq] at hx
    have hrow : ∀ i, i < len → ∃ e : In, InOk W e ∧ ∀ j, j < 4 → W.cell? (a.add (i * 4 + j)) = e.row4[j]? := by
      intro i hi'
      obtain ⟨cs', hc, ht'⟩ := hi i (by omega)
      have hwt : ∀ k ∈ (D i).weights Tryz.prog 35, k ≤ reachBytes := by
        intro k hk
        refine hsz k ?_
        rw [hx.1]
        simp only [DataW.weights, Tryz.underlying23, List.mem_cons, List.mem_append]
        right; left
        exact weights_all (List.mem_map.2 ⟨i, List.mem_range.2 hi', rfl⟩) k hk
      obtain ⟨_, hcl, hat⟩ := World.cells?_some hc
      obtain ⟨se, sq, st, v, k, c, us, r1, r2, r3, r4, r5, r6, -⟩ := open_reading ht' hwt
      subst r1
      refine ⟨⟨0, se, sq, st, v, k, c, us⟩, ⟨r2, r3, r4, r5, r6⟩, fun j hj => ?_⟩
      have := hat j hj
      rw [Go.Deep.add_add] at this
      rw [this]
      rfl
    have hsk : ∀ i, ∃ e : In, i < len → InOk W e ∧ ∀ j, j < 4 → W.cell? (a.add (i * 4 + j)) = e.row4[j]? := by
      intro i
      by_cases hi' : i < len
      · obtain ⟨e, he⟩ := hrow i hi'
        exact ⟨e, fun _ => he⟩
      · exact ⟨⟨0, 0, 0, 0, none, 0, 0, []⟩, fun h => absurd h hi'⟩
    obtain ⟨f, hf'⟩ := Classical.axiomOfChoice hsk
    have hlf : ((List.range len).map f).length = len := by simp
    refine ⟨some a, cap, (List.range len).map f, by rw [hlf], ?_, fun e he => ?_⟩
    · rcases Nat.eq_zero_or_pos len with h0 | h0
      · subst h0; exact .inl rfl
      · right
        obtain ⟨b, off, spot⟩ := a
        have hspot : spot = none := by simpa [Addr.add] using World.cell?_spot ((hf' 0 h0).2 0 (by omega))
        subst hspot
        refine ⟨b, off, rfl, cell_lt (a := ⟨b, off, none⟩) (by have := (hf' 0 h0).2 0 (by omega); rw [add_plain] at this; exact this), fun i e he j hj => ?_⟩
        rw [List.getElem?_map] at he
        have hi' : i < len := by
          rcases Nat.lt_or_ge i len with h | h
          · exact h
          · rw [List.getElem?_eq_none (by simp; omega)] at he; simp at he
        rw [List.getElem?_range hi'] at he
        simp only [Option.map_some, Option.some.injEq] at he
        subst he
        have := (hf' i hi').2 j hj
        rw [add_plain] at this
        rw [Nat.add_assoc]
        exact this
    · obtain ⟨i, hi', rfl⟩ := List.mem_map.1 he
      exact (hf' i (List.mem_range.1 hi')).1
end
end Go.Proofs.YtebacmmfjadalaaGreat
