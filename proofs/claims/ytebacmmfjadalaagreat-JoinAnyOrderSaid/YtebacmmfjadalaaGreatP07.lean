/- J8 J9 in one text. -/
import Derived.Test.YtebacmmfjadalaaGreatP06
import Derived.Maps.AppendAt
import Derived.OwnWalk
import Derived.Deep.RegionLaw

namespace Go.Proofs.YtebacmmfjadalaaGreat
open Go Go.RowKit Go.WideShapes

theorem infoT : (Tryz.prog.info? 63).map (fun i => (i.zero, i.size, i.bytes)) = some (some (.agg #[.int .i64 0, .int .i64 0, .int .u32 0, .int .u32 0, .slice none 0 0]), 5, 48) := by kernel_rfl
/-- readings in a row of the call's own: none yet, or an array -/
/- (in blocks from B on) -/
def Row (B : Nat) (w : World) (v : Value) (xs : List El) : Prop := w.ownsRow B 63 5 v xs.length (flat xs)
theorem flat_one : ∀ xs : List El, ∀ u ∈ flat xs, u.oneCell' = true
  | [], u, h => by simp [flat] at h
  | e :: l, u, h => by
    rw [flat, List.mem_append] at h
    rcases h with h | h
    · simp only [El.row, List.mem_cons, List.not_mem_nil, or_false] at h
      rcases h with rfl | rfl | rfl | rfl | rfl <;> rfl
    · exact flat_one l u h
theorem Row.below {B : Nat} {w w' : World} {v : Value} {xs : List El} (h : Row B w v xs) (hb : Below w.heap.size w w') : Row B w' v xs := by
  refine ⟨h.1, ?_⟩
  rcases h.2 with hn | ⟨g, cap, cur, hv, h1, h2, h3⟩
  · exact .inl hn
  · exact .inr ⟨g, cap, cur, hv, h1, (hb.block g (Array.getElem?_eq_some_iff.1 h2).1).trans h2, h3⟩
theorem Row.slice {B : Nat} {w : World} {v : Value} {xs : List El} (h : Row B w v xs) : ∃ A c, v = .slice A xs.length c := by
  rcases h.2 with ⟨hn, h0⟩ | ⟨g, cap, cur, hv, -⟩
  · exact ⟨none, 0, by rw [hn, h0]⟩
  · exact ⟨_, _, hv⟩
theorem Row.own {B : Nat} {w : World} {v : Value} {xs : List El} (h : Row B w v xs) {k : Nat} (hk : k < B) : v.ownBlock ≠ some k := by
  rcases h.2 with ⟨hn, h0⟩ | ⟨g, cap, cur, hv, h1, -⟩
  · rw [hn]; simp [Value.ownBlock]
  · rw [hv]
    simp only [Value.ownBlock]
    intro e
    injection e with e
    omega
theorem Row.set {B : Nat} {w : World} {v : Value} {xs : List El} (h : Row B w v xs) {p : Addr} (hk : p.block < B) (u : Value) : Row B (w.setCell p u) v xs := by
  refine ⟨h.1, ?_⟩
  rcases h.2 with hn | ⟨g, cap, cur, hv, h1, h2, h3⟩
  · exact .inl hn
  · refine .inr ⟨g, cap, cur, hv, h1, ?_, h3⟩
    rw [← h2]
    simp only [World.setCell, Array.getElem?_modify]
    rw [if_neg (by omega)]
theorem run_append_el (B : Nat) (t : TypeId) (ht : Tryz.prog.underlying t = some (.slice 63)) (w : World) (v : Value) (xs : List El) (e : El) (hr : Row B w v xs) (hB : B ≤ w.heap.size) (hlen : xs.length ≤ 1099511627776) (ad : Addr) (c : Nat)
    (hnews : ∀ j, j < 5 → w.cell? (ad.add j) = e.row[j]?) (ty : TypeId) :
    ∃ v' w', (Builtin.append_ #[t, t] ty #[v, .slice (some ad) 1 c]).run Tryz.prog w = .ok v' w' ∧ Row B w' v' (xs ++ [e]) ∧ w.grownBy w' v.ownBlock ∧ (v'.ownBlock = v.ownBlock ∨ v'.ownBlock = some w.heap.size) := by
  obtain ⟨i0, hi0, hz0, hz1, hz2⟩ := info_parts infoT
  obtain ⟨v', w', hrun, hown, hg, -, hat⟩ := run_append_own_at (P := Tryz.prog) w B t ty 63 i0 _ 5 48 ht hi0 hz0 hz1 hz2 rfl (by omega) v xs.length (flat xs) hr
    ad 1 c (flat [e]) (flat_len _) (fun j u hu => by
      have hj : j < 5 := by
        have := (List.getElem?_eq_some_iff.1 hu).1
        rwa [flat_len] at this
      rw [hnews j hj]
      rwa [flat, flat, List.append_nil] at hu) (flat_one _) (by simp only [maxLen]; omega) (by omega) hB
  refine ⟨v', w', hrun, ?_, hg, hat⟩
  unfold Row
  rw [List.length_append, flat_app]
  exact hown
theorem step_append_el {B : Nat} {ops : Array Oper} {o : Oper} {a : Act} {w : World} {K : Act → World → Prop} {Q : Exit → Act → World → Prop} {E : Prop} (hg : o.guard = none) (s x : Operand) (t : TypeId)
    (hop : o.op = Op.call { callee := Callee.builtin Builtin.append, args := #[s, x], argTypes := #[t, t] }) (ht : Tryz.prog.underlying t = some (.slice 63)) (v : Value) (xs : List El) (e : El) (hs : a.eval s = v) (hr : Row B w v xs) (hB : B ≤ w.heap.size) (hlen : xs.length ≤ 1099511627776)
    (ad : Addr) (c : Nat) (hx : a.eval x = .slice (some ad) 1 c) (hnews : ∀ j, j < 5 → w.cell? (ad.add j) = e.row[j]?)
    (hK : ∀ v' w', Row B w' v' (xs ++ [e]) → w.grownBy w' v.ownBlock → (v'.ownBlock = v.ownBlock ∨ v'.ownBlock = some w.heap.size) → K (a.put o.dst v') w') :
    if Region.wanted o (yielded ops a.tmps) = true then Oper.wp Tryz.prog o a w K Q else E := by
  have hw : Region.wanted o (yielded ops a.tmps) = true := by simp [Region.wanted, hg]
  rw [if_pos hw]
  obtain ⟨v', w', hrun, r1, r2, r3⟩ := run_append_el B t ht w v xs e hr hB hlen ad c hnews o.type
  unfold Oper.wp
  simp [execOp, hop, resolve, invoke, builtin, hs, hx, hrun, Result.andThen]
  exact hK v' w' r1 r2 r3

theorem assert_timed (v : Value) (w : World) : Sem.run Tryz.prog (Instr.typeAssert (.iface 63 v) 20 63 false) w = .ok v w := by kernel_rfl

/-- where a row lies behind an append: where it lay, or in a new block -/
def At (v' v : Value) (w : World) : Prop := v'.ownBlock = v.ownBlock ∨ ∃ g, v'.ownBlock = some g ∧ w.heap.size ≤ g

/-- what a call may turn: block g, the cell at p, new blocks -/
structure Fr (w w' : World) (g : Option Nat) (p : Addr) : Prop where
  os : w'.os = w.os
  tape : w'.tape = w.tape
  output : w'.output = w.output
  size : w.heap.size ≤ w'.heap.size
  block : ∀ k, k < w.heap.size → k ≠ p.block → some k ≠ g → w'.heap[k]? = w.heap[k]?
  cell : ∀ a : Addr, a.block = p.block → a ≠ p → w'.cell? a = w.cell? a
  frozen : ∀ a : Addr, a.block = p.block → w'.frozen? a = w.frozen? a

theorem row_new (w : World) (a b c d : Int) (v : Option Addr) (n k : Nat) (T : TypeId) : ∀ j, j < 5 → (w.alloc (.cells #[.int .i64 a, .int .i64 b, .int .u32 c, .int .u32 d, .slice v n k] T)).drew.cell? ((⟨w.heap.size, 0, none⟩ : Addr).add j) = (El.row ⟨a, b, c, d, v, n, k, []⟩)[j]? := by
  intro j hj
  rw [Go.WideShapes.add_plain, Nat.zero_add]
  rcases (by omega : j = 0 ∨ j = 1 ∨ j = 2 ∨ j = 3 ∨ j = 4) with rfl | rfl | rfl | rfl | rfl <;> simp [go_sem, El.row]

theorem grownO_cell {w w' : World} {g : Option Nat} (h : w.grownBy w' g) {p : Addr} (hp : p.block < w.heap.size) (hn : g ≠ some p.block) : w'.cell? p = w.cell? p :=
  World.cell?_of_block (h.block _ hp (fun e => hn e.symm))
theorem grownO_frozen {w w' : World} {g : Option Nat} (h : w.grownBy w' g) {p : Addr} (hp : p.block < w.heap.size) (hn : g ≠ some p.block) : w'.frozen? p = w.frozen? p :=
  World.frozen?_of_block (h.block _ hp (fun e => hn e.symm))

theorem push_fin {B : Nat} {w X w' : World} {g : Option Nat} {pa : Addr} {u : Value} {A : Option Addr} {xs : List El} {k n : Nat} (hb : Below w.heap.size w X) (hg : X.grownBy w' g) (hr : Row B w' (.slice A xs.length k) xs) (hpa : pa.block < w.heap.size) (hpB : pa.block < B) (hpv : g ≠ some pa.block) (hn : xs.length = n)
    (hc : w'.cell? pa = some u) {v : Value} (ha : (Value.slice A xs.length k).ownBlock = v.ownBlock ∨ (Value.slice A xs.length k).ownBlock = some X.heap.size) :
    Ending.returned (Value.tuple #[]) = Ending.returned (Value.tuple #[]) ∧ (∃ v', Row B (w'.setCell pa (.slice A n k)) v' xs ∧ (w'.setCell pa (.slice A n k)).cell? pa = some v' ∧ At v' v w) ∧ Fr w (w'.setCell pa (.slice A n k)) g pa := by
  subst hn
  have hne : ∀ a : Addr, a ≠ pa → (w'.setCell pa (.slice A xs.length k)).cell? a = w'.cell? a := fun a ha => World.cell?_setCell_other _ _ _ _ (fun e => ha e.symm)
  have hbl : ∀ k', k' ≠ pa.block → (w'.setCell pa (.slice A xs.length k)).heap[k']? = w'.heap[k']? := fun k' hk => by
    simp only [World.setCell, Array.getElem?_modify]
    rw [if_neg (fun e => hk e.symm)]
  have hfz : ∀ a : Addr, (w'.setCell pa (.slice A xs.length k)).frozen? a = w'.frozen? a := fun a => by simp [go_sem]
  refine ⟨rfl, ⟨_, hr.set hpB _, by simp [go_sem, hc], ha.imp id (fun h => ⟨_, h, hb.size⟩)⟩, hg.os.trans hb.os, hg.tape.trans hb.tape, hg.output.trans hb.output, by simp [World.setCell]; exact Nat.le_trans hb.size hg.size, fun k' h1 h2 h3 => ?_, fun a h1 h2 => ?_, fun a h1 => ?_⟩
  · rw [hbl k' h2, hg.block k' (Nat.lt_of_lt_of_le h1 hb.size) h3, hb.block k' h1]
  · rw [hne a h2, grownO_cell hg (by rw [h1]; exact Nat.lt_of_lt_of_le hpa hb.size) (by rw [h1]; exact hpv)]
    exact hb.cell (by rw [h1]; exact hpa)
  · rw [hfz, grownO_frozen hg (by rw [h1]; exact Nat.lt_of_lt_of_le hpa hb.size) (by rw [h1]; exact hpv)]
    exact hb.frozen (by rw [h1]; exact hpa)

set_option maxRecDepth 8000 in
set_option maxHeartbeats 2000000 in
theorem push_any (B : Nat) (pa : Addr) (v : Value) (xs : List El) (e : El) (w : World) (hr : Row B w v xs) (hB : B ≤ w.heap.size) (hc : w.cell? pa = some v) (hf : w.frozen? pa = false) (hpB : pa.block < B) (hlen : xs.length ≤ 1099511627776) :
    Calls Tryz.prog 151 #[.pointer (some pa), .iface 63 e.val] w fun e' w' => e' = .returned (.tuple #[]) ∧ (∃ v', Row B w' v' (xs ++ [e]) ∧ w'.cell? pa = some v' ∧ At v' v w) ∧ Fr w w' v.ownBlock pa := by
  obtain ⟨at_, se, sq, st, vv, vn, vc, vb⟩ := e
  unfold El.val
  simp only
  have HB := Lib.hid (((Below.refl w.heap.size w).alloc (Nat.le_refl _) (.cells #[.int .i64 at_, .int .i64 se, .int .u32 sq, .int .u32 st, .slice vv vn vc] 63)).drew)
  have HR := Lib.hid (hr.below HB.out)
  have hpa : pa.block < w.heap.size := by omega
  have hpv := hr.own hpB
  have hBs : B ≤ ((w.alloc (.cells #[.int .i64 at_, .int .i64 se, .int .u32 sq, .int .u32 st, .slice vv vn vc] 63)).drew).heap.size := Nat.le_trans hB HB.out.size
  clear hr
  have hta := fun W => assert_timed (.agg #[.int .i64 at_, .int .i64 se, .int .u32 sq, .int .u32 st, .slice vv vn vc]) W
  go_enter Tryz.func151, Tryz.ntmps151
  go_wp2_with fail
  go_region_law ((refine step_append_el rfl (.tmp 7) (.tmp 10) 75 rfl Tryz.underlying75 v xs ⟨at_, se, sq, st, vv, vn, vc, vb⟩ (by simp [Act.eval]) HR.out hBs hlen ⟨w.heap.size, 0, none⟩ 1 (by simp [Act.eval]) (row_new w _ _ _ _ _ _ _ _) ?_); intro v' w' hr1 hg1 ha1; obtain ⟨A1, k1, rfl⟩ := hr1.slice; have c1 := (grownO_cell hg1 (p := pa) (Nat.lt_of_lt_of_le hpa HB.out.size) hpv).trans ((HB.out.cell hpa).trans hc); have f1 := (grownO_frozen hg1 (p := pa) (Nat.lt_of_lt_of_le hpa HB.out.size) hpv).trans ((HB.out.frozen hpa).trans hf); have HR1 := Lib.hid hr1; have HG1 := Lib.hid hg1; have HA1 := Lib.hid ha1; clear hr1 hg1 ha1)
  all_goals go_end0
  all_goals exact push_fin HB.out HG1.out HR1.out hpa hpB hpv (by first | rfl | exact List.length_append) c1 HA1.out
end Go.Proofs.YtebacmmfjadalaaGreat

namespace Go.Proofs.YtebacmmfjadalaaGreat
open Go Go.RowKit

theorem len_any (v : Option Addr) (n c : Nat) (w : World) : Calls Tryz.prog 144 #[.slice v n c] w fun e w' => e = .returned (.int .i64 n) ∧ w = w' := by
  go_enter Tryz.func144, Tryz.ntmps144
  go_wp2_with fail
  go_ret
  exact ⟨rfl, rfl⟩

theorem Fr.grown {w w1 w2 : World} {o : Option Nat} {pa : Addr} {g : Nat} (h : Fr w w1 o pa) (k : w1.grownBy w2 (some g)) (hg : some g = o ∨ w.heap.size ≤ g) (hgp : pa.block ≠ g) (hpa : pa.block < w.heap.size) : Fr w w2 o pa := by
  refine ⟨k.os.trans h.os, k.tape.trans h.tape, k.output.trans h.output, Nat.le_trans h.size k.size, fun i h1 h2 h3 => ?_, fun a h1 h2 => ?_, fun a h1 => ?_⟩
  · rw [k.block i (Nat.lt_of_lt_of_le h1 h.size) (by
      intro e
      injection e with e
      subst e
      rcases hg with hg | hg
      · exact h3 hg
      · omega), h.block i h1 h2 h3]
  · rw [grown_cell k (by rw [h1]; exact Nat.lt_of_lt_of_le hpa h.size) (by rw [h1]; exact hgp), h.cell a h1 h2]
  · rw [World.frozen?_of_block (k.block a.block (by rw [h1]; exact Nat.lt_of_lt_of_le hpa h.size) (by rw [h1]; intro e; injection e with e; exact hgp e)), h.frozen a h1]
theorem Row.pl {B : Nat} {w : World} {v : Value} {xs : List El} (h : Row B w v xs) (hx : 0 < xs.length) : ∃ g cap, v = .slice (some ⟨g, 0, none⟩) xs.length cap ∧ B ≤ g ∧ Pl w g cap xs := by
  rcases h.2 with ⟨hn, h0⟩ | ⟨g, cap, cur, hv, h1, h2⟩
  · omega
  · subst hv
    exact ⟨g, cap, rfl, h1, h.1, .inr ⟨g, cap, cur, rfl, Nat.zero_le _, h2⟩⟩
theorem Pl.row {B : Nat} {w : World} {g cap : Nat} {xs : List El} (h : Pl w g cap xs) (hB : B ≤ g) : Row B w (.slice (some ⟨g, 0, none⟩) xs.length cap) xs := by
  refine ⟨h.1, ?_⟩
  rcases h.2 with ⟨h', _⟩ | ⟨g', cap', cur, h', h1, h2⟩
  · simp at h'
  · have e1 : g = g' := by injection h' with e1; injection e1 with e1; injection e1
    subst e1
    exact .inr ⟨g, cap', cur, h', hB, h2⟩
theorem upL_len (C : El → El → Int) : ∀ (f : Nat) (xs : List El) (j : Nat), (upL C f xs j).length = xs.length
  | 0, _, _ => rfl
  | f + 1, xs, j => by
    rw [upL]
    split
    · rfl
    · rw [upL_len, sw_len]
theorem upL_mem (C : El → El → Int) : ∀ (f : Nat) (xs : List El) (j : Nat) (e : El), e ∈ upL C f xs j → e ∈ xs
  | 0, _, _, _, h => h
  | f + 1, xs, j, e, h => by
    rw [upL] at h
    split at h
    · exact h
    · exact sw_mem (upL_mem C f _ _ e h)

set_option maxRecDepth 8000 in
set_option maxHeartbeats 2000000 in
theorem hpush_any (C : El → El → Int) (B : Nat) (pa : Addr) (v : Value) (xs : List El) (n : Nat) (e : El) (w : World) (hr : Row B w v xs) (hn : xs.length = n) (hB : B ≤ w.heap.size) (hc : w.cell? pa = some v) (hf : w.frozen? pa = false) (hpB : pa.block < B) (hlen : n ≤ 1099511627776)
    (hC : ∀ a ∈ xs ++ [e], ∀ b ∈ xs ++ [e], ∀ W, Fr w W v.ownBlock pa → Calls Tryz.prog 81 #[a.val, b.val] W fun e w' => e = .returned (.int .i64 (C a b)) ∧ Below W.heap.size W w') :
    Calls Tryz.prog 35 #[.iface 101 (.pointer (some pa)), .iface 63 e.val] w fun e' w' => e' = .returned (.tuple #[]) ∧ (∃ v', Row B w' v' (upL C (n + 1) (xs ++ [e]) n) ∧ w'.cell? pa = some v' ∧ At v' v w) ∧ Fr w w' v.ownBlock pa := by
  have hpa : pa.block < w.heap.size := by omega
  have HP := Lib.hid (push_any B pa v xs e w hr hB hc hf hpB (by omega))
  have HC := Lib.hid hC
  have hpush := method_ptr (fuel := 309) m_push pa w
  obtain ⟨ev, hev⟩ : ∃ x, e.val = x := ⟨_, rfl⟩
  rw [hev] at HP ⊢
  clear hr hC hc hf hev
  go_enter Tryz.func35, Tryz.ntmps35
  go_wp2_with fail
  refine HP.out.mono ?_
  rintro e1 w1 ⟨rfl, ⟨v1, hr1, hc1, ha1⟩, hF1⟩
  have hl1 : (xs ++ [e]).length = n + 1 := by rw [List.length_append, hn]; rfl
  obtain ⟨g, cap, rfl, hBg, hp1⟩ := hr1.pl (by omega)
  rw [hl1] at hc1 ha1
  have hgp : pa.block ≠ g := by omega
  have HA := Lib.hid ha1
  have HF := Lib.hid hF1
  have HL := Lib.hid hp1
  have hlenm := method_val (fuel := 309) m_len pa _ _ _ w1 hc1
  have hg0 : some g = v.ownBlock ∨ w.heap.size ≤ g := by
    rcases ha1 with h | ⟨g', h, h'⟩
    · exact .inl h
    · injection h with h
      subst h
      exact .inr h'
  have HU := Lib.hid (up_any C pa g cap (n + 1) n (xs ++ [e]) w1 hp1 hl1 hc1 hgp (Nat.lt_of_lt_of_le hpa hF1.size) (by omega) (by omega) (fun a ha b hb W hW => HC.out a ha b hb W (hF1.grown hW hg0 hgp hpa)))
  have HC1 := Lib.hid hc1
  clear hr1 hc1 ha1 hF1 hp1 HP hpush HC
  go_wp2_with fail
  refine (len_any _ _ _ _).mono ?_
  rintro e1 w2 ⟨rfl, rfl⟩
  clear hlenm
  have hw1 : IntKind.i64.wrap (((n + 1 : Nat) : Int) - 1) = (n : Int) := by rw [IntWalk.i64_in _ (by omega)]; omega
  go_wp2_with fail
  refine HU.out.mono ?_
  rintro e1 w3 ⟨rfl, hp3, hg3⟩
  have HP3 := Lib.hid (And.intro hp3 hg3)
  clear hp3 hg3 HU
  go_wp2_with fail
  go_end0
  have hr3 := HP3.out.1.row hBg
  rw [upL_len, hl1] at hr3
  exact ⟨rfl, ⟨_, hr3, (grown_cell HP3.out.2 (Nat.lt_of_lt_of_le hpa HF.out.size) hgp).trans HC1.out, HA.out⟩, HF.out.grown HP3.out.2 hg0 hgp hpa⟩
end Go.Proofs.YtebacmmfjadalaaGreat
