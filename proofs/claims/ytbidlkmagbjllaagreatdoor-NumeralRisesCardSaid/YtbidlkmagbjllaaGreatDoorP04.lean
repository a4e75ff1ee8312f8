/- Y4 Y5 Q4 Q5 in one text. -/
import Derived.Test.YtbidlkmagbjllaaGreatDoorP03
import Derived.Maps.AppendAt
import Derived.Deep.RegionHeld3
import Derived.OwnWalk
import Derived.SizedLaws

namespace Go.Proofs.YtbidlkmagbjllaaGreatDoor.Nb
open Go Go.RowKit

theorem infoW : (Tryz.prog.info? 74).map (fun i => (i.zero, i.size, i.bytes)) = some (some (.int .u64 0), 1, 8) := by kernel_rfl

/-- words as values -/
def vals (ws : List Nat) : List Value := ws.map fun x => .int .u64 (x : Nat)
theorem vals_get {ws : List Nat} {j : Nat} (hj : j < ws.length) : (vals ws)[j]? = some (.int .u64 (ws.getD j 0 : Nat)) := by
  unfold vals
  rw [List.getElem?_map, List.getElem?_eq_getElem hj, List.getD_eq_getElem?_getD, List.getElem?_eq_getElem hj]; rfl
theorem vals_one (ws : List Nat) : ∀ u ∈ vals ws, u.oneCell' = true := by
  intro u hu
  obtain ⟨x, -, rfl⟩ := List.mem_map.1 hu
  rfl
/-- an owned row of words is a list of words -/
theorem Mag.of_own {w : World} {base : Nat} {v : Value} {ws : List Nat} (h : w.ownsRow base 74 1 v ws.length (vals ws)) (hw : W64 ws) : Mag w v ws := by
  rcases h.2 with ⟨rfl, hl⟩ | ⟨g, cap, cur, rfl, hb, hh, hc, hm, hs, ht⟩
  · rw [List.eq_nil_of_length_eq_zero hl]; exact Mag.nil w none 0 (by omega)
  · refine ⟨_, cap, rfl, hc, by simpa [maxLen] using hm, hw, fun h0 => ⟨g, 0, rfl, ?_, fun j hj => ?_⟩⟩
    · exact (h.lt g rfl).2
    · rw [Nat.zero_add, h.cellAt j (by omega), vals_get hj]

set_option maxRecDepth 8000 in
theorem run_append_words (w : World) (v : Value) (ws : List Nat) (h : Mag w v ws) (hl : ws.length ≤ 1099511627776) (ty : TypeId) :
    ∃ v' w', (Builtin.append_ #[100, 100] ty #[.slice none 0 0, v]).run Tryz.prog w = .ok v' w' ∧ Mag w' v' ws ∧ Below w.heap.size w w' := by
  obtain ⟨i0, hi0, hz0, hz1, hz2⟩ := info_parts infoW
  obtain ⟨A, c, rfl, hc0, hc1, hw, hcell⟩ := h
  rcases A with _ | ad
  · have h0 : ws.length = 0 := by
      rcases Nat.eq_zero_or_pos ws.length with h0 | h0
      · exact h0
      · obtain ⟨b, off, e, -⟩ := hcell h0
        cases e
    have hn : ws = [] := List.eq_nil_of_length_eq_zero h0
    subst hn
    refine ⟨.slice none 0 0, w, ?_, Mag.nil w none 0 (by omega), Below.refl _ _⟩
    simp [Builtin.append_, run_underlying Tryz.underlying100, sizeOf, typeInfo, hi0, Builtin.lenOf, Builtin.firstCells]
  · have hnews : ∀ j u, (vals ws)[j]? = some u → w.cell? (ad.add j) = some u := by
      intro j u hu
      have hj : j < ws.length := by
        have := (List.getElem?_eq_some_iff.1 hu).1
        simpa [vals] using this
      obtain ⟨b, off, e, -, hcl⟩ := hcell (by omega)
      injection e with e
      subst e
      rw [vals_get hj] at hu
      injection hu with hu
      subst hu
      rw [← hcl j hj, Go.WideShapes.add_plain]
    obtain ⟨v', w', hrun, hown, hg, -, -⟩ := run_append_own_at (P := Tryz.prog) w w.heap.size 100 ty 74 i0 _ 1 8 Tryz.underlying100 hi0 hz0 hz1 hz2 rfl (by omega) (.slice none 0 0) 0 [] (World.ownsRow_nil _ _ _ _)
      ad ws.length c (vals ws) (by simp [vals]) hnews (vals_one ws) (by simp only [maxLen]; omega) (by omega) (Nat.le_refl _)
    refine ⟨v', w', hrun, ?_, (Below.refl _ _).grown hg (Nat.le_refl _) (by simp [Value.ownBlock])⟩
    rw [Nat.zero_add, List.nil_append] at hown
    exact Mag.of_own hown hw

section
variable (w : World)
theorem wp_append_words {o : Oper} {a : Act} {K : Act → World → Prop} {Q : Exit → Act → World → Prop} (s x : Operand)
    (ho : o.op = .call { callee := .builtin .append, args := #[s, x], argTypes := #[100, 100] }) (v : Value) (ws : List Nat) (hs : a.eval s = .slice none 0 0) (hx : a.eval x = v) (hm : Mag w v ws) (hl : ws.length ≤ 1099511627776)
    (h : ∀ v' w', Mag w' v' ws → Below w.heap.size w w' → K (a.put o.dst v') w') : o.wp Tryz.prog a w K Q := by
  obtain ⟨v', w', hrun, h2, h3⟩ := run_append_words w v ws hm hl o.type
  unfold Oper.wp execOp
  simp only [ho, resolve, invoke, builtin, Sem.run_bind, Sem.run_pure, Result.andThen_ok, List.map_toArray, List.map_cons, List.map_nil, hs, hx, hrun]
  exact h v' w' h2 h3
theorem wpList_append_words {ops : Array Oper} {rest : List Oper} {o : Oper} {a : Act} {Q : Exit → Act → World → Prop} (hgd : o.guard = none) (s x : Operand)
    (ho : o.op = .call { callee := .builtin .append, args := #[s, x], argTypes := #[100, 100] }) (v : Value) (ws : List Nat) (hs : a.eval s = .slice none 0 0) (hx : a.eval x = v) (hm : Mag w v ws) (hl : ws.length ≤ 1099511627776)
    (h : ∀ v' w', Mag w' v' ws → Below w.heap.size w w' → wpList Tryz.prog ops Q rest (a.put o.dst v') w') : wpList Tryz.prog ops Q (o :: rest) a w :=
  wpList_plain hgd fun _ hK => wp_append_words w s x ho v ws hs hx hm hl fun v' w' h2 h3 => hK _ _ (h v' w' h2 h3)
theorem step_append_words {ops : Array Oper} {o : Oper} {a : Act} {K : Act → World → Prop} {Q : Exit → Act → World → Prop} {E : Prop} (hgd : o.guard = none) (s x : Operand)
    (ho : o.op = .call { callee := .builtin .append, args := #[s, x], argTypes := #[100, 100] }) (v : Value) (ws : List Nat) (hs : a.eval s = .slice none 0 0) (hx : a.eval x = v) (hm : Mag w v ws) (hl : ws.length ≤ 1099511627776)
    (h : ∀ v' w', Mag w' v' ws → Below w.heap.size w w' → K (a.put o.dst v') w') : if Region.wanted o (yielded ops a.tmps) = true then Oper.wp Tryz.prog o a w K Q else E := by
  have hw : Region.wanted o (yielded ops a.tmps) = true := by simp [Region.wanted, hgd]
  rw [if_pos hw]
  exact wp_append_words w s x ho v ws hs hx hm hl h
end
/-- clone: the same number in new memory -/
theorem clone_any (v : Value) (n L : Nat) (w : World) (h : MagN w v n L) (hL : L ≤ 1099511627776) : Calls Tryz.prog 105 #[v] w (Num w n L) := by
  obtain ⟨ws, hm, hn, hv, hl⟩ := h
  have HM := Lib.hid (And.intro hn (And.intro hv hl))
  have HW := Lib.hid hm
  obtain ⟨A, c, rfl, -⟩ := hm
  go_enter Tryz.func105, Tryz.ntmps105
  go_wp2_with (at_builtin; refine wpList_append_words _ rfl (.const (.slice none 0 0)) (.tmp 3) rfl _ ws rfl rfl HW.out (by have := HM.out.2.2; omega) ?_; intro v' w1 hm1 hb1; have HR := Lib.hid (And.intro hm1 hb1); obtain ⟨A1, c1, hv1, -⟩ := hm1; subst hv1; clear hb1)
  go_ret
  exact ⟨_, rfl, ⟨ws, HR.out.1, HM.out⟩, HR.out.2⟩
end Go.Proofs.YtbidlkmagbjllaaGreatDoor.Nb

namespace Go.Proofs.YtbidlkmagbjllaaGreatDoor.Nb
open Go Go.RowKit

def cmpN (m n : Nat) : Int := if m < n then -1 else if n < m then 1 else 0

/-- comparing word lists -/
theorem drewN3 (w : World) (a b c : Nat) : ((w.drewN a).drewN b).drewN c = w.drewN (a + b + c) := by rw [World.drewN_drewN, World.drewN_drewN, Nat.add_assoc]
/-- a quiet call in a region that stands behind another quiet region -/
theorem quiet_more {P : Program} {f : FuncId} {args : Array Value} {w : World} {a n : Nat} {v : Value}
    (h : Calls P f args (w.drewN (a + n)) fun e w' => e = .returned v ∧ ∃ m, w' = (w.drewN (a + n)).drewN m) :
    Calls P f args (w.drewN (a + n)) fun e w'' => e = .returned v ∧ ∃ m, w'' = w.drewN (a + m) :=
  h.mono fun _ _ ⟨he, m, hm⟩ => ⟨he, n + m, by rw [hm, World.drewN_drewN, Nat.add_assoc]⟩
def CmpSt (a b : List Nat) (k : Nat) : Prop := a.drop k = b.drop k

theorem cmp_case_lt {a b : List Nat} {k : Nat} (wa : W64 a) (hl : a.length = b.length) (hk : k ≤ a.length) (h0 : ¬ k = 0) (he : CmpSt a b k) (h : a.getD (k - 1) 0 < b.getD (k - 1) 0) : -1 = cmpN (val a) (val b) := by
  have := cmp_lt wa (k := k - 1) hl (by omega) (by rw [show k - 1 + 1 = k by omega]; exact he) h
  simp [cmpN, this]
theorem cmp_case_gt {a b : List Nat} {k : Nat} (wb : W64 b) (hl : a.length = b.length) (hk : k ≤ a.length) (h0 : ¬ k = 0) (he : CmpSt a b k) (h : b.getD (k - 1) 0 < a.getD (k - 1) 0) : 1 = cmpN (val a) (val b) := by
  have := cmp_lt wb (k := k - 1) hl.symm (by omega) (by rw [show k - 1 + 1 = k by omega]; exact he.symm) h
  simp [cmpN, this]; omega
theorem cmp_case_eq {a b : List Nat} {k : Nat} (hl : a.length = b.length) (hk : k ≤ a.length) (h0 : ¬ k = 0) (he : CmpSt a b k) (h : a.getD (k - 1) 0 = b.getD (k - 1) 0) : CmpSt a b (k - 1) :=
  drop_step hl (by omega) (by rw [show k - 1 + 1 = k by omega]; exact he) h

set_option maxHeartbeats 1000000 in
theorem compare_core (A B : Option Addr) (ca cb : Nat) (a b : List Nat) (w : World) (ha : Mag w (.slice A a.length ca) a) (hb : Mag w (.slice B b.length cb) b) (na : Norm a) (nb : Norm b) (hla : a.length ≤ 1099511627776) (hlb : b.length ≤ 1099511627776) :
    Calls Tryz.prog 160 #[.slice A a.length ca, .slice B b.length cb] w fun e w' => e = .returned (.int .i64 (cmpN (val a) (val b))) ∧ ∃ n, w' = w.drewN n := by
  obtain ⟨A', c', h1, -, -, wa, ha5⟩ := ha
  obtain ⟨B', d', g1, -, -, wb, hb5⟩ := hb
  injection h1 with h1 _ h6
  injection g1 with g1 _ g6
  subst h1 h6 g1 g6
  obtain ⟨n, hn⟩ : ∃ n, a.length = n := ⟨_, rfl⟩
  obtain ⟨m, hm⟩ : ∃ m, b.length = m := ⟨_, rfl⟩
  rw [hn] at ha5 hla ⊢
  rw [hm] at hb5 hlb ⊢
  by_cases c1 : n < m
  · have hv : cmpN (val a) (val b) = -1 := by have := norm_len_lt wa nb (by omega); simp [cmpN, this]
    rw [hv]
    clear ha5 hb5 hv hn hm
    have hne : ((n : Int) != (m : Int)) = true := by simp; omega
    go_enter Tryz.func160, Tryz.ntmps160
    go_wp2_with fail
    go_ret
    exact ⟨rfl, 0, rfl⟩
  · by_cases c2 : m < n
    · have hv : cmpN (val a) (val b) = 1 := by have := norm_len_lt wb na (by omega); simp [cmpN, this]; omega
      rw [hv]
      clear ha5 hb5 hv hn hm
      have hne : ((n : Int) != (m : Int)) = true := by simp; omega
      go_enter Tryz.func160, Tryz.ntmps160
      go_wp2_with fail
      go_ret
      exact ⟨rfl, 0, rfl⟩
    · obtain rfl : n = m := by omega
      have H1 := Lib.hid ha5
      have H2 := Lib.hid hb5
      have HN := Lib.hid (And.intro hn hm)
      have HE := Lib.hid (And.intro (show CmpSt a b n by unfold CmpSt; rw [List.drop_of_length_le (by omega), List.drop_of_length_le (by omega)]) (And.intro wa wb))
      clear ha5 hb5 hn hm wa wb na nb c1 c2
      go_enter Tryz.func160, Tryz.ntmps160
      go_wp2_with fail
      go_loopw [5] (fun v wr => ∃ k : Nat, k ≤ n ∧ v = .int .i64 ((k : Int) - 1) ∧ Hid (CmpSt a b k) ∧ ∃ j, wr = w.drewN j) (fun v _ => (intOf v + 1).toNat)
      case atStart => exact ⟨n, Nat.le_refl _, rfl, HE.out.1, 0, rfl⟩
      case round =>
        obtain ⟨k, hk, rfl, he, j, rfl⟩ := hrel
        by_cases h0 : k = 0
        · subst h0
          have hv : val a = val b := by have := he.out; unfold CmpSt at this; simpa using congrArg val this
          go_wp2_with fail
          go_ret
          exact ⟨by simp [cmpN, hv], j, rfl⟩
        · obtain ⟨b1, o1, rfl, hb1, hc1⟩ := H1.out (by omega)
          obtain ⟨b2, o2, rfl, hb2, hc2⟩ := H2.out (by omega)
          have hx := hc1 (k - 1) (by omega)
          have hy := hc2 (k - 1) (by omega)
          obtain ⟨x, ex⟩ : ∃ x, a.getD (k - 1) 0 = x := ⟨_, rfl⟩
          obtain ⟨y, ey⟩ : ∃ y, b.getD (k - 1) 0 = y := ⟨_, rfl⟩
          rw [ex] at hx
          rw [ey] at hy
          have EX := Lib.hid (And.intro ex ey)
          clear ex ey hc1 hc2
          have hk0 : (0 : Int) ≤ (k : Int) - 1 := by omega
          have hkn : (k : Int) - 1 < (n : Int) := by omega
          have hix : ((k : Int) - 1).toNat = k - 1 := by omega
          by_cases c1 : x < y
          · have hne : ((x : Int) != (y : Int)) = true := by simp; omega
            go_wp2_with fail
            go_quiet (fail)
            go_wp2_with fail
            go_quiet (fail)
            go_wp2_with fail
            go_ret
            exact ⟨congrArg Ending.returned (int_eq (cmp_case_lt HE.out.2.1 (HN.out.1.trans HN.out.2.symm) (by have := HN.out.1; omega) h0 he.out (by rw [EX.out.1, EX.out.2]; exact c1))), _, drewN3 _ _ _ _⟩
          · by_cases c2 : y < x
            · have hne : ((x : Int) != (y : Int)) = true := by simp; omega
              go_wp2_with fail
              go_quiet (fail)
              go_wp2_with fail
              go_quiet (fail)
              go_wp2_with fail
              go_ret
              exact ⟨congrArg Ending.returned (int_eq (cmp_case_gt HE.out.2.2 (HN.out.1.trans HN.out.2.symm) (by have := HN.out.1; omega) h0 he.out (by rw [EX.out.1, EX.out.2]; exact c2))), _, drewN3 _ _ _ _⟩
            · have hxy : x = y := by omega
              have hne : ((x : Int) != (y : Int)) = false := by simp; omega
              go_wp2_with fail
              go_quiet (fail)
              go_wp2_with fail
              go_roundw
              case rel => exact ⟨k - 1, by omega, int_eq (by omega), Lib.hid (cmp_case_eq (HN.out.1.trans HN.out.2.symm) (by have := HN.out.1; omega) h0 he.out (by rw [EX.out.1, EX.out.2]; omega)), _, rfl⟩
              case measure => simp [intOf]; omega

/-- compare: of two magnitudes -/
theorem compare_any (u v : Value) (m n L : Nat) (w : World) (hu : MagN w u m L) (hv : MagN w v n L) (hL : L ≤ 1099511627776) :
    Calls Tryz.prog 160 #[u, v] w fun e w' => e = .returned (.int .i64 (cmpN m n)) ∧ ∃ j, w' = w.drewN j := by
  obtain ⟨a, h1, h2, rfl, h4⟩ := hu
  obtain ⟨b, g1, g2, rfl, g4⟩ := hv
  have h1' := h1
  have g1' := g1
  obtain ⟨A, ca, rfl, -⟩ := h1
  obtain ⟨B, cb, rfl, -⟩ := g1
  exact compare_core A B ca cb a b w h1' g1' h2 g2 (by omega) (by omega)

end Go.Proofs.YtbidlkmagbjllaaGreatDoor.Nb

namespace Go.Proofs.YtbidlkmagbjllaaGreatDoor.Bg
open Go Go.RowKit

theorem infoW : (Tryz.prog.info? 88).map (fun i => (i.zero, i.size, i.bytes)) = some (some (.int .u32 0), 1, 4) := by kernel_rfl

/-- words as values -/
def vals (ws : List Nat) : List Value := ws.map fun x => .int .u32 (x : Nat)
theorem vals_get {ws : List Nat} {j : Nat} (hj : j < ws.length) : (vals ws)[j]? = some (.int .u32 (ws.getD j 0 : Nat)) := by
  unfold vals
  rw [List.getElem?_map, List.getElem?_eq_getElem hj, List.getD_eq_getElem?_getD, List.getElem?_eq_getElem hj]; rfl
theorem vals_one (ws : List Nat) : ∀ u ∈ vals ws, u.oneCell' = true := by
  intro u hu
  obtain ⟨x, -, rfl⟩ := List.mem_map.1 hu
  rfl
/-- an owned row of words is a list of words -/
theorem Mag.of_own {w : World} {base : Nat} {v : Value} {ws : List Nat} (h : w.ownsRow base 88 1 v ws.length (vals ws)) (hw : W32 ws) : Mag w v ws := by
  rcases h.2 with ⟨rfl, hl⟩ | ⟨g, cap, cur, rfl, hb, hh, hc, hm, hs, ht⟩
  · rw [List.eq_nil_of_length_eq_zero hl]; exact Mag.nil w none 0 (by omega)
  · refine ⟨_, cap, rfl, hc, by simpa [maxLen] using hm, hw, fun h0 => ⟨g, 0, rfl, ?_, fun j hj => ?_⟩⟩
    · exact (h.lt g rfl).2
    · rw [Nat.zero_add, h.cellAt j (by omega), vals_get hj]

set_option maxRecDepth 8000 in
theorem run_append_words (w : World) (v : Value) (ws : List Nat) (h : Mag w v ws) (hl : ws.length ≤ 1099511627776) (ty : TypeId) :
    ∃ v' w', (Builtin.append_ #[39, 39] ty #[.slice none 0 0, v]).run Tryz.prog w = .ok v' w' ∧ Mag w' v' ws ∧ Below w.heap.size w w' := by
  obtain ⟨i0, hi0, hz0, hz1, hz2⟩ := info_parts infoW
  obtain ⟨A, c, rfl, hc0, hc1, hw, hcell⟩ := h
  rcases A with _ | ad
  · have h0 : ws.length = 0 := by
      rcases Nat.eq_zero_or_pos ws.length with h0 | h0
      · exact h0
      · obtain ⟨b, off, e, -⟩ := hcell h0
        cases e
    have hn : ws = [] := List.eq_nil_of_length_eq_zero h0
    subst hn
    refine ⟨.slice none 0 0, w, ?_, Mag.nil w none 0 (by omega), Below.refl _ _⟩
    simp [Builtin.append_, run_underlying Tryz.underlying39, sizeOf, typeInfo, hi0, Builtin.lenOf, Builtin.firstCells]
  · have hnews : ∀ j u, (vals ws)[j]? = some u → w.cell? (ad.add j) = some u := by
      intro j u hu
      have hj : j < ws.length := by
        have := (List.getElem?_eq_some_iff.1 hu).1
        simpa [vals] using this
      obtain ⟨b, off, e, -, hcl⟩ := hcell (by omega)
      injection e with e
      subst e
      rw [vals_get hj] at hu
      injection hu with hu
      subst hu
      rw [← hcl j hj, Go.WideShapes.add_plain]
    obtain ⟨v', w', hrun, hown, hg, -, -⟩ := run_append_own_at (P := Tryz.prog) w w.heap.size 39 ty 88 i0 _ 1 4 Tryz.underlying39 hi0 hz0 hz1 hz2 rfl (by omega) (.slice none 0 0) 0 [] (World.ownsRow_nil _ _ _ _)
      ad ws.length c (vals ws) (by simp [vals]) hnews (vals_one ws) (by simp only [maxLen]; omega) (by omega) (Nat.le_refl _)
    refine ⟨v', w', hrun, ?_, (Below.refl _ _).grown hg (Nat.le_refl _) (by simp [Value.ownBlock])⟩
    rw [Nat.zero_add, List.nil_append] at hown
    exact Mag.of_own hown hw

section
variable (w : World)
theorem wp_append_words {o : Oper} {a : Act} {K : Act → World → Prop} {Q : Exit → Act → World → Prop} (s x : Operand)
    (ho : o.op = .call { callee := .builtin .append, args := #[s, x], argTypes := #[39, 39] }) (v : Value) (ws : List Nat) (hs : a.eval s = .slice none 0 0) (hx : a.eval x = v) (hm : Mag w v ws) (hl : ws.length ≤ 1099511627776)
    (h : ∀ v' w', Mag w' v' ws → Below w.heap.size w w' → K (a.put o.dst v') w') : o.wp Tryz.prog a w K Q := by
  obtain ⟨v', w', hrun, h2, h3⟩ := run_append_words w v ws hm hl o.type
  unfold Oper.wp execOp
  simp only [ho, resolve, invoke, builtin, Sem.run_bind, Sem.run_pure, Result.andThen_ok, List.map_toArray, List.map_cons, List.map_nil, hs, hx, hrun]
  exact h v' w' h2 h3
theorem wpList_append_words {ops : Array Oper} {rest : List Oper} {o : Oper} {a : Act} {Q : Exit → Act → World → Prop} (hgd : o.guard = none) (s x : Operand)
    (ho : o.op = .call { callee := .builtin .append, args := #[s, x], argTypes := #[39, 39] }) (v : Value) (ws : List Nat) (hs : a.eval s = .slice none 0 0) (hx : a.eval x = v) (hm : Mag w v ws) (hl : ws.length ≤ 1099511627776)
    (h : ∀ v' w', Mag w' v' ws → Below w.heap.size w w' → wpList Tryz.prog ops Q rest (a.put o.dst v') w') : wpList Tryz.prog ops Q (o :: rest) a w :=
  wpList_plain hgd fun _ hK => wp_append_words w s x ho v ws hs hx hm hl fun v' w' h2 h3 => hK _ _ (h v' w' h2 h3)
theorem step_append_words {ops : Array Oper} {o : Oper} {a : Act} {K : Act → World → Prop} {Q : Exit → Act → World → Prop} {E : Prop} (hgd : o.guard = none) (s x : Operand)
    (ho : o.op = .call { callee := .builtin .append, args := #[s, x], argTypes := #[39, 39] }) (v : Value) (ws : List Nat) (hs : a.eval s = .slice none 0 0) (hx : a.eval x = v) (hm : Mag w v ws) (hl : ws.length ≤ 1099511627776)
    (h : ∀ v' w', Mag w' v' ws → Below w.heap.size w w' → K (a.put o.dst v') w') : if Region.wanted o (yielded ops a.tmps) = true then Oper.wp Tryz.prog o a w K Q else E := by
  have hw : Region.wanted o (yielded ops a.tmps) = true := by simp [Region.wanted, hgd]
  rw [if_pos hw]
  exact wp_append_words w s x ho v ws hs hx hm hl h
end
end Go.Proofs.YtbidlkmagbjllaaGreatDoor.Bg

namespace Go.Proofs.YtbidlkmagbjllaaGreatDoor.Bg
open Go Go.RowKit

def cmpN (m n : Nat) : Int := if m < n then -1 else if n < m then 1 else 0

/-- comparing word lists -/
theorem drewN3 (w : World) (a b c : Nat) : ((w.drewN a).drewN b).drewN c = w.drewN (a + b + c) := by rw [World.drewN_drewN, World.drewN_drewN, Nat.add_assoc]
/-- a quiet call in a region that stands behind another quiet region -/
theorem quiet_more {P : Program} {f : FuncId} {args : Array Value} {w : World} {a n : Nat} {v : Value}
    (h : Calls P f args (w.drewN (a + n)) fun e w' => e = .returned v ∧ ∃ m, w' = (w.drewN (a + n)).drewN m) :
    Calls P f args (w.drewN (a + n)) fun e w'' => e = .returned v ∧ ∃ m, w'' = w.drewN (a + m) :=
  h.mono fun _ _ ⟨he, m, hm⟩ => ⟨he, n + m, by rw [hm, World.drewN_drewN, Nat.add_assoc]⟩
def CmpSt (a b : List Nat) (k : Nat) : Prop := a.drop k = b.drop k

theorem cmp_case_lt {a b : List Nat} {k : Nat} (wa : W32 a) (hl : a.length = b.length) (hk : k ≤ a.length) (h0 : ¬ k = 0) (he : CmpSt a b k) (h : a.getD (k - 1) 0 < b.getD (k - 1) 0) : -1 = cmpN (val a) (val b) := by
  have := cmp_lt wa (k := k - 1) hl (by omega) (by rw [show k - 1 + 1 = k by omega]; exact he) h
  simp [cmpN, this]
theorem cmp_case_gt {a b : List Nat} {k : Nat} (wb : W32 b) (hl : a.length = b.length) (hk : k ≤ a.length) (h0 : ¬ k = 0) (he : CmpSt a b k) (h : b.getD (k - 1) 0 < a.getD (k - 1) 0) : 1 = cmpN (val a) (val b) := by
  have := cmp_lt wb (k := k - 1) hl.symm (by omega) (by rw [show k - 1 + 1 = k by omega]; exact he.symm) h
  simp [cmpN, this]; omega
theorem cmp_case_eq {a b : List Nat} {k : Nat} (hl : a.length = b.length) (hk : k ≤ a.length) (h0 : ¬ k = 0) (he : CmpSt a b k) (h : a.getD (k - 1) 0 = b.getD (k - 1) 0) : CmpSt a b (k - 1) :=
  drop_step hl (by omega) (by rw [show k - 1 + 1 = k by omega]; exact he) h

set_option maxHeartbeats 1000000 in
theorem compare_core (A B : Option Addr) (ca cb : Nat) (a b : List Nat) (w : World) (ha : Mag w (.slice A a.length ca) a) (hb : Mag w (.slice B b.length cb) b) (na : Norm a) (nb : Norm b) (hla : a.length ≤ 1099511627776) (hlb : b.length ≤ 1099511627776) :
    Calls Tryz.prog 67 #[.slice A a.length ca, .slice B b.length cb] w fun e w' => e = .returned (.int .i64 (cmpN (val a) (val b))) ∧ ∃ n, w' = w.drewN n := by
  obtain ⟨A', c', h1, -, -, wa, ha5⟩ := ha
  obtain ⟨B', d', g1, -, -, wb, hb5⟩ := hb
  injection h1 with h1 _ h6
  injection g1 with g1 _ g6
  subst h1 h6 g1 g6
  obtain ⟨n, hn⟩ : ∃ n, a.length = n := ⟨_, rfl⟩
  obtain ⟨m, hm⟩ : ∃ m, b.length = m := ⟨_, rfl⟩
  rw [hn] at ha5 hla ⊢
  rw [hm] at hb5 hlb ⊢
  by_cases c1 : n < m
  · have hv : cmpN (val a) (val b) = -1 := by have := norm_len_lt wa nb (by omega); simp [cmpN, this]
    rw [hv]
    clear ha5 hb5 hv hn hm
    have hne : ((n : Int) != (m : Int)) = true := by simp; omega
    go_enter Tryz.func67, Tryz.ntmps67
    go_wp2_with fail
    go_ret
    exact ⟨rfl, 0, rfl⟩
  · by_cases c2 : m < n
    · have hv : cmpN (val a) (val b) = 1 := by have := norm_len_lt wb na (by omega); simp [cmpN, this]; omega
      rw [hv]
      clear ha5 hb5 hv hn hm
      have hne : ((n : Int) != (m : Int)) = true := by simp; omega
      go_enter Tryz.func67, Tryz.ntmps67
      go_wp2_with fail
      go_ret
      exact ⟨rfl, 0, rfl⟩
    · obtain rfl : n = m := by omega
      have H1 := Lib.hid ha5
      have H2 := Lib.hid hb5
      have HN := Lib.hid (And.intro hn hm)
      have HE := Lib.hid (And.intro (show CmpSt a b n by unfold CmpSt; rw [List.drop_of_length_le (by omega), List.drop_of_length_le (by omega)]) (And.intro wa wb))
      clear ha5 hb5 hn hm wa wb na nb c1 c2
      go_enter Tryz.func67, Tryz.ntmps67
      go_wp2_with fail
      go_loopw [5] (fun v wr => ∃ k : Nat, k ≤ n ∧ v = .int .i64 ((k : Int) - 1) ∧ Hid (CmpSt a b k) ∧ ∃ j, wr = w.drewN j) (fun v _ => (intOf v + 1).toNat)
      case atStart => exact ⟨n, Nat.le_refl _, rfl, HE.out.1, 0, rfl⟩
      case round =>
        obtain ⟨k, hk, rfl, he, j, rfl⟩ := hrel
        by_cases h0 : k = 0
        · subst h0
          have hv : val a = val b := by have := he.out; unfold CmpSt at this; simpa using congrArg val this
          go_wp2_with fail
          go_ret
          exact ⟨by simp [cmpN, hv], j, rfl⟩
        · obtain ⟨b1, o1, rfl, hb1, hc1⟩ := H1.out (by omega)
          obtain ⟨b2, o2, rfl, hb2, hc2⟩ := H2.out (by omega)
          have hx := hc1 (k - 1) (by omega)
          have hy := hc2 (k - 1) (by omega)
          obtain ⟨x, ex⟩ : ∃ x, a.getD (k - 1) 0 = x := ⟨_, rfl⟩
          obtain ⟨y, ey⟩ : ∃ y, b.getD (k - 1) 0 = y := ⟨_, rfl⟩
          rw [ex] at hx
          rw [ey] at hy
          have EX := Lib.hid (And.intro ex ey)
          clear ex ey hc1 hc2
          have hk0 : (0 : Int) ≤ (k : Int) - 1 := by omega
          have hkn : (k : Int) - 1 < (n : Int) := by omega
          have hix : ((k : Int) - 1).toNat = k - 1 := by omega
          by_cases c1 : x < y
          · go_wp2_with fail
            go_quiet (fail)
            go_wp2_with fail
            go_ret
            exact ⟨congrArg Ending.returned (int_eq (cmp_case_lt HE.out.2.1 (HN.out.1.trans HN.out.2.symm) (by have := HN.out.1; omega) h0 he.out (by rw [EX.out.1, EX.out.2]; exact c1))), _, World.drewN_drewN _ _ _⟩
          · by_cases c2 : y < x
            · go_wp2_with fail
              go_quiet (fail)
              go_wp2_with fail
              go_quiet (fail)
              go_wp2_with fail
              go_ret
              exact ⟨congrArg Ending.returned (int_eq (cmp_case_gt HE.out.2.2 (HN.out.1.trans HN.out.2.symm) (by have := HN.out.1; omega) h0 he.out (by rw [EX.out.1, EX.out.2]; exact c2))), _, drewN3 _ _ _ _⟩
            · go_wp2_with fail
              go_quiet (fail)
              go_wp2_with fail
              go_quiet (fail)
              go_wp2_with fail
              go_roundw
              case rel => exact ⟨k - 1, by omega, int_eq (by omega), cmp_case_eq (HN.out.1.trans HN.out.2.symm) (by have := HN.out.1; omega) h0 he.out (by rw [EX.out.1, EX.out.2]; omega), _, rfl⟩
              case measure => simp [intOf]; omega

/-- compare: of two magnitudes -/
theorem compare_any (u v : Value) (m n L : Nat) (w : World) (hu : MagN w u m L) (hv : MagN w v n L) (hL : L ≤ 1099511627776) :
    Calls Tryz.prog 67 #[u, v] w fun e w' => e = .returned (.int .i64 (cmpN m n)) ∧ ∃ j, w' = w.drewN j := by
  obtain ⟨a, h1, h2, rfl, h4⟩ := hu
  obtain ⟨b, g1, g2, rfl, g4⟩ := hv
  have h1' := h1
  have g1' := g1
  obtain ⟨A, ca, rfl, -⟩ := h1
  obtain ⟨B, cb, rfl, -⟩ := g1
  exact compare_core A B ca cb a b w h1' g1' h2 g2 (by omega) (by omega)

def cmpI (x y : Int) : Int := if x < y then -1 else if y < x then 1 else 0

theorem cmp_pp {x y : Int} {m n : Nat} (hx : x = if false = true then -(m : Int) else (m : Int)) (hy : y = if false = true then -(n : Int) else (n : Int)) : cmpN m n = cmpI x y := by
  simp at hx hy; subst hx hy; unfold cmpN cmpI; (repeat' split) <;> omega
theorem cmp_nn {x y : Int} {m n : Nat} (hx : x = if true = true then -(m : Int) else (m : Int)) (hy : y = if true = true then -(n : Int) else (n : Int)) : -cmpN m n = cmpI x y := by
  simp at hx hy; subst hx hy; unfold cmpN cmpI; (repeat' split) <;> omega
theorem cmp_pn {x y : Int} {m n : Nat} (hx : x = if false = true then -(m : Int) else (m : Int)) (hy : y = if true = true then -(n : Int) else (n : Int)) (hn : n ≠ 0) : 1 = cmpI x y := by
  simp at hx hy; subst hx hy; unfold cmpI; (repeat' split) <;> omega
theorem cmp_np {x y : Int} {m n : Nat} (hx : x = if true = true then -(m : Int) else (m : Int)) (hy : y = if false = true then -(n : Int) else (n : Int)) (hm : m ≠ 0) : -1 = cmpI x y := by
  simp at hx hy; subst hx hy; unfold cmpI; (repeat' split) <;> omega

set_option maxHeartbeats 1000000 in
/-- Cmp: of two whole numbers -/
theorem Cmp_any (p q : Addr) (x y : Int) (L : Nat) (w : World) (hp : IntAt w p x L) (hq : IntAt w q y L) (hL : L ≤ 1099511627776) :
    Calls Tryz.prog 21 #[.pointer (some p), .pointer (some q)] w fun e w' => e = .returned (.int .i64 (cmpI x y)) ∧ ∃ j, w' = w.drewN j := by
  obtain ⟨b, off, neg, u, m, rfl, hb, h3, h4, h5, h6, h7⟩ := hp
  obtain ⟨b', off', neg', v, n, rfl, hb', g3, g4, g5, g6, g7⟩ := hq
  have hc := fun (W : World) (hu : MagN W u m L) (hv : MagN W v n L) => compare_any u v m n L W hu hv hL
  have HC := Lib.hid hc
  have H5 := Lib.hid h5
  have G5 := Lib.hid g5
  have HX := Lib.hid (And.intro (And.intro h6 h7) (And.intro g6 g7))
  clear hc h5 g5 h6 h7 g6 g7
  have k0 : -1 ≤ cmpN m n := by unfold cmpN; split <;> (try split) <;> omega
  have k1 : cmpN m n ≤ 1 := by unfold cmpN; split <;> (try split) <;> omega
  cases neg <;> cases neg'
  · go_enter Tryz.func21, Tryz.ntmps21
    go_wp2_with fail
    go_quiet (fail)
    go_wp2_with fail
    go_quiet ((go_at_call 67; refine quiet_more (HC.out _ ?_ ?_); exact H5.out; exact G5.out))
    go_wp2_with fail
    go_ret
    exact ⟨congrArg Ending.returned (int_eq (cmp_pp HX.out.1.1 HX.out.2.1)), _, rfl⟩
  · go_enter Tryz.func21, Tryz.ntmps21
    go_wp2_with fail
    go_quiet (fail)
    go_wp2_with fail
    go_ret
    exact ⟨congrArg Ending.returned (int_eq (cmp_pn HX.out.1.1 HX.out.2.1 (HX.out.2.2 trivial))), _, rfl⟩
  · go_enter Tryz.func21, Tryz.ntmps21
    go_wp2_with fail
    go_quiet (fail)
    go_wp2_with fail
    go_ret
    exact ⟨congrArg Ending.returned (int_eq (cmp_np HX.out.1.1 HX.out.2.1 (HX.out.1.2 trivial))), _, rfl⟩
  · go_enter Tryz.func21, Tryz.ntmps21
    go_wp2_with fail
    go_quiet (fail)
    go_wp2_with fail
    go_quiet ((go_at_call 67; refine quiet_more (HC.out _ ?_ ?_); exact H5.out; exact G5.out))
    go_wp2_with fail
    go_ret
    exact ⟨congrArg Ending.returned (int_eq (cmp_nn HX.out.1.1 HX.out.2.1)), _, rfl⟩

end Go.Proofs.YtbidlkmagbjllaaGreatDoor.Bg
