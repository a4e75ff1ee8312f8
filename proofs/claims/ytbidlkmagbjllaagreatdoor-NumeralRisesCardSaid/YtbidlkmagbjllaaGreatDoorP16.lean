/- E9 E13 E15 X4 X5 X6 in one text. -/
import Derived.Test.YtbidlkmagbjllaaGreatDoorP13
import Derived.Test.YtbidlkmagbjllaaGreatDoorP15
import Derived.Deep.RegionHeld3
import Derived.Lib.OthersKept
import Derived.Test.YtbidlkmagbjllaaGreatDoorP08
import Derived.Laws.Externs
import Derived.Laws.BitsAllLaws
import Ieee.Arith
import GoSem.Core.Float

namespace Go.Proofs.YtbidlkmagbjllaaGreatDoor.Nb
open Go Go.RowKit

/-- the format of doubles lies in block b -/
def Fmt (w : World) (b : Nat) : Prop := w.cell? ⟨b, 0, none⟩ = some (.int .u64 52) ∧ w.cell? ⟨b, 1, none⟩ = some (.int .i64 2047) ∧ w.cell? ⟨b, 2, none⟩ = some (.int .i64 1075) ∧ b < w.heap.size
theorem Fmt.below {w w' : World} {b : Nat} (h : Fmt w b) (k : Below w.heap.size w w') : Fmt w' b :=
  ⟨(k.cell (p := ⟨b, 0, none⟩) h.2.2.2).trans h.1, (k.cell (p := ⟨b, 1, none⟩) h.2.2.2).trans h.2.1, (k.cell (p := ⟨b, 2, none⟩) h.2.2.2).trans h.2.2.1, Nat.lt_of_lt_of_le h.2.2.2 k.size⟩
theorem Fmt.new (w : World) (t : TypeId) : Fmt (w.alloc (.cells #[.int .u64 52, .int .i64 2047, .int .i64 1075] t)) w.heap.size := ⟨by simp [go_sem], by simp [go_sem], by simp [go_sem], by simp⟩

set_option maxRecDepth 8000 in
theorem hidden_f (w : World) : Calls Tryz.prog 125 #[(.agg #[.int .u64 52, .int .i64 2047, .int .i64 1075])] w fun e w' => e = .returned (.int .u64 4503599627370496) ∧ Below w.heap.size w w' := by
  go_enter Tryz.func125, Tryz.ntmps125
  go_wp2_with fail
  go_ret
  exact ⟨rfl, (Below.refl _ _).alloc (Nat.le_refl _) _⟩

set_option maxRecDepth 8000 in
theorem sign_f (w : World) : Calls Tryz.prog 176 #[(.agg #[.int .u64 52, .int .i64 2047, .int .i64 1075])] w fun e w' => e = .returned (.int .u64 9223372036854775808) ∧ Below w.heap.size w w' := by
  go_enter Tryz.func176, Tryz.ntmps176
  go_wp2_with fail
  go_ret
  exact ⟨rfl, (Below.refl _ _).alloc (Nat.le_refl _) _⟩

set_option maxRecDepth 8000 in
theorem infinite_f (w : World) : Calls Tryz.prog 183 #[(.agg #[.int .u64 52, .int .i64 2047, .int .i64 1075])] w fun e w' => e = .returned (.int .u64 9218868437227405312) ∧ Below w.heap.size w w' := by
  go_enter Tryz.func183, Tryz.ntmps183
  go_wp2_with fail
  go_ret
  exact ⟨rfl, (Below.refl _ _).alloc (Nat.le_refl _) _⟩

set_option maxRecDepth 8000 in
set_option maxHeartbeats 1000000 in
theorem nan_ten (w : World) : Calls Tryz.prog 143 #[.int .u64 4621819117588971520, (.agg #[.int .u64 52, .int .i64 2047, .int .i64 1075])] w fun e w' => e = .returned (.bool false) ∧ Below w.heap.size w w' := by
  have hA := (Below.refl w.heap.size w).alloc (Nat.le_refl _) (.cells #[.int .u64 52, .int .i64 2047, .int .i64 1075] 129)
  have HA := Lib.hid (And.intro hA (Fmt.new w 129))
  have hb : bits .andNot .u64 4621819117588971520 9223372036854775808 = 4621819117588971520 := by decide
  obtain ⟨W, hW⟩ : ∃ W, w.alloc (.cells #[.int .u64 52, .int .i64 2047, .int .i64 1075] 129) = W := ⟨_, rfl⟩
  rw [hW] at HA
  have HS := Lib.hid (fun (V : World) (hV : Below W.heap.size W V) => HA.out.2.below hV)
  clear hA
  go_enter Tryz.func143, Tryz.ntmps143
  go_wp2_with fail
  have hcur : Below W.heap.size W W.drew := (Below.refl _ _).drew
  go_region_held3 (fun w' => w'.cell? ⟨w.heap.size, 0, none⟩ = some (.int .u64 52) ∧ w'.cell? ⟨w.heap.size, 1, none⟩ = some (.int .i64 2047) ∧ w'.cell? ⟨w.heap.size, 2, none⟩ = some (.int .i64 1075)) (first | (have q := HS.out _ (by first | exact hw2 | exact hw1 | exact hcur); exact ⟨q.1, q.2.1, q.2.2.1⟩)) (first | (go_at_call 183; refine (infinite_f _).mono ?_; rintro e w2 ⟨rfl, bw2⟩; have hw2 := back_of' hw1 bw2; clear bw2) | (go_at_call 176; refine (sign_f _).mono ?_; rintro e w1 ⟨rfl, bw1⟩; have hw1 := back_of' hcur bw1; clear bw1))
  all_goals go_wp2_with fail
  all_goals (go_ret; exact ⟨rfl, back_of' HA.out.1 hw2⟩)

set_option maxRecDepth 8000 in
theorem canon_ten (w : World) : Calls Tryz.prog 92 #[.int .u64 4621819117588971520, (.agg #[.int .u64 52, .int .i64 2047, .int .i64 1075])] w fun e w' => e = .returned (.int .u64 4621819117588971520) ∧ Below w.heap.size w w' := by
  have hA := (Below.refl w.heap.size w).alloc (Nat.le_refl _) (.cells #[.int .u64 52, .int .i64 2047, .int .i64 1075] 129)
  have HN := Lib.hid (nan_ten (w.alloc (.cells #[.int .u64 52, .int .i64 2047, .int .i64 1075] 129)))
  have HA := Lib.hid hA
  clear hA
  go_enter Tryz.func92, Tryz.ntmps92
  go_wp2_with fail
  refine HN.out.mono ?_
  rintro e w1 ⟨rfl, b1⟩
  have HB := Lib.hid (back_of' HA.out b1)
  clear b1
  go_wp2_with fail
  go_ret
  exact ⟨rfl, HB.out⟩

set_option maxRecDepth 8000 in
set_option maxHeartbeats 1000000 in
theorem split_ten (w : World) : Calls Tryz.prog 123 #[.int .u64 4621819117588971520, (.agg #[.int .u64 52, .int .i64 2047, .int .i64 1075])] w fun e w' => e = .returned (.tuple #[.bool false, .int .i64 1026, .int .u64 1125899906842624]) ∧ Below w.heap.size w w' := by
  have hA := (Below.refl w.heap.size w).alloc (Nat.le_refl _) (.cells #[.int .u64 52, .int .i64 2047, .int .i64 1075] 129)
  have HN := Lib.hid (canon_ten (w.alloc (.cells #[.int .u64 52, .int .i64 2047, .int .i64 1075] 129)))
  have HA := Lib.hid (And.intro hA (Fmt.new w 129))
  have h1 : bits .and .u64 4621819117588971520 9223372036854775808 = 0 := by decide
  have h2 : bits .and .u64 1026 2047 = 1026 := by decide
  have h3 : bits .and .u64 4621819117588971520 4503599627370495 = 1125899906842624 := by decide
  clear hA
  go_enter Tryz.func123, Tryz.ntmps123
  go_wp2_with fail
  refine HN.out.mono ?_
  rintro e W ⟨rfl, b0⟩
  have HS := Lib.hid (fun (V : World) (hV : Below W.heap.size W V) => (HA.out.2.below b0).below hV)
  have HB := Lib.hid (back_of' HA.out.1 b0)
  clear b0 HN
  go_wp2_with fail
  have hcur : Below W.heap.size W W.drew := (Below.refl _ _).drew
  go_region_held3 (fun w' => w'.cell? ⟨w.heap.size, 0, none⟩ = some (.int .u64 52) ∧ w'.cell? ⟨w.heap.size, 1, none⟩ = some (.int .i64 2047) ∧ w'.cell? ⟨w.heap.size, 2, none⟩ = some (.int .i64 1075)) (first | (have q := HS.out _ (by first | exact hw2 | exact hw1 | exact hcur); exact ⟨q.1, q.2.1, q.2.2.1⟩)) (first | (go_at_call 125; refine (hidden_f _).mono ?_; rintro e w2 ⟨rfl, bw2⟩; have hw2 := back_of' hw1 bw2; clear bw2) | (go_at_call 176; refine (sign_f _).mono ?_; rintro e w1 ⟨rfl, bw1⟩; have hw1 := back_of' hcur bw1; clear bw1))
  all_goals go_wp2_with fail
  all_goals (go_ret3; exact ⟨rfl, back_of' HB.out hw2⟩)

set_option maxRecDepth 8000 in
theorem class_ten (w : World) : Calls Tryz.prog 124 #[.int .u64 4621819117588971520, (.agg #[.int .u64 52, .int .i64 2047, .int .i64 1075])] w fun e w' => e = .returned (.int .i64 5) ∧ Below w.heap.size w w' := by
  have hA := (Below.refl w.heap.size w).alloc (Nat.le_refl _) (.cells #[.int .u64 52, .int .i64 2047, .int .i64 1075] 129)
  have HN := Lib.hid (split_ten (w.alloc (.cells #[.int .u64 52, .int .i64 2047, .int .i64 1075] 129)))
  have HA := Lib.hid (And.intro hA (Fmt.new w 129))
  clear hA
  go_enter Tryz.func124, Tryz.ntmps124
  go_wp2_with fail
  refine HN.out.mono ?_
  rintro e w1 ⟨rfl, b1⟩
  have HB := Lib.hid (back_of' HA.out.1 b1)
  obtain ⟨f0, f1, f2, -⟩ := HA.out.2.below b1
  clear b1
  go_wp2_with fail
  go_ret
  exact ⟨rfl, HB.out⟩

set_option maxRecDepth 8000 in
set_option maxHeartbeats 1000000 in
theorem nan_tenth (w : World) : Calls Tryz.prog 143 #[.int .u64 4591870180066957722, (.agg #[.int .u64 52, .int .i64 2047, .int .i64 1075])] w fun e w' => e = .returned (.bool false) ∧ Below w.heap.size w w' := by
  have hA := (Below.refl w.heap.size w).alloc (Nat.le_refl _) (.cells #[.int .u64 52, .int .i64 2047, .int .i64 1075] 129)
  have HA := Lib.hid (And.intro hA (Fmt.new w 129))
  have hb : bits .andNot .u64 4591870180066957722 9223372036854775808 = 4591870180066957722 := by decide
  obtain ⟨W, hW⟩ : ∃ W, w.alloc (.cells #[.int .u64 52, .int .i64 2047, .int .i64 1075] 129) = W := ⟨_, rfl⟩
  rw [hW] at HA
  have HS := Lib.hid (fun (V : World) (hV : Below W.heap.size W V) => HA.out.2.below hV)
  clear hA
  go_enter Tryz.func143, Tryz.ntmps143
  go_wp2_with fail
  have hcur : Below W.heap.size W W.drew := (Below.refl _ _).drew
  go_region_held3 (fun w' => w'.cell? ⟨w.heap.size, 0, none⟩ = some (.int .u64 52) ∧ w'.cell? ⟨w.heap.size, 1, none⟩ = some (.int .i64 2047) ∧ w'.cell? ⟨w.heap.size, 2, none⟩ = some (.int .i64 1075)) (first | (have q := HS.out _ (by first | exact hw2 | exact hw1 | exact hcur); exact ⟨q.1, q.2.1, q.2.2.1⟩)) (first | (go_at_call 183; refine (infinite_f _).mono ?_; rintro e w2 ⟨rfl, bw2⟩; have hw2 := back_of' hw1 bw2; clear bw2) | (go_at_call 176; refine (sign_f _).mono ?_; rintro e w1 ⟨rfl, bw1⟩; have hw1 := back_of' hcur bw1; clear bw1))
  all_goals go_wp2_with fail
  all_goals (go_ret; exact ⟨rfl, back_of' HA.out.1 hw2⟩)

set_option maxRecDepth 8000 in
theorem canon_tenth (w : World) : Calls Tryz.prog 92 #[.int .u64 4591870180066957722, (.agg #[.int .u64 52, .int .i64 2047, .int .i64 1075])] w fun e w' => e = .returned (.int .u64 4591870180066957722) ∧ Below w.heap.size w w' := by
  have hA := (Below.refl w.heap.size w).alloc (Nat.le_refl _) (.cells #[.int .u64 52, .int .i64 2047, .int .i64 1075] 129)
  have HN := Lib.hid (nan_tenth (w.alloc (.cells #[.int .u64 52, .int .i64 2047, .int .i64 1075] 129)))
  have HA := Lib.hid hA
  clear hA
  go_enter Tryz.func92, Tryz.ntmps92
  go_wp2_with fail
  refine HN.out.mono ?_
  rintro e w1 ⟨rfl, b1⟩
  have HB := Lib.hid (back_of' HA.out b1)
  clear b1
  go_wp2_with fail
  go_ret
  exact ⟨rfl, HB.out⟩

set_option maxRecDepth 8000 in
set_option maxHeartbeats 1000000 in
theorem split_tenth (w : World) : Calls Tryz.prog 123 #[.int .u64 4591870180066957722, (.agg #[.int .u64 52, .int .i64 2047, .int .i64 1075])] w fun e w' => e = .returned (.tuple #[.bool false, .int .i64 1019, .int .u64 2702159776422298]) ∧ Below w.heap.size w w' := by
  have hA := (Below.refl w.heap.size w).alloc (Nat.le_refl _) (.cells #[.int .u64 52, .int .i64 2047, .int .i64 1075] 129)
  have HN := Lib.hid (canon_tenth (w.alloc (.cells #[.int .u64 52, .int .i64 2047, .int .i64 1075] 129)))
  have HA := Lib.hid (And.intro hA (Fmt.new w 129))
  have h1 : bits .and .u64 4591870180066957722 9223372036854775808 = 0 := by decide
  have h2 : bits .and .u64 1019 2047 = 1019 := by decide
  have h3 : bits .and .u64 4591870180066957722 4503599627370495 = 2702159776422298 := by decide
  clear hA
  go_enter Tryz.func123, Tryz.ntmps123
  go_wp2_with fail
  refine HN.out.mono ?_
  rintro e W ⟨rfl, b0⟩
  have HS := Lib.hid (fun (V : World) (hV : Below W.heap.size W V) => (HA.out.2.below b0).below hV)
  have HB := Lib.hid (back_of' HA.out.1 b0)
  clear b0 HN
  go_wp2_with fail
  have hcur : Below W.heap.size W W.drew := (Below.refl _ _).drew
  go_region_held3 (fun w' => w'.cell? ⟨w.heap.size, 0, none⟩ = some (.int .u64 52) ∧ w'.cell? ⟨w.heap.size, 1, none⟩ = some (.int .i64 2047) ∧ w'.cell? ⟨w.heap.size, 2, none⟩ = some (.int .i64 1075)) (first | (have q := HS.out _ (by first | exact hw2 | exact hw1 | exact hcur); exact ⟨q.1, q.2.1, q.2.2.1⟩)) (first | (go_at_call 125; refine (hidden_f _).mono ?_; rintro e w2 ⟨rfl, bw2⟩; have hw2 := back_of' hw1 bw2; clear bw2) | (go_at_call 176; refine (sign_f _).mono ?_; rintro e w1 ⟨rfl, bw1⟩; have hw1 := back_of' hcur bw1; clear bw1))
  all_goals go_wp2_with fail
  all_goals (go_ret3; exact ⟨rfl, back_of' HB.out hw2⟩)

set_option maxRecDepth 8000 in
theorem class_tenth (w : World) : Calls Tryz.prog 124 #[.int .u64 4591870180066957722, (.agg #[.int .u64 52, .int .i64 2047, .int .i64 1075])] w fun e w' => e = .returned (.int .i64 5) ∧ Below w.heap.size w w' := by
  have hA := (Below.refl w.heap.size w).alloc (Nat.le_refl _) (.cells #[.int .u64 52, .int .i64 2047, .int .i64 1075] 129)
  have HN := Lib.hid (split_tenth (w.alloc (.cells #[.int .u64 52, .int .i64 2047, .int .i64 1075] 129)))
  have HA := Lib.hid (And.intro hA (Fmt.new w 129))
  clear hA
  go_enter Tryz.func124, Tryz.ntmps124
  go_wp2_with fail
  refine HN.out.mono ?_
  rintro e w1 ⟨rfl, b1⟩
  have HB := Lib.hid (back_of' HA.out.1 b1)
  obtain ⟨f0, f1, f2, -⟩ := HA.out.2.below b1
  clear b1
  go_wp2_with fail
  go_ret
  exact ⟨rfl, HB.out⟩
end Go.Proofs.YtbidlkmagbjllaaGreatDoor.Nb

namespace Go.Proofs.YtbidlkmagbjllaaGreatDoor.Nb
open Go Go.RowKit Go.Proofs

theorem row_kind {w : World} {B e : Nat} {v : Value} {n : Nat} {xs : List Value} (h : w.ownsRow B e 1 v n xs) : ∀ g, v.ownBlock = some g → ∃ c fz, w.heap[g]? = some (.cells c e fz) := by
  intro g hg
  rcases h.2 with ⟨hv, _⟩ | ⟨g', cap, cur, hv, hb, hh, _⟩
  · rw [hv] at hg; simp [Value.ownBlock] at hg
  · rw [hv] at hg
    simp [Value.ownBlock] at hg
    subst hg
    exact ⟨_, _, hh⟩
theorem check_k (B b : Nat) (bs : List Value) (w : World) (h : Lib.IsBuilder 63 5 B b bs w) :
    Calls Tryz.prog 68 #[.pointer (some ⟨b, 0, none⟩)] w fun e w' => e = .returned (.tuple #[]) ∧ (Lib.BuilderAt 63 5 B b (.pointer (some ⟨b, 0, none⟩)) bs w' ∧ Below B w w' ∧ Lib.OthersKept 5 (some b) w w') := by
  rcases h with h | h
  · refine (check_fresh b w h.cell0 h.shape h.frozen0).mono ?_
    rintro e w' ⟨rfl, rfl⟩
    exact ⟨rfl, h.used _, (Below.refl B w).setCell (p := ⟨b, 0, none⟩) h.1 _, (Lib.OthersKept.refl _ _ w).setCell ⟨b, 0, none⟩ rfl _⟩
  · refine (check_used b w h.cell0).mono ?_
    rintro e w' ⟨rfl, rfl⟩
    exact ⟨rfl, h, Below.refl B _, Lib.OthersKept.refl _ _ _⟩

set_option maxHeartbeats 2000000 in
set_option maxRecDepth 100000 in
theorem writeByte_k (B b : Nat) (bs : List Value) (c : Int) (w : World) (h : Lib.IsBuilder 63 5 B b bs w) (hlen : bs.length + 1 ≤ 140737488355328) (hBw : B ≤ w.heap.size) :
    Calls Tryz.prog 22 #[.pointer (some ⟨b, 0, none⟩), .int .u8 c] w fun e w' => e = .returned .nilIface ∧ (Lib.BuilderAt 63 5 B b (.pointer (some ⟨b, 0, none⟩)) (bs ++ [.int .u8 c]) w' ∧ Below B w w' ∧ Lib.OthersKept 5 (some b) w w') := by
  obtain ⟨i0, hi, hz0, hz1, hz2⟩ := info_parts infoU
  have HK := Lib.hid (check_k B b bs w h)
  clear h
  go_enter Tryz.func22, Tryz.ntmps22
  go_wp2_with fail
  refine HK.out.mono ?_
  rintro e w1 ⟨rfl, h1, hb1, hk1⟩
  obtain ⟨hB, v, hbk, hown, hne⟩ := h1
  have c0 : w1.cell? ⟨b, 0, none⟩ = some (.pointer (some ⟨b, 0, none⟩)) := by rw [Lib.cell_of_heap hbk]; rfl
  have c1 : w1.cell? ⟨b, 1, none⟩ = some v := by rw [Lib.cell_of_heap hbk]; rfl
  go_wp2_with (at_builtin; refine wpList_append_own _ rfl _ _ 61 rfl B 5 i0 (.int .u8 0) 1 1 undBS hi hz0 hz1 hz2 rfl (by decide) _ _ _ rfl (hown.alloc _) ⟨w1.heap.size, 0, none⟩ 1 1 [.int .u8 c] rfl rfl ?c1 ?c2 ?c3 ?c4 ?c5 ?_)
  case c1 =>
    intro j u hj
    match j, hj with
    | 0, hj => simp at hj; subst hj; simp [Addr.add]
  case c2 => intro u hu; simp at hu; subst hu; rfl
  case c3 => unfold maxLen; omega
  case c4 => omega
  case c5 => have := hb1.size; simp; omega
  intro v' w2 hown' hgrow _
  have hlt : b < w1.heap.size := by
    rcases Nat.lt_or_ge b w1.heap.size with h' | h'
    · exact h'
    · simp [Array.getElem?_eq_none h'] at hbk
  have hb2 : w2.heap[b]? = some (.cells #[.pointer (some ⟨b, 0, none⟩), v] 63 (0, 0)) := by
    rw [hgrow.block b (by simp; omega) (fun e => hne e.symm), Lib.alloc_old w1 _ b hlt]
    exact hbk
  have d0 : w2.cell? ⟨b, 0, none⟩ = some (.pointer (some ⟨b, 0, none⟩)) := by rw [Lib.cell_of_heap hb2]; rfl
  have d1 : w2.cell? ⟨b, 1, none⟩ = some v := by rw [Lib.cell_of_heap hb2]; rfl
  have f1 : w2.frozen? ⟨b, 1, none⟩ = false := Lib.frozen_of_heap hb2 1
  obtain ⟨g, cap, rfl⟩ : ∃ g cap, v' = .slice (some ⟨g, 0, none⟩) (bs.length + 1) cap := by
    rcases hown'.2 with ⟨_, h0⟩ | ⟨g, cap, cur, hv, _⟩
    · omega
    · exact ⟨g, cap, hv⟩
  go_wp2_with fail
  go_ret
  refine ⟨rfl, ?_, ?_, ((hk1.alloc _).grown hgrow (row_kind (hown.alloc _))).setCell ⟨b, 1, none⟩ rfl _⟩
  · exact Lib.BuilderAt.put (T := 63) (e := 5) hB hb2 (bs' := bs ++ [.int .u8 c]) (by simpa using hown') (by decide)
  · exact ((hb1.alloc (by have := hb1.size; omega) _).grown hgrow (by have := hb1.size; simp; omega) (fun k hk => (hown.lt k hk).1)).setCell (p := ⟨b, 1, none⟩) hB _

set_option maxHeartbeats 2000000 in
set_option maxRecDepth 100000 in
theorem writeString_k (B b : Nat) (bs : List Value) (s : ByteArray) (w : World) (h : Lib.IsBuilder 63 5 B b bs w) (hlen : bs.length + s.size ≤ 140737488355328) (hBw : B ≤ w.heap.size) :
    Calls Tryz.prog 23 #[.pointer (some ⟨b, 0, none⟩), .string s] w fun e w' => e = .returned (.tuple #[.int .i64 s.size, .nilIface]) ∧ (Lib.BuilderAt 63 5 B b (.pointer (some ⟨b, 0, none⟩)) (bs ++ Lib.strCells s) w' ∧ Below B w w' ∧ Lib.OthersKept 5 (some b) w w') := by
  obtain ⟨i0, hi, hz0, hz1, hz2⟩ := info_parts infoU
  have HK := Lib.hid (check_k B b bs w h)
  clear h
  go_enter Tryz.func23, Tryz.ntmps23
  go_wp2_with fail
  refine HK.out.mono ?_
  rintro e w1 ⟨rfl, h1, hb1, hk1⟩
  obtain ⟨hB, v, hbk, hown, hne⟩ := h1
  have c0 : w1.cell? ⟨b, 0, none⟩ = some (.pointer (some ⟨b, 0, none⟩)) := by rw [Lib.cell_of_heap hbk]; rfl
  have c1 : w1.cell? ⟨b, 1, none⟩ = some v := by rw [Lib.cell_of_heap hbk]; rfl
  go_wp2_with (at_builtin; refine Lib.wpList_append_own_string _ rfl _ _ 61 9 rfl B 5 i0 undBS undStr hi hz0 hz1 hz2 _ _ _ rfl hown s rfl ?c3 ?c4 ?c5 ?_)
  case c3 => unfold maxLen; omega
  case c4 => omega
  case c5 => have := hb1.size; omega
  intro v' w2 hown' hgrow _
  have hlt : b < w1.heap.size := by
    rcases Nat.lt_or_ge b w1.heap.size with h' | h'
    · exact h'
    · simp [Array.getElem?_eq_none h'] at hbk
  have hb2 : w2.heap[b]? = some (.cells #[.pointer (some ⟨b, 0, none⟩), v] 63 (0, 0)) := by
    rw [hgrow.block b hlt (fun e => hne e.symm)]
    exact hbk
  have d0 : w2.cell? ⟨b, 0, none⟩ = some (.pointer (some ⟨b, 0, none⟩)) := by rw [Lib.cell_of_heap hb2]; rfl
  have d1 : w2.cell? ⟨b, 1, none⟩ = some v := by rw [Lib.cell_of_heap hb2]; rfl
  have f1 : w2.frozen? ⟨b, 1, none⟩ = false := Lib.frozen_of_heap hb2 1
  obtain ⟨ao, n', cap, rfl⟩ : ∃ ao n' cap, v' = .slice ao n' cap := by
    rcases hown'.2 with ⟨hv, _⟩ | ⟨g, cap, cur, hv, _⟩
    · exact ⟨_, _, _, hv⟩
    · exact ⟨_, _, _, hv⟩
  go_wp2_with fail
  go_ret2
  refine ⟨rfl, ?_, ?_, (hk1.grown hgrow (row_kind hown)).setCell ⟨b, 1, none⟩ rfl _⟩
  · exact Lib.BuilderAt.put (T := 63) (e := 5) hB hb2 (bs' := bs ++ Lib.strCells s) (by simpa [Lib.strCells_length] using hown') (by decide)
  · exact (hb1.grown hgrow (by have := hb1.size; omega) (fun k hk => (hown.lt k hk).1)).setCell (p := ⟨b, 1, none⟩) hB _

/-- a block that is neither the builder nor a row of bytes stands as it stood -/
theorem others_dec {w w' : World} {b d : Nat} {v0 v1 v2 : Value} (hk : Lib.OthersKept 5 (some b) w w') (hne : d ≠ b) (T : TypeId) (hT : T ≠ 5) (h : w.heap[d]? = some (.cells #[v0, v1, v2] T (0, 0))) : w'.heap[d]? = some (.cells #[v0, v1, v2] T (0, 0)) :=
  hk d _ h (by simpa using hne) (fun c fz e => by injection e with _ e2 _; exact hT e2)
theorem wbyte_k (B b : Nat) (l : List UInt8) (c : UInt8) (w : World) (h : Bld w B b l) (hl : l.length ≤ 100000) (hB : B ≤ w.heap.size) (x : Int) (hx : x = (c.toNat : Int)) :
    Calls Tryz.prog 22 #[.pointer (some ⟨b, 0, none⟩), .int .u8 x] w fun e w' => e = .returned .nilIface ∧ Bld w' B b (l ++ [c]) ∧ Below B w w' ∧ Lib.OthersKept 5 (some b) w w' := by
  subst hx
  refine (writeByte_k B b _ _ w h (by rw [Lib.byteCells_length]; omega) hB).mono ?_
  rintro e w' ⟨rfl, h1, h2, h3⟩
  refine ⟨rfl, .inr ?_, h2, h3⟩
  rw [← cells_app]
  exact h1
theorem wstring_k (B b : Nat) (l : List UInt8) (s : ByteArray) (w : World) (h : Bld w B b l) (hl : l.length ≤ 100000) (hs : s.size ≤ 1000000) (hB : B ≤ w.heap.size) :
    Calls Tryz.prog 23 #[.pointer (some ⟨b, 0, none⟩), .string s] w fun e w' => e = .returned (.tuple #[.int .i64 s.size, .nilIface]) ∧ Bld w' B b (l ++ s.data.toList) ∧ Below B w w' ∧ Lib.OthersKept 5 (some b) w w' := by
  refine (writeString_k B b _ s w h (by rw [Lib.byteCells_length]; omega) hB).mono ?_
  rintro e w' ⟨rfl, h1, h2, h3⟩
  refine ⟨rfl, .inr ?_, h2, h3⟩
  rw [← cells_app]
  exact h1
end Go.Proofs.YtbidlkmagbjllaaGreatDoor.Nb

namespace Go.Proofs.YtbidlkmagbjllaaGreatDoor.Nb
open Go Go.RowKit

/-- a time's text without its sign -/
def bodyL (T : Nat) : List UInt8 := Lib.decDigits (T / 1000000) ++ (46 :: Nt.six (T % 1000000))
theorem nDig_le : ∀ (k n : Nat), n < 10 ^ k → 0 < k → Lib.nDigits n ≤ k := by
  intro k
  induction k with
  | zero => intro n _ h; omega
  | succ k ih =>
    intro n hn _
    by_cases c : n < 10
    · rw [Lib.nDigits_small c]; omega
    · rw [Lib.nDigits_big c]
      rcases Nat.eq_zero_or_pos k with q | q
      · subst q; simp at hn; omega
      · have := ih (n / 10) (by rw [Nat.pow_succ] at hn; omega) q
        omega
theorem dec_len (n : Nat) (h : n < 10 ^ 19) : (Lib.decDigits n).length ≤ 19 := by
  rw [Lib.decDigits_eq]
  simpa using nDig_le 19 n h (by omega)
theorem itoa_nat (n : Nat) : Lib.itoa (n : Int) = Lib.decDigits n := by
  unfold Lib.itoa
  rw [if_neg (by omega)]
  simp
theorem six_len (r : Nat) : (Nt.six r).length = 6 := by simp [Nt.six]
theorem cut_one (l : List UInt8) (S : ByteArray) (h : S = ⟨(49 :: l).toArray⟩) : S.extract 1 S.size = ⟨l.toArray⟩ := by
  subst h
  apply ByteArray.ext
  simp only [ByteArray.data_extract]
  have hs : (⟨(49 :: l).toArray⟩ : ByteArray).size = l.length + 1 := by show (49 :: l).toArray.size = _; simp
  rw [hs]
  simp
/-- the parts of a time, by letters -/
structure TimeP (T q r s : Nat) (QS S D : ByteArray) : Prop where
  hq : T / 1000000 = q
  hr : T % 1000000 = r
  hs : 1000000 + r = s
  hQS : (⟨(Lib.itoa (q : Int)).toArray⟩ : ByteArray) = QS
  hS : (⟨(Lib.itoa (s : Int)).toArray⟩ : ByteArray) = S
  hD : S.extract 1 S.size = D
  hl : (1 : Int) ≤ (S.size : Int)
  lq : QS.size ≤ 1000000
  ld : D.size ≤ 1000000
  lQ : QS.data.toList.length ≤ 19
  he : QS.data.toList ++ (46 :: D.data.toList) = bodyL T
theorem time_parts (T : Nat) (hT : T ≤ 1125899906842624) : ∃ q r s QS S D, TimeP T q r s QS S D := by
  have hr : T % 1000000 < 1000000 := Nat.mod_lt _ (by omega)
  have hS : (⟨(Lib.itoa ((1000000 + T % 1000000 : Nat) : Int)).toArray⟩ : ByteArray) = ⟨(49 :: Nt.six (T % 1000000)).toArray⟩ := by rw [itoa_nat, Nt.six_million hr]
  have hD := cut_one _ _ hS
  have hq : (Lib.decDigits (T / 1000000)).length ≤ 19 := dec_len _ (by omega)
  refine ⟨_, _, _, _, _, _, rfl, rfl, rfl, rfl, rfl, rfl, ?_, ?_, ?_, ?_, ?_⟩
  · rw [hS]; show (1 : Int) ≤ (((49 :: Nt.six (T % 1000000)).toArray.size : Nat) : Int); simp; omega
  · show (Lib.itoa _).toArray.size ≤ _; rw [itoa_nat]; simp; omega
  · rw [hD]; show (Nt.six _).toArray.size ≤ _; simp [six_len]
  · show (Lib.itoa _).toArray.toList.length ≤ _; rw [itoa_nat]; simpa using hq
  · rw [hD]; show (Lib.itoa _).toArray.toList ++ (46 :: (Nt.six _).toArray.toList) = _; rw [itoa_nat]; rfl

set_option maxRecDepth 8000 in
set_option maxHeartbeats 1000000 in
theorem time_pos (T : Nat) (w : World) (hT : T ≤ 1125899906842624) (hP : TabP w) :
    Calls Tryz.prog 8 #[.int .i64 (T : Int)] w fun e w' => e = .returned (.tuple #[.string ⟨(bodyL T).toArray⟩, .int .i64 0]) ∧ Below w.heap.size w w' := by
  have hA := (Below.refl w.heap.size w).alloc (Nat.le_refl _) (.cells #[.pointer none, .slice none 0 0] 63)
  have HB := Lib.hid (And.intro (Bld.new w) hA)
  have HP := Lib.hid hP
  have HP0 := Lib.hid (hP.below hA hP.2)
  obtain ⟨q, r, s, QS, S, D, hq⟩ := time_parts T hT
  have HQ := Lib.hid hq
  have h0 : ¬ (T : Int) < -1125899906842624 := by omega
  have h1 : ¬ (1125899906842624 : Int) < (T : Int) := by omega
  have h2 : ¬ (T : Int) < 0 := by omega
  have e1 : (T : Int) / 1000000 = (q : Int) := by have := hq.hq; omega
  have e2 : (T : Int) % 1000000 = (r : Int) := by have := hq.hr; omega
  have e3 : (1000000 : Int) + (r : Int) = (s : Int) := by have := hq.hr; have := hq.hs; omega
  have hqb : q ≤ 1125899906842624 := by have := hq.hq; omega
  have hsb : s ≤ 2000000 := by have := hq.hr; have := hq.hs; omega
  clear hA hP hq hT
  go_enter Tryz.func8, Tryz.ntmps8
  go_wp2_with fail
  refine (formatInt_any (q : Int) _ (by omega) (by omega) HP0.out).mono ?_
  rw [HQ.out.hQS]
  rintro e w2 ⟨rfl, b2⟩
  have H2 := Lib.hid (And.intro (HB.out.1.below b2) (HB.out.2.trans (b2.mono HB.out.2.size)))
  clear b2
  go_wp2_with fail
  refine (wstring w.heap.size w.heap.size [] QS w2 H2.out.1 (by decide) HQ.out.lq H2.out.2.size).mono ?_
  rintro e w3 ⟨rfl, d3, b3⟩
  have H3 := Lib.hid (And.intro d3 (H2.out.2.trans b3))
  clear d3 b3
  go_wp2_with fail
  refine (wbyte w.heap.size w.heap.size _ 46 w3 H3.out.1 (by have := HQ.out.lQ; simp at this ⊢; omega) H3.out.2.size 46 rfl).mono ?_
  rintro e w4 ⟨rfl, d4, b4⟩
  have H4 := Lib.hid (And.intro d4 (H3.out.2.trans b4))
  clear d4 b4
  go_wp2_with fail
  refine (formatInt_any (s : Int) w4 (by omega) (by omega) (HP.out.below H4.out.2 HP.out.2)).mono ?_
  rw [HQ.out.hS]
  rintro e w5 ⟨rfl, b5⟩
  have H5 := Lib.hid (And.intro (H4.out.1.below b5) (H4.out.2.trans (b5.mono H4.out.2.size)))
  clear b5
  have hl := HQ.out.hl
  have hD := HQ.out.hD
  go_wp2_with fail
  refine (wstring w.heap.size w.heap.size _ D w5 H5.out.1 (by have := HQ.out.lQ; simp at this ⊢; omega) HQ.out.ld H5.out.2.size).mono ?_
  rintro e w6 ⟨rfl, d6, b6⟩
  have H6 := Lib.hid (And.intro d6 (H5.out.2.trans b6))
  clear d6 b6 hD
  go_wp2_with fail
  refine (bstring w.heap.size w.heap.size _ w6 H6.out.1 H6.out.2.size).mono ?_
  rintro e w7 ⟨rfl, b7⟩
  have H7 := Lib.hid (H6.out.2.trans b7)
  clear b7
  go_wp2_with fail
  go_ret2
  exact ⟨(show Ending.returned (.tuple #[.string ⟨(QS.data.toList ++ 46 :: D.data.toList).toArray⟩, .int .i64 0]) = Ending.returned (.tuple #[.string ⟨(bodyL T).toArray⟩, .int .i64 0]) by rw [HQ.out.he]), H7.out⟩

set_option maxRecDepth 8000 in
set_option maxHeartbeats 1000000 in
theorem time_neg (T : Nat) (E : Int) (w : World) (hE : E = -(T : Int)) (hT0 : 0 < T) (hT : T ≤ 1125899906842624) (hP : TabP w) :
    Calls Tryz.prog 8 #[.int .i64 E] w fun e w' => e = .returned (.tuple #[.string ⟨(45 :: bodyL T).toArray⟩, .int .i64 0]) ∧ Below w.heap.size w w' := by
  have hA := (Below.refl w.heap.size w).alloc (Nat.le_refl _) (.cells #[.pointer none, .slice none 0 0] 63)
  have HB := Lib.hid (And.intro (Bld.new w) hA)
  have HP := Lib.hid hP
  obtain ⟨q, r, s, QS, S, D, hq⟩ := time_parts T hT
  have HQ := Lib.hid hq
  have h0 : ¬ E < -1125899906842624 := by omega
  have h1 : ¬ (1125899906842624 : Int) < E := by omega
  have h2 : E < 0 := by omega
  have e0 : -E = (T : Int) := by omega
  have e1 : (T : Int) / 1000000 = (q : Int) := by have := hq.hq; omega
  have e2 : (T : Int) % 1000000 = (r : Int) := by have := hq.hr; omega
  have e3 : (1000000 : Int) + (r : Int) = (s : Int) := by have := hq.hr; have := hq.hs; omega
  have hqb : q ≤ 1125899906842624 := by have := hq.hq; omega
  have hsb : s ≤ 2000000 := by have := hq.hr; have := hq.hs; omega
  clear hA hP hq hT hE hT0
  go_enter Tryz.func8, Tryz.ntmps8
  go_wp2_with fail
  refine (wbyte w.heap.size w.heap.size [] 45 _ HB.out.1 (by simp) HB.out.2.size 45 rfl).mono ?_
  rintro e w1 ⟨rfl, d1, b1⟩
  have HB1 := Lib.hid (And.intro d1 (HB.out.2.trans b1))
  have HP0 := Lib.hid (HP.out.below HB1.out.2 HP.out.2)
  clear d1 b1 HB
  go_wp2_with fail
  refine (formatInt_any (q : Int) w1 (by omega) (by omega) HP0.out).mono ?_
  rw [HQ.out.hQS]
  rintro e w2 ⟨rfl, b2⟩
  have H2 := Lib.hid (And.intro (HB1.out.1.below b2) (HB1.out.2.trans (b2.mono HB1.out.2.size)))
  clear b2
  go_wp2_with fail
  refine (wstring w.heap.size w.heap.size [45] QS w2 H2.out.1 (by decide) HQ.out.lq H2.out.2.size).mono ?_
  rintro e w3 ⟨rfl, d3, b3⟩
  have H3 := Lib.hid (And.intro d3 (H2.out.2.trans b3))
  clear d3 b3
  go_wp2_with fail
  refine (wbyte w.heap.size w.heap.size _ 46 w3 H3.out.1 (by have := HQ.out.lQ; simp at this ⊢; omega) H3.out.2.size 46 rfl).mono ?_
  rintro e w4 ⟨rfl, d4, b4⟩
  have H4 := Lib.hid (And.intro d4 (H3.out.2.trans b4))
  clear d4 b4
  go_wp2_with fail
  refine (formatInt_any (s : Int) w4 (by omega) (by omega) (HP.out.below H4.out.2 HP.out.2)).mono ?_
  rw [HQ.out.hS]
  rintro e w5 ⟨rfl, b5⟩
  have H5 := Lib.hid (And.intro (H4.out.1.below b5) (H4.out.2.trans (b5.mono H4.out.2.size)))
  clear b5
  have hl := HQ.out.hl
  have hD := HQ.out.hD
  go_wp2_with fail
  refine (wstring w.heap.size w.heap.size _ D w5 H5.out.1 (by have := HQ.out.lQ; simp at this ⊢; omega) HQ.out.ld H5.out.2.size).mono ?_
  rintro e w6 ⟨rfl, d6, b6⟩
  have H6 := Lib.hid (And.intro d6 (H5.out.2.trans b6))
  clear d6 b6 hD
  go_wp2_with fail
  refine (bstring w.heap.size w.heap.size _ w6 H6.out.1 H6.out.2.size).mono ?_
  rintro e w7 ⟨rfl, b7⟩
  have H7 := Lib.hid (H6.out.2.trans b7)
  clear b7
  go_wp2_with fail
  go_ret2
  exact ⟨(show Ending.returned (.tuple #[.string ⟨(45 :: (QS.data.toList ++ 46 :: D.data.toList)).toArray⟩, .int .i64 0]) = Ending.returned (.tuple #[.string ⟨(45 :: (bodyL T)).toArray⟩, .int .i64 0]) by rw [HQ.out.he]), H7.out⟩

set_option maxRecDepth 8000 in
theorem time_far (t : Int) (w : World) (h : t < -1125899906842624 ∨ 1125899906842624 < t) :
    Calls Tryz.prog 8 #[.int .i64 t] w fun e w' => e = .returned (.tuple #[.string ⟨#[]⟩, .int .i64 1]) ∧ w' = w := by
  by_cases c : t < -1125899906842624
  · clear h
    go_enter Tryz.func8, Tryz.ntmps8
    go_wp2_with fail
    go_ret2
    exact ⟨rfl, rfl⟩
  · have c2 : (1125899906842624 : Int) < t := by omega
    clear h
    go_enter Tryz.func8, Tryz.ntmps8
    go_wp2_with fail
    go_ret2
    exact ⟨rfl, rfl⟩
end Go.Proofs.YtbidlkmagbjllaaGreatDoor.Nb

namespace Go.Proofs.YtbidlkmagbjllaaGreatDoor
open Go Go.RowKit

abbrev fmt : Value := .agg #[.int .u64 52, .int .i64 2047, .int .i64 1075]
theorem run_bits (f : Nat) (w : World) : Sem.run Tryz.prog (callFunc 72 #[.float .f64 f]) w = .ok (.value (.int .u64 f)) w :=
  (run_callFunc_extern (e := Extern.MathFloatBits.float64bits) Tryz.func72 (by kernel_rfl) (by kernel_rfl) (by kernel_rfl) (by kernel_rfl) _ _).trans rfl

theorem index_fmt (w : World) : Sem.run Tryz.prog (Instr.index 178 (.agg #[.int .u64 52, .int .i64 2047, .int .i64 1075, .int .u64 23, .int .i64 255, .int .i64 150]) (.int .i64 0)) w = .ok fmt w := by kernel_rfl
set_option maxRecDepth 100000 in
theorem of_dbl (w : World) : Calls Tryz.prog 73 #[.int .i64 0] w fun e w' => e = .returned fmt ∧ Below w.heap.size w w' := by
  have hix := index_fmt
  go_enter Tryz.func73, Tryz.ntmps73
  go_wp2_with fail
  exact bodyPost_ret (by simp only [results, Tryz.results73]; simp [go_sem]; try rfl) rfl ⟨rfl, (Below.refl w.heap.size w).alloc (Nat.le_refl _) _⟩

theorem hidden_dbl (w : World) : Calls Tryz.prog 125 #[fmt] w fun e w' => e = .returned (.int .u64 4503599627370496) ∧ Below w.heap.size w w' := by
  go_enter Tryz.func125, Tryz.ntmps125
  go_wp2_with fail
  go_ret
  exact ⟨rfl, (Below.refl _ _).alloc (Nat.le_refl _) _⟩
theorem sign_dbl (w : World) : Calls Tryz.prog 176 #[fmt] w fun e w' => e = .returned (.int .u64 9223372036854775808) ∧ Below w.heap.size w w' := by
  go_enter Tryz.func176, Tryz.ntmps176
  go_wp2_with fail
  go_ret
  exact ⟨rfl, (Below.refl _ _).alloc (Nat.le_refl _) _⟩
theorem infinite_dbl (w : World) : Calls Tryz.prog 183 #[fmt] w fun e w' => e = .returned (.int .u64 9218868437227405312) ∧ Below w.heap.size w w' := by
  go_enter Tryz.func183, Tryz.ntmps183
  go_wp2_with fail
  go_ret
  exact ⟨rfl, (Below.refl _ _).alloc (Nat.le_refl _) _⟩

def FmtAt (w : World) (g : Nat) : Prop := g < w.heap.size ∧ w.cell? ⟨g, 0, none⟩ = some (.int .u64 52) ∧ w.cell? ⟨g, 1, none⟩ = some (.int .i64 2047) ∧ w.cell? ⟨g, 2, none⟩ = some (.int .i64 1075)
theorem FmtAt.below {w w' : World} {g : Nat} (h : FmtAt w g) (hb : Below w.heap.size w w') : FmtAt w' g :=
  ⟨Nat.lt_of_lt_of_le h.1 hb.size, (hb.cell (p := ⟨g, 0, none⟩) h.1).trans h.2.1, (hb.cell (p := ⟨g, 1, none⟩) h.1).trans h.2.2.1, (hb.cell (p := ⟨g, 2, none⟩) h.1).trans h.2.2.2⟩
theorem fmt_at (w : World) (T : TypeId) : FmtAt (w.alloc (.cells #[.int .u64 52, .int .i64 2047, .int .i64 1075] T)) w.heap.size := by
  unfold FmtAt
  simp [go_sem]
theorem fmt_below (w : World) (T : TypeId) : Below w.heap.size w (w.alloc (.cells #[.int .u64 52, .int .i64 2047, .int .i64 1075] T)) := (Below.refl _ _).alloc (Nat.le_refl _) _
theorem back_of {w W w' : World} (h : Below w.heap.size w W) (k : Below W.heap.size W w') : Below w.heap.size w w' := h.trans (k.mono h.size)

set_option maxRecDepth 100000 in
set_option maxHeartbeats 1000000 in
theorem none_dbl (w : World) : Calls Tryz.prog 144 #[fmt] w fun e w' => e = .returned (.int .u64 9221120237041090561) ∧ Below w.heap.size w w' := by
  have HF := Lib.hid (fmt_at w 129)
  have HB := Lib.hid (fmt_below w 129)
  go_enter Tryz.func144, Tryz.ntmps144
  go_wp2_with fail
  generalize w.alloc (.cells #[.int .u64 52, .int .i64 2047, .int .i64 1075] 129) = W0 at *
  have hc : Below W0.heap.size W0 W0.drew := (Below.refl _ _).drew
  go_region_held3 (fun w' => w'.cell? ⟨w.heap.size, 0, none⟩ = some (.int .u64 52) ∧ w'.cell? ⟨w.heap.size, 1, none⟩ = some (.int .i64 2047) ∧ w'.cell? ⟨w.heap.size, 2, none⟩ = some (.int .i64 1075))
    (first | exact HF.out.2 | exact (HF.out.below hc).2)
    (first | (go_at_call 183; refine (infinite_dbl _).mono ?_; rintro e w1 ⟨rfl, hb1⟩; replace hc := back_of hc hb1; clear hb1) | (go_at_call 125; refine (hidden_dbl _).mono ?_; rintro e w1 ⟨rfl, hb1⟩; replace hc := back_of hc hb1; clear hb1))
  go_wp2_with fail
  go_ret
  exact ⟨by kernel_rfl, back_of HB.out hc⟩

def nanV (b : Int) : Bool := decide (9218868437227405312 < bits .andNot .u64 b 9223372036854775808)
set_option maxRecDepth 100000 in
set_option maxHeartbeats 1000000 in
theorem nan_dbl (b : Int) (w : World) : Calls Tryz.prog 143 #[.int .u64 b, fmt] w fun e w' => e = .returned (.bool (nanV b)) ∧ Below w.heap.size w w' := by
  have HF := Lib.hid (fmt_at w 129)
  have HB := Lib.hid (fmt_below w 129)
  go_enter Tryz.func143, Tryz.ntmps143
  go_wp2_with fail
  generalize w.alloc (.cells #[.int .u64 52, .int .i64 2047, .int .i64 1075] 129) = W0 at *
  have hc : Below W0.heap.size W0 W0.drew := (Below.refl _ _).drew
  go_region_held3 (fun w' => w'.cell? ⟨w.heap.size, 0, none⟩ = some (.int .u64 52) ∧ w'.cell? ⟨w.heap.size, 1, none⟩ = some (.int .i64 2047) ∧ w'.cell? ⟨w.heap.size, 2, none⟩ = some (.int .i64 1075))
    (first | exact HF.out.2 | exact (HF.out.below hc).2)
    (first | (go_at_call 183; refine (infinite_dbl _).mono ?_; rintro e w1 ⟨rfl, hb1⟩; replace hc := back_of hc hb1; clear hb1) | (go_at_call 176; refine (sign_dbl _).mono ?_; rintro e w1 ⟨rfl, hb1⟩; replace hc := back_of hc hb1; clear hb1))
  go_wp2_with fail
  go_ret
  exact ⟨rfl, back_of HB.out hc⟩

def canonV (b : Int) : Int := if nanV b = true then 9221120237041090561 else b
set_option maxRecDepth 100000 in
set_option maxHeartbeats 1000000 in
theorem canon_dbl (b : Int) (w : World) : Calls Tryz.prog 92 #[.int .u64 b, fmt] w fun e w' => e = .returned (.int .u64 (canonV b)) ∧ Below w.heap.size w w' := by
  have HF := Lib.hid (fmt_at w 129)
  have HB := Lib.hid (fmt_below w 129)
  obtain ⟨q, hq⟩ : ∃ q, nanV b = q := ⟨_, rfl⟩
  have HQ := Lib.hid hq
  have HN := Lib.hid (fun W => nan_dbl b W)
  rw [hq] at HN
  go_enter Tryz.func92, Tryz.ntmps92
  go_wp2_with fail
  generalize w.alloc (.cells #[.int .u64 52, .int .i64 2047, .int .i64 1075] 129) = W0 at *
  obtain ⟨hg, f0, f1, f2⟩ := HF.out
  clear hq
  cases q
  · go_wp2_with fail
    refine (HN.out W0).mono ?_
    rintro e w1 ⟨rfl, hb1⟩
    go_wp2_with fail
    go_ret
    exact ⟨by unfold canonV; rw [HQ.out]; rfl, back_of HB.out hb1⟩
  · go_wp2_with fail
    refine (HN.out W0).mono ?_
    rintro e w1 ⟨rfl, hb1⟩
    obtain ⟨-, k0, k1, k2⟩ := HF.out.below hb1
    go_wp2_with fail
    refine (none_dbl w1).mono ?_
    rintro e w2 ⟨rfl, hb2⟩
    go_wp2_with fail
    go_ret
    exact ⟨by unfold canonV; rw [HQ.out]; rfl, back_of HB.out (back_of hb1 hb2)⟩
end Go.Proofs.YtbidlkmagbjllaaGreatDoor

namespace Go.Proofs.YtbidlkmagbjllaaGreatDoor
open Go Go.RowKit

def expV (b : Int) : Int := (bits .and .u64 (canonV b / 4503599627370496) 2047)
def frcV (b : Int) : Int := bits .and .u64 (canonV b) 4503599627370495
def sgnV (b : Int) : Bool := bits .and .u64 (canonV b) 9223372036854775808 != 0
set_option maxRecDepth 100000 in
set_option maxHeartbeats 4000000 in
theorem split_dbl (b : Int) (w : World) : Calls Tryz.prog 123 #[.int .u64 b, fmt] w fun e w' => e = .returned (.tuple #[.bool (sgnV b), .int .i64 (IntKind.i64.wrap (expV b)), .int .u64 (frcV b)]) ∧ Below w.heap.size w w' := by
  have HF := Lib.hid (fmt_at w 129)
  have HB := Lib.hid (fmt_below w 129)
  obtain ⟨c, hq⟩ : ∃ c, canonV b = c := ⟨_, rfl⟩
  have HQ := Lib.hid hq
  have HN := Lib.hid (fun W => canon_dbl b W)
  rw [hq] at HN
  clear hq
  go_enter Tryz.func123, Tryz.ntmps123
  go_wp2_with fail
  generalize w.alloc (.cells #[.int .u64 52, .int .i64 2047, .int .i64 1075] 129) = W0 at *
  obtain ⟨hg, f0, f1, f2⟩ := HF.out
  go_wp2_with fail
  refine (HN.out W0).mono ?_
  rintro e w1 ⟨rfl, hb1⟩
  have HF1 := Lib.hid (HF.out.below hb1)
  have HB1 := Lib.hid (back_of HB.out hb1)
  clear hb1 f0 f1 f2 hg HN HB HF
  go_wp2_with fail
  have hc : Below w1.heap.size w1 w1.drew := (Below.refl _ _).drew
  go_region_held3 (fun w' => w'.cell? ⟨w.heap.size, 0, none⟩ = some (.int .u64 52) ∧ w'.cell? ⟨w.heap.size, 1, none⟩ = some (.int .i64 2047) ∧ w'.cell? ⟨w.heap.size, 2, none⟩ = some (.int .i64 1075))
    (first | exact HF1.out.2 | exact (HF1.out.below hc).2)
    (first | (go_at_call 125; refine (hidden_dbl _).mono ?_; rintro e w1 ⟨rfl, hb1⟩; replace hc := back_of hc hb1; clear hb1) | (go_at_call 176; refine (sign_dbl _).mono ?_; rintro e w1 ⟨rfl, hb1⟩; replace hc := back_of hc hb1; clear hb1))
  go_wp2_with fail
  go_ret3
  refine ⟨?_, back_of HB1.out hc⟩
  unfold sgnV expV frcV
  rw [HQ.out]
  rfl

def clsE (e f : Int) : Int := if e = 2047 then (if f = 0 then 2 else 1) else if e = 0 then (if f = 0 then 3 else 4) else 5
def clsV (b : Int) : Int := clsE (IntKind.i64.wrap (expV b)) (frcV b)
set_option maxRecDepth 100000 in
set_option maxHeartbeats 4000000 in
theorem class_dbl (b : Int) (w : World) : Calls Tryz.prog 124 #[.int .u64 b, fmt] w fun e w' => e = .returned (.int .i64 (clsV b)) ∧ Below w.heap.size w w' := by
  have HF := Lib.hid (fmt_at w 129)
  have HB := Lib.hid (fmt_below w 129)
  unfold clsV
  have HN := Lib.hid (fun W => split_dbl b W)
  generalize sgnV b = g at HN
  generalize IntKind.i64.wrap (expV b) = E at *
  generalize frcV b = F at *
  by_cases c1 : E = 2047
  · subst c1
    by_cases c2 : F = 0
    · subst c2
      go_enter Tryz.func124, Tryz.ntmps124
      go_wp2_with fail
      generalize w.alloc (.cells #[.int .u64 52, .int .i64 2047, .int .i64 1075] 129) = W0 at *
      obtain ⟨hg, f0, f1, f2⟩ := HF.out
      go_wp2_with fail
      refine (HN.out W0).mono ?_
      rintro e w1 ⟨rfl, hb1⟩
      obtain ⟨hg, f0, f1, f2⟩ := HF.out.below hb1
      go_wp2_with fail
      go_ret
      exact ⟨rfl, back_of HB.out hb1⟩
    · have c2' : (F == 0) = false := by simpa using c2
      have c2'' : (F != 0) = true := by simpa using c2
      go_enter Tryz.func124, Tryz.ntmps124
      go_wp2_with fail
      generalize w.alloc (.cells #[.int .u64 52, .int .i64 2047, .int .i64 1075] 129) = W0 at *
      obtain ⟨hg, f0, f1, f2⟩ := HF.out
      go_wp2_with fail
      refine (HN.out W0).mono ?_
      rintro e w1 ⟨rfl, hb1⟩
      obtain ⟨hg, f0, f1, f2⟩ := HF.out.below hb1
      go_wp2_with fail
      go_ret
      exact ⟨by unfold clsE; rw [if_pos rfl, if_neg c2]; rfl, back_of HB.out hb1⟩
  · have c1' : (E == 2047) = false := by simpa using c1
    have c1'' : ¬ (E == 2047) = true := by simpa using c1
    by_cases c3 : E = 0
    · subst c3
      by_cases c2 : F = 0
      · subst c2
        go_enter Tryz.func124, Tryz.ntmps124
        go_wp2_with fail
        generalize w.alloc (.cells #[.int .u64 52, .int .i64 2047, .int .i64 1075] 129) = W0 at *
        obtain ⟨hg, f0, f1, f2⟩ := HF.out
        go_wp2_with fail
        refine (HN.out W0).mono ?_
        rintro e w1 ⟨rfl, hb1⟩
        obtain ⟨hg, f0, f1, f2⟩ := HF.out.below hb1
        go_wp2_with fail
        go_ret
        exact ⟨rfl, back_of HB.out hb1⟩
      · have c2' : (F == 0) = false := by simpa using c2
        go_enter Tryz.func124, Tryz.ntmps124
        go_wp2_with fail
        generalize w.alloc (.cells #[.int .u64 52, .int .i64 2047, .int .i64 1075] 129) = W0 at *
        obtain ⟨hg, f0, f1, f2⟩ := HF.out
        go_wp2_with fail
        refine (HN.out W0).mono ?_
        rintro e w1 ⟨rfl, hb1⟩
        obtain ⟨hg, f0, f1, f2⟩ := HF.out.below hb1
        go_wp2_with fail
        go_ret
        exact ⟨by unfold clsE; rw [if_neg c1, if_pos rfl, if_neg c2]; rfl, back_of HB.out hb1⟩
    · have c3' : (E == 0) = false := by simpa using c3
      go_enter Tryz.func124, Tryz.ntmps124
      go_wp2_with fail
      generalize w.alloc (.cells #[.int .u64 52, .int .i64 2047, .int .i64 1075] 129) = W0 at *
      obtain ⟨hg, f0, f1, f2⟩ := HF.out
      go_wp2_with fail
      refine (HN.out W0).mono ?_
      rintro e w1 ⟨rfl, hb1⟩
      obtain ⟨hg, f0, f1, f2⟩ := HF.out.below hb1
      go_wp2_with fail
      go_ret
      exact ⟨by unfold clsE; rw [if_neg c1, if_neg c3]; rfl, back_of HB.out hb1⟩

/-- numbers that lie in a row, as their bits -/
def FlAt (w : World) (A : Option Addr) (n : Nat) (bs : List Nat) : Prop := bs.length = n ∧ ((A = none ∧ n = 0) ∨ ∃ b off, A = some ⟨b, off, none⟩ ∧ b < w.heap.size ∧ ∀ i, i < n → w.cell? ⟨b, off + i, none⟩ = some (.float .f64 (bs.getD i 0)))
theorem FlAt.below {w w' : World} {A : Option Addr} {n : Nat} {bs : List Nat} (h : FlAt w A n bs) (hb : Below w.heap.size w w') : FlAt w' A n bs := by
  refine ⟨h.1, ?_⟩
  rcases h.2 with h2 | ⟨b, off, h1, h2, h3⟩
  · exact .inl h2
  · exact .inr ⟨b, off, h1, Nat.lt_of_lt_of_le h2 hb.size, fun i hi => (hb.cell (p := ⟨b, off + i, none⟩) h2).trans (h3 i hi)⟩
theorem FlAt.at {w : World} {A : Option Addr} {n : Nat} {bs : List Nat} (h : FlAt w A n bs) {i : Nat} (hi : i < n) : ∃ b off, A = some ⟨b, off, none⟩ ∧ b < w.heap.size ∧ w.cell? ⟨b, off + i, none⟩ = some (.float .f64 (bs.getD i 0)) := by
  rcases h.2 with h2 | ⟨b, off, h1, h2, h3⟩
  · omega
  · exact ⟨b, off, h1, h2, h3 i hi⟩
end Go.Proofs.YtbidlkmagbjllaaGreatDoor

namespace Go.Proofs.YtbidlkmagbjllaaGreatDoor
open Go Go.RowKit

/-- the bits of a NaN -/
def nanN (f : Nat) : Bool := decide (9218868437227405312 < f % 9223372036854775808)
/-- the bits, of any NaN those of the one -/
def cnN (f : Nat) : Nat := if nanN f = true then 9221120237041090561 else f
theorem cmp_self (d : Ieee.Datum) : (d.order d == some Ordering.eq) = !d.isNaN := by
  cases d with
  | number s m i => simp [Ieee.Datum.order, Ieee.Datum.isNaN]
  | infinity s => simp [Ieee.Datum.order, Ieee.Datum.isNaN]
  | nan s f => simp [Ieee.Datum.order, Ieee.Datum.isNaN]
theorem read_nan (f : Nat) : (Ieee.double.read f).isNaN = nanN f := by
  have e1 : Ieee.double.signWeight = 9223372036854775808 := by decide
  have e2 : Ieee.double.binade = 4503599627370496 := by decide
  have e3 : Ieee.double.infRung = 9218868437227405312 := by decide
  unfold Ieee.Format.read nanN
  simp only [e1, e2, e3]
  split
  · rename_i h
    simp [Ieee.Datum.isNaN]; omega
  · split
    · rename_i h
      simp [Ieee.Datum.isNaN]; omega
    · split
      · rename_i h
        simp [Ieee.Datum.isNaN]; omega
      · simp [Ieee.Datum.isNaN]; omega
theorem order_self (f : Nat) : (Ieee.double.order f f == some Ordering.eq) = !nanN f := by
  rw [Ieee.Format.order, cmp_self, read_nan]

theorem neq_self (f : Nat) : (FloatKind.f64.format.order f f != some Ordering.eq) = nanN f := by
  have h := order_self f
  show (!(Ieee.double.order f f == some Ordering.eq)) = nanN f
  rw [h, Bool.not_not]
theorem andnot_top {f : Nat} (h : f < 18446744073709551616) : bits .andNot .u64 (f : Int) 9223372036854775808 = ((f % 9223372036854775808 : Nat) : Int) := by
  rw [u64_andNot _ _ (by omega) (by omega) (by omega) (by omega)]
  have e : f % 9223372036854775808 = f &&& (18446744073709551615 - (9223372036854775808 : Int).toNat) := (Nat.and_two_pow_sub_one_eq_mod f 63).symm
  rw [e, Int.toNat_natCast]
theorem nan_eq {f : Nat} (h : f < 18446744073709551616) : nanV (f : Int) = nanN f := by
  unfold nanV nanN
  rw [andnot_top h]
  apply decide_eq_decide.2
  omega
theorem cnN_lt {f : Nat} (h : f < 18446744073709551616) : cnN f < 18446744073709551616 := by unfold cnN; split <;> omega
theorem canon_eq {f : Nat} (h : f < 18446744073709551616) : canonV (f : Int) = (cnN f : Int) := by
  unfold canonV cnN
  rw [nan_eq h]
  split <;> rfl
theorem cnN_nan (f : Nat) : nanN (cnN f) = nanN f := by
  unfold cnN
  split
  · rename_i h
    rw [h]
    decide
  · rfl
theorem and_top {f : Nat} (h : f < 18446744073709551616) : (bits .and .u64 (f : Int) 9223372036854775808 != 0) = decide (9223372036854775808 ≤ f) := by
  rw [u64_and _ _ (by omega) (by omega) (by omega) (by omega), Int.toNat_natCast]
  have e : f &&& (9223372036854775808 : Int).toNat = f / 9223372036854775808 % 2 * 9223372036854775808 := by
    apply Nat.eq_of_testBit_eq
    intro i
    have e2 : (9223372036854775808 : Int).toNat = 2 ^ 63 := by decide
    rw [e2, Nat.testBit_and, Nat.testBit_two_pow, show (9223372036854775808 : Nat) = 2 ^ 63 by decide, Nat.testBit_mul_two_pow]
    by_cases hi : i = 63
    · subst hi
      simp [Nat.testBit_eq_decide_div_mod_eq]
    · have h63 : ¬ 63 = i := fun e => hi e.symm
      simp only [h63, decide_false, Bool.and_false]
      by_cases hl : 63 ≤ i
      · have : (f / 2 ^ 63 % 2).testBit (i - 63) = false := by
          apply Nat.testBit_lt_two_pow
          have := Nat.one_lt_two_pow (n := i - 63) (by omega)
          omega
        simp [this]
      · simp [hl]
  rw [e]
  have h1 : f / 9223372036854775808 % 2 = 0 ∨ f / 9223372036854775808 % 2 = 1 := by omega
  rcases h1 with h1 | h1
  · rw [h1]
    have : ¬ 9223372036854775808 ≤ f := by omega
    simp [this]
  · rw [h1]
    have : 9223372036854775808 ≤ f := by omega
    simp [this]
theorem and_mask {a : Nat} (k : Nat) (h : a < 18446744073709551616) (hk : k ≤ 63) : bits .and .u64 (a : Int) ((2 ^ k - 1 : Nat) : Int) = ((a % 2 ^ k : Nat) : Int) := by
  have hb : 2 ^ k - 1 < 18446744073709551616 := by
    have := Nat.pow_le_pow_right (n := 2) (by omega) hk
    have e : (2 : Nat) ^ 63 = 9223372036854775808 := by decide
    omega
  rw [u64_and _ _ (by omega) (by omega) (by omega) (by omega), Int.toNat_natCast, Int.toNat_natCast, Nat.and_two_pow_sub_one_eq_mod]
theorem exp_eq {f : Nat} (h : f < 18446744073709551616) : expV (f : Int) = ((cnN f / 4503599627370496 % 2048 : Nat) : Int) := by
  have hc := cnN_lt h
  unfold expV
  rw [canon_eq h]
  have e : (cnN f : Int) / 4503599627370496 = ((cnN f / 4503599627370496 : Nat) : Int) := by omega
  rw [e]
  exact and_mask 11 (by omega) (by omega)
theorem frc_eq {f : Nat} (h : f < 18446744073709551616) : frcV (f : Int) = ((cnN f % 4503599627370496 : Nat) : Int) := by
  have hc := cnN_lt h
  unfold frcV
  rw [canon_eq h]
  exact and_mask 52 hc (by omega)
theorem sgn_eq {f : Nat} (h : f < 18446744073709551616) : sgnV (f : Int) = decide (9223372036854775808 ≤ cnN f) := by
  unfold sgnV
  rw [canon_eq h]
  exact and_top (cnN_lt h)
end Go.Proofs.YtbidlkmagbjllaaGreatDoor
