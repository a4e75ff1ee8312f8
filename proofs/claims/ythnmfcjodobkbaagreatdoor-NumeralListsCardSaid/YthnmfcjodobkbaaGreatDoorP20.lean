/- E9 E11 E13 X4 X5 X6 X13 in one text. -/
import Derived.Test.YthnmfcjodobkbaaGreatDoorP14
import Derived.Test.YthnmfcjodobkbaaGreatDoorP18
import Derived.Deep.RegionHeld3
import Derived.WalkSmall
import Derived.Lib.OthersKept
import Derived.Laws.Externs
import Derived.Laws.BitsAllLaws
import Ieee.Arith
import GoSem.Core.Float
import Derived.WalkLawsBesides

namespace Go.Proofs.YthnmfcjodobkbaaGreatDoor.Nb
open Go Go.RowKit

/-- the format of doubles lies in block b -/
def Fmt (w : World) (b : Nat) : Prop := w.cell? ⟨b, 0, none⟩ = some (.int .u64 52) ∧ w.cell? ⟨b, 1, none⟩ = some (.int .i64 2047) ∧ w.cell? ⟨b, 2, none⟩ = some (.int .i64 1075) ∧ b < w.heap.size
theorem Fmt.below {w w' : World} {b : Nat} (h : Fmt w b) (k : Below w.heap.size w w') : Fmt w' b :=
  ⟨(k.cell (p := ⟨b, 0, none⟩) h.2.2.2).trans h.1, (k.cell (p := ⟨b, 1, none⟩) h.2.2.2).trans h.2.1, (k.cell (p := ⟨b, 2, none⟩) h.2.2.2).trans h.2.2.1, Nat.lt_of_lt_of_le h.2.2.2 k.size⟩
theorem Fmt.new (w : World) (t : TypeId) : Fmt (w.alloc (.cells #[.int .u64 52, .int .i64 2047, .int .i64 1075] t)) w.heap.size := ⟨by simp [go_sem], by simp [go_sem], by simp [go_sem], by simp⟩

set_option maxRecDepth 8000 in
theorem hidden_f (w : World) : Calls Tryz.prog 121 #[(.agg #[.int .u64 52, .int .i64 2047, .int .i64 1075])] w fun e w' => e = .returned (.int .u64 4503599627370496) ∧ Below w.heap.size w w' := by
  go_enter Tryz.func121, Tryz.ntmps121
  go_wp2_with fail
  go_ret
  exact ⟨rfl, (Below.refl _ _).alloc (Nat.le_refl _) _⟩

set_option maxRecDepth 8000 in
theorem sign_f (w : World) : Calls Tryz.prog 161 #[(.agg #[.int .u64 52, .int .i64 2047, .int .i64 1075])] w fun e w' => e = .returned (.int .u64 9223372036854775808) ∧ Below w.heap.size w w' := by
  go_enter Tryz.func161, Tryz.ntmps161
  go_wp2_with fail
  go_ret
  exact ⟨rfl, (Below.refl _ _).alloc (Nat.le_refl _) _⟩

set_option maxRecDepth 8000 in
theorem infinite_f (w : World) : Calls Tryz.prog 168 #[(.agg #[.int .u64 52, .int .i64 2047, .int .i64 1075])] w fun e w' => e = .returned (.int .u64 9218868437227405312) ∧ Below w.heap.size w w' := by
  go_enter Tryz.func168, Tryz.ntmps168
  go_wp2_with fail
  go_ret
  exact ⟨rfl, (Below.refl _ _).alloc (Nat.le_refl _) _⟩

set_option maxRecDepth 8000 in
set_option maxHeartbeats 1000000 in
theorem nan_ten (w : World) : Calls Tryz.prog 145 #[.int .u64 4621819117588971520, (.agg #[.int .u64 52, .int .i64 2047, .int .i64 1075])] w fun e w' => e = .returned (.bool false) ∧ Below w.heap.size w w' := by
  have hA := (Below.refl w.heap.size w).alloc (Nat.le_refl _) (.cells #[.int .u64 52, .int .i64 2047, .int .i64 1075] 124)
  have HA := Lib.hid (And.intro hA (Fmt.new w 124))
  have hb : bits .andNot .u64 4621819117588971520 9223372036854775808 = 4621819117588971520 := by decide
  obtain ⟨W, hW⟩ : ∃ W, w.alloc (.cells #[.int .u64 52, .int .i64 2047, .int .i64 1075] 124) = W := ⟨_, rfl⟩
  rw [hW] at HA
  have HS := Lib.hid (fun (V : World) (hV : Below W.heap.size W V) => HA.out.2.below hV)
  clear hA
  go_enter Tryz.func145, Tryz.ntmps145
  go_wp2_with fail
  have hcur : Below W.heap.size W W.drew := (Below.refl _ _).drew
  go_region_held3 (fun w' => w'.cell? ⟨w.heap.size, 0, none⟩ = some (.int .u64 52) ∧ w'.cell? ⟨w.heap.size, 1, none⟩ = some (.int .i64 2047) ∧ w'.cell? ⟨w.heap.size, 2, none⟩ = some (.int .i64 1075)) (first | (have q := HS.out _ (by first | exact hw2 | exact hw1 | exact hcur); exact ⟨q.1, q.2.1, q.2.2.1⟩)) (first | (go_at_call 168; refine (infinite_f _).mono ?_; rintro e w2 ⟨rfl, bw2⟩; have hw2 := back_of' hw1 bw2; clear bw2) | (go_at_call 161; refine (sign_f _).mono ?_; rintro e w1 ⟨rfl, bw1⟩; have hw1 := back_of' hcur bw1; clear bw1))
  all_goals go_wp2_with fail
  all_goals (go_ret; exact ⟨rfl, back_of' HA.out.1 hw2⟩)

set_option maxRecDepth 8000 in
theorem canon_ten (w : World) : Calls Tryz.prog 102 #[.int .u64 4621819117588971520, (.agg #[.int .u64 52, .int .i64 2047, .int .i64 1075])] w fun e w' => e = .returned (.int .u64 4621819117588971520) ∧ Below w.heap.size w w' := by
  have hA := (Below.refl w.heap.size w).alloc (Nat.le_refl _) (.cells #[.int .u64 52, .int .i64 2047, .int .i64 1075] 124)
  have HN := Lib.hid (nan_ten (w.alloc (.cells #[.int .u64 52, .int .i64 2047, .int .i64 1075] 124)))
  have HA := Lib.hid hA
  clear hA
  go_enter Tryz.func102, Tryz.ntmps102
  go_wp2_with fail
  refine HN.out.mono ?_
  rintro e w1 ⟨rfl, b1⟩
  have HB := Lib.hid (back_of' HA.out b1)
  clear b1
  go_wp2_with fail
  go_ret
  exact ⟨rfl, HB.out⟩

set_option maxRecDepth 8000 in
set_option maxHeartbeats 1000000 in
theorem split_ten (w : World) : Calls Tryz.prog 119 #[.int .u64 4621819117588971520, (.agg #[.int .u64 52, .int .i64 2047, .int .i64 1075])] w fun e w' => e = .returned (.tuple #[.bool false, .int .i64 1026, .int .u64 1125899906842624]) ∧ Below w.heap.size w w' := by
  have hA := (Below.refl w.heap.size w).alloc (Nat.le_refl _) (.cells #[.int .u64 52, .int .i64 2047, .int .i64 1075] 124)
  have HN := Lib.hid (canon_ten (w.alloc (.cells #[.int .u64 52, .int .i64 2047, .int .i64 1075] 124)))
  have HA := Lib.hid (And.intro hA (Fmt.new w 124))
  have h1 : bits .and .u64 4621819117588971520 9223372036854775808 = 0 := by decide
  have h2 : bits .and .u64 1026 2047 = 1026 := by decide
  have h3 : bits .and .u64 4621819117588971520 4503599627370495 = 1125899906842624 := by decide
  clear hA
  go_enter Tryz.func119, Tryz.ntmps119
  go_wp2_with fail
  refine HN.out.mono ?_
  rintro e W ⟨rfl, b0⟩
  have HS := Lib.hid (fun (V : World) (hV : Below W.heap.size W V) => (HA.out.2.below b0).below hV)
  have HB := Lib.hid (back_of' HA.out.1 b0)
  clear b0 HN
  go_wp2_with fail
  have hcur : Below W.heap.size W W.drew := (Below.refl _ _).drew
  go_region_held3 (fun w' => w'.cell? ⟨w.heap.size, 0, none⟩ = some (.int .u64 52) ∧ w'.cell? ⟨w.heap.size, 1, none⟩ = some (.int .i64 2047) ∧ w'.cell? ⟨w.heap.size, 2, none⟩ = some (.int .i64 1075)) (first | (have q := HS.out _ (by first | exact hw2 | exact hw1 | exact hcur); exact ⟨q.1, q.2.1, q.2.2.1⟩)) (first | (go_at_call 121; refine (hidden_f _).mono ?_; rintro e w2 ⟨rfl, bw2⟩; have hw2 := back_of' hw1 bw2; clear bw2) | (go_at_call 161; refine (sign_f _).mono ?_; rintro e w1 ⟨rfl, bw1⟩; have hw1 := back_of' hcur bw1; clear bw1))
  all_goals go_wp2_with fail
  all_goals (go_ret3; exact ⟨rfl, back_of' HB.out hw2⟩)

set_option maxRecDepth 8000 in
theorem class_ten (w : World) : Calls Tryz.prog 120 #[.int .u64 4621819117588971520, (.agg #[.int .u64 52, .int .i64 2047, .int .i64 1075])] w fun e w' => e = .returned (.int .i64 5) ∧ Below w.heap.size w w' := by
  have hA := (Below.refl w.heap.size w).alloc (Nat.le_refl _) (.cells #[.int .u64 52, .int .i64 2047, .int .i64 1075] 124)
  have HN := Lib.hid (split_ten (w.alloc (.cells #[.int .u64 52, .int .i64 2047, .int .i64 1075] 124)))
  have HA := Lib.hid (And.intro hA (Fmt.new w 124))
  clear hA
  go_enter Tryz.func120, Tryz.ntmps120
  go_wp2_with fail
  refine HN.out.mono ?_
  rintro e w1 ⟨rfl, b1⟩
  have HB := Lib.hid (back_of' HA.out.1 b1)
  obtain ⟨f0, f1, f2, -⟩ := HA.out.2.below b1
  clear b1
  go_wp2_with fail
  go_ret
  exact ⟨rfl, HB.out⟩

set_option maxRecDepth 8000 in
set_option maxHeartbeats 1000000 in
theorem nan_tenth (w : World) : Calls Tryz.prog 145 #[.int .u64 4591870180066957722, (.agg #[.int .u64 52, .int .i64 2047, .int .i64 1075])] w fun e w' => e = .returned (.bool false) ∧ Below w.heap.size w w' := by
  have hA := (Below.refl w.heap.size w).alloc (Nat.le_refl _) (.cells #[.int .u64 52, .int .i64 2047, .int .i64 1075] 124)
  have HA := Lib.hid (And.intro hA (Fmt.new w 124))
  have hb : bits .andNot .u64 4591870180066957722 9223372036854775808 = 4591870180066957722 := by decide
  obtain ⟨W, hW⟩ : ∃ W, w.alloc (.cells #[.int .u64 52, .int .i64 2047, .int .i64 1075] 124) = W := ⟨_, rfl⟩
  rw [hW] at HA
  have HS := Lib.hid (fun (V : World) (hV : Below W.heap.size W V) => HA.out.2.below hV)
  clear hA
  go_enter Tryz.func145, Tryz.ntmps145
  go_wp2_with fail
  have hcur : Below W.heap.size W W.drew := (Below.refl _ _).drew
  go_region_held3 (fun w' => w'.cell? ⟨w.heap.size, 0, none⟩ = some (.int .u64 52) ∧ w'.cell? ⟨w.heap.size, 1, none⟩ = some (.int .i64 2047) ∧ w'.cell? ⟨w.heap.size, 2, none⟩ = some (.int .i64 1075)) (first | (have q := HS.out _ (by first | exact hw2 | exact hw1 | exact hcur); exact ⟨q.1, q.2.1, q.2.2.1⟩)) (first | (go_at_call 168; refine (infinite_f _).mono ?_; rintro e w2 ⟨rfl, bw2⟩; have hw2 := back_of' hw1 bw2; clear bw2) | (go_at_call 161; refine (sign_f _).mono ?_; rintro e w1 ⟨rfl, bw1⟩; have hw1 := back_of' hcur bw1; clear bw1))
  all_goals go_wp2_with fail
  all_goals (go_ret; exact ⟨rfl, back_of' HA.out.1 hw2⟩)

set_option maxRecDepth 8000 in
theorem canon_tenth (w : World) : Calls Tryz.prog 102 #[.int .u64 4591870180066957722, (.agg #[.int .u64 52, .int .i64 2047, .int .i64 1075])] w fun e w' => e = .returned (.int .u64 4591870180066957722) ∧ Below w.heap.size w w' := by
  have hA := (Below.refl w.heap.size w).alloc (Nat.le_refl _) (.cells #[.int .u64 52, .int .i64 2047, .int .i64 1075] 124)
  have HN := Lib.hid (nan_tenth (w.alloc (.cells #[.int .u64 52, .int .i64 2047, .int .i64 1075] 124)))
  have HA := Lib.hid hA
  clear hA
  go_enter Tryz.func102, Tryz.ntmps102
  go_wp2_with fail
  refine HN.out.mono ?_
  rintro e w1 ⟨rfl, b1⟩
  have HB := Lib.hid (back_of' HA.out b1)
  clear b1
  go_wp2_with fail
  go_ret
  exact ⟨rfl, HB.out⟩

set_option maxRecDepth 8000 in
set_option maxHeartbeats 1000000 in
theorem split_tenth (w : World) : Calls Tryz.prog 119 #[.int .u64 4591870180066957722, (.agg #[.int .u64 52, .int .i64 2047, .int .i64 1075])] w fun e w' => e = .returned (.tuple #[.bool false, .int .i64 1019, .int .u64 2702159776422298]) ∧ Below w.heap.size w w' := by
  have hA := (Below.refl w.heap.size w).alloc (Nat.le_refl _) (.cells #[.int .u64 52, .int .i64 2047, .int .i64 1075] 124)
  have HN := Lib.hid (canon_tenth (w.alloc (.cells #[.int .u64 52, .int .i64 2047, .int .i64 1075] 124)))
  have HA := Lib.hid (And.intro hA (Fmt.new w 124))
  have h1 : bits .and .u64 4591870180066957722 9223372036854775808 = 0 := by decide
  have h2 : bits .and .u64 1019 2047 = 1019 := by decide
  have h3 : bits .and .u64 4591870180066957722 4503599627370495 = 2702159776422298 := by decide
  clear hA
  go_enter Tryz.func119, Tryz.ntmps119
  go_wp2_with fail
  refine HN.out.mono ?_
  rintro e W ⟨rfl, b0⟩
  have HS := Lib.hid (fun (V : World) (hV : Below W.heap.size W V) => (HA.out.2.below b0).below hV)
  have HB := Lib.hid (back_of' HA.out.1 b0)
  clear b0 HN
  go_wp2_with fail
  have hcur : Below W.heap.size W W.drew := (Below.refl _ _).drew
  go_region_held3 (fun w' => w'.cell? ⟨w.heap.size, 0, none⟩ = some (.int .u64 52) ∧ w'.cell? ⟨w.heap.size, 1, none⟩ = some (.int .i64 2047) ∧ w'.cell? ⟨w.heap.size, 2, none⟩ = some (.int .i64 1075)) (first | (have q := HS.out _ (by first | exact hw2 | exact hw1 | exact hcur); exact ⟨q.1, q.2.1, q.2.2.1⟩)) (first | (go_at_call 121; refine (hidden_f _).mono ?_; rintro e w2 ⟨rfl, bw2⟩; have hw2 := back_of' hw1 bw2; clear bw2) | (go_at_call 161; refine (sign_f _).mono ?_; rintro e w1 ⟨rfl, bw1⟩; have hw1 := back_of' hcur bw1; clear bw1))
  all_goals go_wp2_with fail
  all_goals (go_ret3; exact ⟨rfl, back_of' HB.out hw2⟩)

set_option maxRecDepth 8000 in
theorem class_tenth (w : World) : Calls Tryz.prog 120 #[.int .u64 4591870180066957722, (.agg #[.int .u64 52, .int .i64 2047, .int .i64 1075])] w fun e w' => e = .returned (.int .i64 5) ∧ Below w.heap.size w w' := by
  have hA := (Below.refl w.heap.size w).alloc (Nat.le_refl _) (.cells #[.int .u64 52, .int .i64 2047, .int .i64 1075] 124)
  have HN := Lib.hid (split_tenth (w.alloc (.cells #[.int .u64 52, .int .i64 2047, .int .i64 1075] 124)))
  have HA := Lib.hid (And.intro hA (Fmt.new w 124))
  clear hA
  go_enter Tryz.func120, Tryz.ntmps120
  go_wp2_with fail
  refine HN.out.mono ?_
  rintro e w1 ⟨rfl, b1⟩
  have HB := Lib.hid (back_of' HA.out.1 b1)
  obtain ⟨f0, f1, f2, -⟩ := HA.out.2.below b1
  clear b1
  go_wp2_with fail
  go_ret
  exact ⟨rfl, HB.out⟩
end Go.Proofs.YthnmfcjodobkbaaGreatDoor.Nb

namespace Go.Proofs.YthnmfcjodobkbaaGreatDoor.Nb
open Go Go.RowKit

/-- the builder in block b, of a base B, holds these bytes -/
def Bld (w : World) (B b : Nat) (l : List UInt8) : Prop := Lib.IsBuilder 44 5 B b (Lib.byteCells l) w
theorem bat_below {w w' : World} {B b : Nat} {p : Value} {bs : List Value} (h : Lib.BuilderAt 44 5 B b p bs w) (k : Below w.heap.size w w') : Lib.BuilderAt 44 5 B b p bs w' := by
  have hl := h.lt
  obtain ⟨hB, v, hb, hown, hne⟩ := h
  exact ⟨hB, v, (k.block b hl).trans hb, hown.kept (row := none) ⟨k.os, k.tape, k.output, k.size, fun i hi _ => k.block i hi⟩ (Classical.em _), hne⟩
theorem Bld.below {w w' : World} {B b : Nat} {l : List UInt8} (h : Bld w B b l) (k : Below w.heap.size w w') : Bld w' B b l := by
  rcases h with h | h
  · exact .inl (bat_below h k)
  · exact .inr (bat_below h k)
theorem Bld.lt {w : World} {B b : Nat} {l : List UInt8} (h : Bld w B b l) : b < w.heap.size := by
  rcases h with h | h
  · exact h.lt
  · exact h.lt
theorem Bld.new (w : World) : Bld (w.alloc (.cells #[.pointer none, .slice none 0 0] 44)) w.heap.size w.heap.size [] := Lib.fresh_isBuilder _ _ w
theorem cells_app (l m : List UInt8) : Lib.byteCells l ++ Lib.byteCells m = Lib.byteCells (l ++ m) := by simp [Lib.byteCells]
/-- WriteByte, WriteString, String by the bytes -/
theorem wbyte (B b : Nat) (l : List UInt8) (c : UInt8) (w : World) (h : Bld w B b l) (hl : l.length ≤ 100000) (hB : B ≤ w.heap.size) (x : Int) (hx : x = (c.toNat : Int)) :
    Calls Tryz.prog 14 #[.pointer (some ⟨b, 0, none⟩), .int .u8 x] w fun e w' => e = .returned .nilIface ∧ Bld w' B b (l ++ [c]) ∧ Below B w w' := by
  subst hx
  refine (writeByte_any B b _ _ w h (by rw [Lib.byteCells_length]; omega) hB).mono ?_
  rintro e w' ⟨rfl, h1, h2⟩
  refine ⟨rfl, .inr ?_, h2⟩
  rw [← cells_app]
  exact h1
theorem wstring (B b : Nat) (l : List UInt8) (s : ByteArray) (w : World) (h : Bld w B b l) (hl : l.length ≤ 100000) (hs : s.size ≤ 1000000) (hB : B ≤ w.heap.size) :
    Calls Tryz.prog 15 #[.pointer (some ⟨b, 0, none⟩), .string s] w fun e w' => e = .returned (.tuple #[.int .i64 s.size, .nilIface]) ∧ Bld w' B b (l ++ s.data.toList) ∧ Below B w w' := by
  refine (writeString_any B b _ s w h (by rw [Lib.byteCells_length]; omega) hB).mono ?_
  rintro e w' ⟨rfl, h1, h2⟩
  refine ⟨rfl, .inr ?_, h2⟩
  rw [← cells_app]
  exact h1
theorem bstring (B b : Nat) (l : List UInt8) (w : World) (h : Bld w B b l) (hB : B ≤ w.heap.size) :
    Calls Tryz.prog 17 #[.pointer (some ⟨b, 0, none⟩)] w fun e w' => e = .returned (.string ⟨l.toArray⟩) ∧ Below B w w' := Tryz.Builder_String_any B b l w h hB

/-- the table of powers of 10 lies in its variable -/
def TabP (w : World) : Prop := Lib.TabIs Tryz.prog w "internal/strconv.uint64pow10" .u64 Lib.pow10Tab ∧ 1 < w.heap.size
theorem gPow : Tryz.prog.globalNamed "internal/strconv.uint64pow10" = some 1 := by kernel_rfl
theorem TabP.below {w w' : World} {B : Nat} (h : TabP w) (k : Below B w w') (hB : 1 < B) : TabP w' :=
  ⟨var?_below k gPow hB h.1, Nat.lt_of_lt_of_le h.2 k.size⟩
theorem below_grow (w : World) (k : Nat) (os : Array Obj) : Below w.heap.size w (Go.Sort.grow (w.drewN k) os) :=
  ⟨rfl, rfl, rfl, by show w.heap.size ≤ (w.heap ++ os).size; rw [Array.size_append]; omega, fun j hj => by
    show (w.heap ++ os)[j]? = w.heap[j]?
    rw [Array.getElem?_append_left hj]⟩
theorem itoa_any (n : Int) (w : World) (h0 : -9223372036854775808 ≤ n) (h1 : n ≤ 9223372036854775807) (hP : TabP w) :
    Calls Tryz.prog 18 #[.int .i64 n] w fun e w' => e = .returned (.string ⟨(Lib.itoa n).toArray⟩) ∧ Below w.heap.size w w' := by
  refine (Tryz.strconv_Itoa n h0 h1 w hP.1).mono ?_
  rintro e w' ⟨rfl, k, os, rfl⟩
  exact ⟨rfl, below_grow w k os⟩
theorem formatInt_any (n : Int) (w : World) (h0 : -9223372036854775808 ≤ n) (h1 : n ≤ 9223372036854775807) (hP : TabP w) :
    Calls Tryz.prog 16 #[.int .i64 n, .int .i64 10] w fun e w' => e = .returned (.string ⟨(Lib.itoa n).toArray⟩) ∧ Below w.heap.size w w' := by
  refine (Tryz.strconv_FormatInt_10 n h0 h1 w hP.1).mono ?_
  rintro e w' ⟨rfl, k, os, rfl⟩
  exact ⟨rfl, below_grow w k os⟩
end Go.Proofs.YthnmfcjodobkbaaGreatDoor.Nb

namespace Go.Proofs.YthnmfcjodobkbaaGreatDoor.Nb
open Go Go.RowKit Go.Proofs

theorem row_kind {w : World} {B e : Nat} {v : Value} {n : Nat} {xs : List Value} (h : w.ownsRow B e 1 v n xs) : ∀ g, v.ownBlock = some g → ∃ c fz, w.heap[g]? = some (.cells c e fz) := by
  intro g hg
  rcases h.2 with ⟨hv, _⟩ | ⟨g', cap, cur, hv, hb, hh, _⟩
  · rw [hv] at hg; simp [Value.ownBlock] at hg
  · rw [hv] at hg
    simp [Value.ownBlock] at hg
    subst hg
    exact ⟨_, _, hh⟩
theorem check_k (B b : Nat) (bs : List Value) (w : World) (h : Lib.IsBuilder 44 5 B b bs w) :
    Calls Tryz.prog 29 #[.pointer (some ⟨b, 0, none⟩)] w fun e w' => e = .returned (.tuple #[]) ∧ (Lib.BuilderAt 44 5 B b (.pointer (some ⟨b, 0, none⟩)) bs w' ∧ Below B w w' ∧ Lib.OthersKept 5 (some b) w w') := by
  rcases h with h | h
  · refine (check_fresh b w h.cell0 h.shape h.frozen0).mono ?_
    rintro e w' ⟨rfl, rfl⟩
    exact ⟨rfl, h.used _, (Below.refl B w).setCell (p := ⟨b, 0, none⟩) h.1 _, (Lib.OthersKept.refl _ _ w).setCell ⟨b, 0, none⟩ rfl _⟩
  · refine (check_used b w h.cell0).mono ?_
    rintro e w' ⟨rfl, rfl⟩
    exact ⟨rfl, h, Below.refl B _, Lib.OthersKept.refl _ _ _⟩

set_option maxHeartbeats 2000000 in
set_option maxRecDepth 100000 in
theorem writeByte_k (B b : Nat) (bs : List Value) (c : Int) (w : World) (h : Lib.IsBuilder 44 5 B b bs w) (hlen : bs.length + 1 ≤ 140737488355328) (hBw : B ≤ w.heap.size) :
    Calls Tryz.prog 14 #[.pointer (some ⟨b, 0, none⟩), .int .u8 c] w fun e w' => e = .returned .nilIface ∧ (Lib.BuilderAt 44 5 B b (.pointer (some ⟨b, 0, none⟩)) (bs ++ [.int .u8 c]) w' ∧ Below B w w' ∧ Lib.OthersKept 5 (some b) w w') := by
  obtain ⟨i0, hi, hz0, hz1, hz2⟩ := info_parts infoU
  have HK := Lib.hid (check_k B b bs w h)
  clear h
  go_enter Tryz.func14, Tryz.ntmps14
  go_wp2_with fail
  refine HK.out.mono ?_
  rintro e w1 ⟨rfl, h1, hb1, hk1⟩
  obtain ⟨hB, v, hbk, hown, hne⟩ := h1
  have c0 : w1.cell? ⟨b, 0, none⟩ = some (.pointer (some ⟨b, 0, none⟩)) := by rw [Lib.cell_of_heap hbk]; rfl
  have c1 : w1.cell? ⟨b, 1, none⟩ = some v := by rw [Lib.cell_of_heap hbk]; rfl
  go_wp2_with (at_builtin; refine wpList_append_own _ rfl _ _ 42 rfl B 5 i0 (.int .u8 0) 1 1 undBS hi hz0 hz1 hz2 rfl (by decide) _ _ _ rfl (hown.alloc _) ⟨w1.heap.size, 0, none⟩ 1 1 [.int .u8 c] rfl rfl ?c1 ?c2 ?c3 ?c4 ?c5 ?_)
  case c1 =>
    intro j u hj
    match j, hj with
    | 0, hj => simp at hj; subst hj; simp [Addr.add]
  case c2 => intro u hu; simp at hu; subst hu; rfl
  case c3 => unfold maxLen; omega
  case c4 => omega
  case c5 => have := hb1.size; simp; omega
  intro v' w2 hown' hgrow _
  have hlt : b < w1.heap.size := by
    rcases Nat.lt_or_ge b w1.heap.size with h' | h'
    · exact h'
    · simp [Array.getElem?_eq_none h'] at hbk
  have hb2 : w2.heap[b]? = some (.cells #[.pointer (some ⟨b, 0, none⟩), v] 44 (0, 0)) := by
    rw [hgrow.block b (by simp; omega) (fun e => hne e.symm), Lib.alloc_old w1 _ b hlt]
    exact hbk
  have d0 : w2.cell? ⟨b, 0, none⟩ = some (.pointer (some ⟨b, 0, none⟩)) := by rw [Lib.cell_of_heap hb2]; rfl
  have d1 : w2.cell? ⟨b, 1, none⟩ = some v := by rw [Lib.cell_of_heap hb2]; rfl
  have f1 : w2.frozen? ⟨b, 1, none⟩ = false := Lib.frozen_of_heap hb2 1
  obtain ⟨g, cap, rfl⟩ : ∃ g cap, v' = .slice (some ⟨g, 0, none⟩) (bs.length + 1) cap := by
    rcases hown'.2 with ⟨_, h0⟩ | ⟨g, cap, cur, hv, _⟩
    · omega
    · exact ⟨g, cap, hv⟩
  go_wp2_with fail
  go_ret
  refine ⟨rfl, ?_, ?_, ((hk1.alloc _).grown hgrow (row_kind (hown.alloc _))).setCell ⟨b, 1, none⟩ rfl _⟩
  · exact Lib.BuilderAt.put (T := 44) (e := 5) hB hb2 (bs' := bs ++ [.int .u8 c]) (by simpa using hown') (by decide)
  · exact ((hb1.alloc (by have := hb1.size; omega) _).grown hgrow (by have := hb1.size; simp; omega) (fun k hk => (hown.lt k hk).1)).setCell (p := ⟨b, 1, none⟩) hB _

set_option maxHeartbeats 2000000 in
set_option maxRecDepth 100000 in
theorem writeString_k (B b : Nat) (bs : List Value) (s : ByteArray) (w : World) (h : Lib.IsBuilder 44 5 B b bs w) (hlen : bs.length + s.size ≤ 140737488355328) (hBw : B ≤ w.heap.size) :
    Calls Tryz.prog 15 #[.pointer (some ⟨b, 0, none⟩), .string s] w fun e w' => e = .returned (.tuple #[.int .i64 s.size, .nilIface]) ∧ (Lib.BuilderAt 44 5 B b (.pointer (some ⟨b, 0, none⟩)) (bs ++ Lib.strCells s) w' ∧ Below B w w' ∧ Lib.OthersKept 5 (some b) w w') := by
  obtain ⟨i0, hi, hz0, hz1, hz2⟩ := info_parts infoU
  have HK := Lib.hid (check_k B b bs w h)
  clear h
  go_enter Tryz.func15, Tryz.ntmps15
  go_wp2_with fail
  refine HK.out.mono ?_
  rintro e w1 ⟨rfl, h1, hb1, hk1⟩
  obtain ⟨hB, v, hbk, hown, hne⟩ := h1
  have c0 : w1.cell? ⟨b, 0, none⟩ = some (.pointer (some ⟨b, 0, none⟩)) := by rw [Lib.cell_of_heap hbk]; rfl
  have c1 : w1.cell? ⟨b, 1, none⟩ = some v := by rw [Lib.cell_of_heap hbk]; rfl
  go_wp2_with (at_builtin; refine Lib.wpList_append_own_string _ rfl _ _ 42 9 rfl B 5 i0 undBS undStr hi hz0 hz1 hz2 _ _ _ rfl hown s rfl ?c3 ?c4 ?c5 ?_)
  case c3 => unfold maxLen; omega
  case c4 => omega
  case c5 => have := hb1.size; omega
  intro v' w2 hown' hgrow _
  have hlt : b < w1.heap.size := by
    rcases Nat.lt_or_ge b w1.heap.size with h' | h'
    · exact h'
    · simp [Array.getElem?_eq_none h'] at hbk
  have hb2 : w2.heap[b]? = some (.cells #[.pointer (some ⟨b, 0, none⟩), v] 44 (0, 0)) := by
    rw [hgrow.block b hlt (fun e => hne e.symm)]
    exact hbk
  have d0 : w2.cell? ⟨b, 0, none⟩ = some (.pointer (some ⟨b, 0, none⟩)) := by rw [Lib.cell_of_heap hb2]; rfl
  have d1 : w2.cell? ⟨b, 1, none⟩ = some v := by rw [Lib.cell_of_heap hb2]; rfl
  have f1 : w2.frozen? ⟨b, 1, none⟩ = false := Lib.frozen_of_heap hb2 1
  obtain ⟨ao, n', cap, rfl⟩ : ∃ ao n' cap, v' = .slice ao n' cap := by
    rcases hown'.2 with ⟨hv, _⟩ | ⟨g, cap, cur, hv, _⟩
    · exact ⟨_, _, _, hv⟩
    · exact ⟨_, _, _, hv⟩
  go_wp2_with fail
  go_ret2
  refine ⟨rfl, ?_, ?_, (hk1.grown hgrow (row_kind hown)).setCell ⟨b, 1, none⟩ rfl _⟩
  · exact Lib.BuilderAt.put (T := 44) (e := 5) hB hb2 (bs' := bs ++ Lib.strCells s) (by simpa [Lib.strCells_length] using hown') (by decide)
  · exact (hb1.grown hgrow (by have := hb1.size; omega) (fun k hk => (hown.lt k hk).1)).setCell (p := ⟨b, 1, none⟩) hB _

/-- a block that is neither the builder nor a row of bytes stands as it stood -/
theorem others_dec {w w' : World} {b d : Nat} {v0 v1 v2 : Value} (hk : Lib.OthersKept 5 (some b) w w') (hne : d ≠ b) (T : TypeId) (hT : T ≠ 5) (h : w.heap[d]? = some (.cells #[v0, v1, v2] T (0, 0))) : w'.heap[d]? = some (.cells #[v0, v1, v2] T (0, 0)) :=
  hk d _ h (by simpa using hne) (fun c fz e => by injection e with _ e2 _; exact hT e2)
theorem wbyte_k (B b : Nat) (l : List UInt8) (c : UInt8) (w : World) (h : Bld w B b l) (hl : l.length ≤ 100000) (hB : B ≤ w.heap.size) (x : Int) (hx : x = (c.toNat : Int)) :
    Calls Tryz.prog 14 #[.pointer (some ⟨b, 0, none⟩), .int .u8 x] w fun e w' => e = .returned .nilIface ∧ Bld w' B b (l ++ [c]) ∧ Below B w w' ∧ Lib.OthersKept 5 (some b) w w' := by
  subst hx
  refine (writeByte_k B b _ _ w h (by rw [Lib.byteCells_length]; omega) hB).mono ?_
  rintro e w' ⟨rfl, h1, h2, h3⟩
  refine ⟨rfl, .inr ?_, h2, h3⟩
  rw [← cells_app]
  exact h1
theorem wstring_k (B b : Nat) (l : List UInt8) (s : ByteArray) (w : World) (h : Bld w B b l) (hl : l.length ≤ 100000) (hs : s.size ≤ 1000000) (hB : B ≤ w.heap.size) :
    Calls Tryz.prog 15 #[.pointer (some ⟨b, 0, none⟩), .string s] w fun e w' => e = .returned (.tuple #[.int .i64 s.size, .nilIface]) ∧ Bld w' B b (l ++ s.data.toList) ∧ Below B w w' ∧ Lib.OthersKept 5 (some b) w w' := by
  refine (writeString_k B b _ s w h (by rw [Lib.byteCells_length]; omega) hB).mono ?_
  rintro e w' ⟨rfl, h1, h2, h3⟩
  refine ⟨rfl, .inr ?_, h2, h3⟩
  rw [← cells_app]
  exact h1
end Go.Proofs.YthnmfcjodobkbaaGreatDoor.Nb

namespace Go.Proofs.YthnmfcjodobkbaaGreatDoor
open Go Go.RowKit

abbrev fmt : Value := .agg #[.int .u64 52, .int .i64 2047, .int .i64 1075]
theorem run_bits (f : Nat) (w : World) : Sem.run Tryz.prog (callFunc 71 #[.float .f64 f]) w = .ok (.value (.int .u64 f)) w :=
  (run_callFunc_extern (e := Extern.MathFloatBits.float64bits) Tryz.func71 (by kernel_rfl) (by kernel_rfl) (by kernel_rfl) (by kernel_rfl) _ _).trans rfl

theorem index_fmt (w : World) : Sem.run Tryz.prog (Instr.index 176 (.agg #[.int .u64 52, .int .i64 2047, .int .i64 1075, .int .u64 23, .int .i64 255, .int .i64 150]) (.int .i64 0)) w = .ok fmt w := by kernel_rfl
set_option maxRecDepth 100000 in
theorem of_dbl (w : World) : Calls Tryz.prog 72 #[.int .i64 0] w fun e w' => e = .returned fmt ∧ Below w.heap.size w w' := by
  have hix := index_fmt
  go_enter Tryz.func72, Tryz.ntmps72
  go_wp2_with fail
  exact bodyPost_ret (by simp only [results, Tryz.results72]; simp [go_sem]; try rfl) rfl ⟨rfl, (Below.refl w.heap.size w).alloc (Nat.le_refl _) _⟩

theorem hidden_dbl (w : World) : Calls Tryz.prog 121 #[fmt] w fun e w' => e = .returned (.int .u64 4503599627370496) ∧ Below w.heap.size w w' := by
  go_enter Tryz.func121, Tryz.ntmps121
  go_wp2_with fail
  go_ret
  exact ⟨rfl, (Below.refl _ _).alloc (Nat.le_refl _) _⟩
theorem sign_dbl (w : World) : Calls Tryz.prog 161 #[fmt] w fun e w' => e = .returned (.int .u64 9223372036854775808) ∧ Below w.heap.size w w' := by
  go_enter Tryz.func161, Tryz.ntmps161
  go_wp2_with fail
  go_ret
  exact ⟨rfl, (Below.refl _ _).alloc (Nat.le_refl _) _⟩
theorem infinite_dbl (w : World) : Calls Tryz.prog 168 #[fmt] w fun e w' => e = .returned (.int .u64 9218868437227405312) ∧ Below w.heap.size w w' := by
  go_enter Tryz.func168, Tryz.ntmps168
  go_wp2_with fail
  go_ret
  exact ⟨rfl, (Below.refl _ _).alloc (Nat.le_refl _) _⟩

def FmtAt (w : World) (g : Nat) : Prop := g < w.heap.size ∧ w.cell? ⟨g, 0, none⟩ = some (.int .u64 52) ∧ w.cell? ⟨g, 1, none⟩ = some (.int .i64 2047) ∧ w.cell? ⟨g, 2, none⟩ = some (.int .i64 1075)
theorem FmtAt.below {w w' : World} {g : Nat} (h : FmtAt w g) (hb : Below w.heap.size w w') : FmtAt w' g :=
  ⟨Nat.lt_of_lt_of_le h.1 hb.size, (hb.cell (p := ⟨g, 0, none⟩) h.1).trans h.2.1, (hb.cell (p := ⟨g, 1, none⟩) h.1).trans h.2.2.1, (hb.cell (p := ⟨g, 2, none⟩) h.1).trans h.2.2.2⟩
theorem fmt_at (w : World) (T : TypeId) : FmtAt (w.alloc (.cells #[.int .u64 52, .int .i64 2047, .int .i64 1075] T)) w.heap.size := by
  unfold FmtAt
  simp [go_sem]
theorem fmt_below (w : World) (T : TypeId) : Below w.heap.size w (w.alloc (.cells #[.int .u64 52, .int .i64 2047, .int .i64 1075] T)) := (Below.refl _ _).alloc (Nat.le_refl _) _
theorem back_of {w W w' : World} (h : Below w.heap.size w W) (k : Below W.heap.size W w') : Below w.heap.size w w' := h.trans (k.mono h.size)

set_option maxRecDepth 100000 in
set_option maxHeartbeats 1000000 in
theorem none_dbl (w : World) : Calls Tryz.prog 146 #[fmt] w fun e w' => e = .returned (.int .u64 9221120237041090561) ∧ Below w.heap.size w w' := by
  have HF := Lib.hid (fmt_at w 124)
  have HB := Lib.hid (fmt_below w 124)
  go_enter Tryz.func146, Tryz.ntmps146
  go_wp2_with fail
  generalize w.alloc (.cells #[.int .u64 52, .int .i64 2047, .int .i64 1075] 124) = W0 at *
  have hc : Below W0.heap.size W0 W0.drew := (Below.refl _ _).drew
  go_region_held3 (fun w' => w'.cell? ⟨w.heap.size, 0, none⟩ = some (.int .u64 52) ∧ w'.cell? ⟨w.heap.size, 1, none⟩ = some (.int .i64 2047) ∧ w'.cell? ⟨w.heap.size, 2, none⟩ = some (.int .i64 1075))
    (first | exact HF.out.2 | exact (HF.out.below hc).2)
    (first | (go_at_call 168; refine (infinite_dbl _).mono ?_; rintro e w1 ⟨rfl, hb1⟩; replace hc := back_of hc hb1; clear hb1) | (go_at_call 121; refine (hidden_dbl _).mono ?_; rintro e w1 ⟨rfl, hb1⟩; replace hc := back_of hc hb1; clear hb1))
  go_wp2_with fail
  go_ret
  exact ⟨by kernel_rfl, back_of HB.out hc⟩

def nanV (b : Int) : Bool := decide (9218868437227405312 < bits .andNot .u64 b 9223372036854775808)
set_option maxRecDepth 100000 in
set_option maxHeartbeats 1000000 in
theorem nan_dbl (b : Int) (w : World) : Calls Tryz.prog 145 #[.int .u64 b, fmt] w fun e w' => e = .returned (.bool (nanV b)) ∧ Below w.heap.size w w' := by
  have HF := Lib.hid (fmt_at w 124)
  have HB := Lib.hid (fmt_below w 124)
  go_enter Tryz.func145, Tryz.ntmps145
  go_wp2_with fail
  generalize w.alloc (.cells #[.int .u64 52, .int .i64 2047, .int .i64 1075] 124) = W0 at *
  have hc : Below W0.heap.size W0 W0.drew := (Below.refl _ _).drew
  go_region_held3 (fun w' => w'.cell? ⟨w.heap.size, 0, none⟩ = some (.int .u64 52) ∧ w'.cell? ⟨w.heap.size, 1, none⟩ = some (.int .i64 2047) ∧ w'.cell? ⟨w.heap.size, 2, none⟩ = some (.int .i64 1075))
    (first | exact HF.out.2 | exact (HF.out.below hc).2)
    (first | (go_at_call 168; refine (infinite_dbl _).mono ?_; rintro e w1 ⟨rfl, hb1⟩; replace hc := back_of hc hb1; clear hb1) | (go_at_call 161; refine (sign_dbl _).mono ?_; rintro e w1 ⟨rfl, hb1⟩; replace hc := back_of hc hb1; clear hb1))
  go_wp2_with fail
  go_ret
  exact ⟨rfl, back_of HB.out hc⟩

def canonV (b : Int) : Int := if nanV b = true then 9221120237041090561 else b
set_option maxRecDepth 100000 in
set_option maxHeartbeats 1000000 in
theorem canon_dbl (b : Int) (w : World) : Calls Tryz.prog 102 #[.int .u64 b, fmt] w fun e w' => e = .returned (.int .u64 (canonV b)) ∧ Below w.heap.size w w' := by
  have HF := Lib.hid (fmt_at w 124)
  have HB := Lib.hid (fmt_below w 124)
  obtain ⟨q, hq⟩ : ∃ q, nanV b = q := ⟨_, rfl⟩
  have HQ := Lib.hid hq
  have HN := Lib.hid (fun W => nan_dbl b W)
  rw [hq] at HN
  go_enter Tryz.func102, Tryz.ntmps102
  go_wp2_with fail
  generalize w.alloc (.cells #[.int .u64 52, .int .i64 2047, .int .i64 1075] 124) = W0 at *
  obtain ⟨hg, f0, f1, f2⟩ := HF.out
  clear hq
  cases q
  · go_wp2_with fail
    refine (HN.out W0).mono ?_
    rintro e w1 ⟨rfl, hb1⟩
    go_wp2_with fail
    go_ret
    exact ⟨by unfold canonV; rw [HQ.out]; rfl, back_of HB.out hb1⟩
  · go_wp2_with fail
    refine (HN.out W0).mono ?_
    rintro e w1 ⟨rfl, hb1⟩
    obtain ⟨-, k0, k1, k2⟩ := HF.out.below hb1
    go_wp2_with fail
    refine (none_dbl w1).mono ?_
    rintro e w2 ⟨rfl, hb2⟩
    go_wp2_with fail
    go_ret
    exact ⟨by unfold canonV; rw [HQ.out]; rfl, back_of HB.out (back_of hb1 hb2)⟩
end Go.Proofs.YthnmfcjodobkbaaGreatDoor

namespace Go.Proofs.YthnmfcjodobkbaaGreatDoor
open Go Go.RowKit

def expV (b : Int) : Int := (bits .and .u64 (canonV b / 4503599627370496) 2047)
def frcV (b : Int) : Int := bits .and .u64 (canonV b) 4503599627370495
def sgnV (b : Int) : Bool := bits .and .u64 (canonV b) 9223372036854775808 != 0
set_option maxRecDepth 100000 in
set_option maxHeartbeats 4000000 in
theorem split_dbl (b : Int) (w : World) : Calls Tryz.prog 119 #[.int .u64 b, fmt] w fun e w' => e = .returned (.tuple #[.bool (sgnV b), .int .i64 (IntKind.i64.wrap (expV b)), .int .u64 (frcV b)]) ∧ Below w.heap.size w w' := by
  have HF := Lib.hid (fmt_at w 124)
  have HB := Lib.hid (fmt_below w 124)
  obtain ⟨c, hq⟩ : ∃ c, canonV b = c := ⟨_, rfl⟩
  have HQ := Lib.hid hq
  have HN := Lib.hid (fun W => canon_dbl b W)
  rw [hq] at HN
  clear hq
  go_enter Tryz.func119, Tryz.ntmps119
  go_wp2_with fail
  generalize w.alloc (.cells #[.int .u64 52, .int .i64 2047, .int .i64 1075] 124) = W0 at *
  obtain ⟨hg, f0, f1, f2⟩ := HF.out
  go_wp2_with fail
  refine (HN.out W0).mono ?_
  rintro e w1 ⟨rfl, hb1⟩
  have HF1 := Lib.hid (HF.out.below hb1)
  have HB1 := Lib.hid (back_of HB.out hb1)
  clear hb1 f0 f1 f2 hg HN HB HF
  go_wp2_with fail
  have hc : Below w1.heap.size w1 w1.drew := (Below.refl _ _).drew
  go_region_held3 (fun w' => w'.cell? ⟨w.heap.size, 0, none⟩ = some (.int .u64 52) ∧ w'.cell? ⟨w.heap.size, 1, none⟩ = some (.int .i64 2047) ∧ w'.cell? ⟨w.heap.size, 2, none⟩ = some (.int .i64 1075))
    (first | exact HF1.out.2 | exact (HF1.out.below hc).2)
    (first | (go_at_call 121; refine (hidden_dbl _).mono ?_; rintro e w1 ⟨rfl, hb1⟩; replace hc := back_of hc hb1; clear hb1) | (go_at_call 161; refine (sign_dbl _).mono ?_; rintro e w1 ⟨rfl, hb1⟩; replace hc := back_of hc hb1; clear hb1))
  go_wp2_with fail
  go_ret3
  refine ⟨?_, back_of HB1.out hc⟩
  unfold sgnV expV frcV
  rw [HQ.out]
  rfl

def clsE (e f : Int) : Int := if e = 2047 then (if f = 0 then 2 else 1) else if e = 0 then (if f = 0 then 3 else 4) else 5
def clsV (b : Int) : Int := clsE (IntKind.i64.wrap (expV b)) (frcV b)
set_option maxRecDepth 100000 in
set_option maxHeartbeats 4000000 in
theorem class_dbl (b : Int) (w : World) : Calls Tryz.prog 120 #[.int .u64 b, fmt] w fun e w' => e = .returned (.int .i64 (clsV b)) ∧ Below w.heap.size w w' := by
  have HF := Lib.hid (fmt_at w 124)
  have HB := Lib.hid (fmt_below w 124)
  unfold clsV
  have HN := Lib.hid (fun W => split_dbl b W)
  generalize sgnV b = g at HN
  generalize IntKind.i64.wrap (expV b) = E at *
  generalize frcV b = F at *
  by_cases c1 : E = 2047
  · subst c1
    by_cases c2 : F = 0
    · subst c2
      go_enter Tryz.func120, Tryz.ntmps120
      go_wp2_with fail
      generalize w.alloc (.cells #[.int .u64 52, .int .i64 2047, .int .i64 1075] 124) = W0 at *
      obtain ⟨hg, f0, f1, f2⟩ := HF.out
      go_wp2_with fail
      refine (HN.out W0).mono ?_
      rintro e w1 ⟨rfl, hb1⟩
      obtain ⟨hg, f0, f1, f2⟩ := HF.out.below hb1
      go_wp2_with fail
      go_ret
      exact ⟨rfl, back_of HB.out hb1⟩
    · have c2' : (F == 0) = false := by simpa using c2
      have c2'' : (F != 0) = true := by simpa using c2
      go_enter Tryz.func120, Tryz.ntmps120
      go_wp2_with fail
      generalize w.alloc (.cells #[.int .u64 52, .int .i64 2047, .int .i64 1075] 124) = W0 at *
      obtain ⟨hg, f0, f1, f2⟩ := HF.out
      go_wp2_with fail
      refine (HN.out W0).mono ?_
      rintro e w1 ⟨rfl, hb1⟩
      obtain ⟨hg, f0, f1, f2⟩ := HF.out.below hb1
      go_wp2_with fail
      go_ret
      exact ⟨by unfold clsE; rw [if_pos rfl, if_neg c2]; rfl, back_of HB.out hb1⟩
  · have c1' : (E == 2047) = false := by simpa using c1
    have c1'' : ¬ (E == 2047) = true := by simpa using c1
    by_cases c3 : E = 0
    · subst c3
      by_cases c2 : F = 0
      · subst c2
        go_enter Tryz.func120, Tryz.ntmps120
        go_wp2_with fail
        generalize w.alloc (.cells #[.int .u64 52, .int .i64 2047, .int .i64 1075] 124) = W0 at *
        obtain ⟨hg, f0, f1, f2⟩ := HF.out
        go_wp2_with fail
        refine (HN.out W0).mono ?_
        rintro e w1 ⟨rfl, hb1⟩
        obtain ⟨hg, f0, f1, f2⟩ := HF.out.below hb1
        go_wp2_with fail
        go_ret
        exact ⟨rfl, back_of HB.out hb1⟩
      · have c2' : (F == 0) = false := by simpa using c2
        go_enter Tryz.func120, Tryz.ntmps120
        go_wp2_with fail
        generalize w.alloc (.cells #[.int .u64 52, .int .i64 2047, .int .i64 1075] 124) = W0 at *
        obtain ⟨hg, f0, f1, f2⟩ := HF.out
        go_wp2_with fail
        refine (HN.out W0).mono ?_
        rintro e w1 ⟨rfl, hb1⟩
        obtain ⟨hg, f0, f1, f2⟩ := HF.out.below hb1
        go_wp2_with fail
        go_ret
        exact ⟨by unfold clsE; rw [if_neg c1, if_pos rfl, if_neg c2]; rfl, back_of HB.out hb1⟩
    · have c3' : (E == 0) = false := by simpa using c3
      go_enter Tryz.func120, Tryz.ntmps120
      go_wp2_with fail
      generalize w.alloc (.cells #[.int .u64 52, .int .i64 2047, .int .i64 1075] 124) = W0 at *
      obtain ⟨hg, f0, f1, f2⟩ := HF.out
      go_wp2_with fail
      refine (HN.out W0).mono ?_
      rintro e w1 ⟨rfl, hb1⟩
      obtain ⟨hg, f0, f1, f2⟩ := HF.out.below hb1
      go_wp2_with fail
      go_ret
      exact ⟨by unfold clsE; rw [if_neg c1, if_neg c3]; rfl, back_of HB.out hb1⟩

/-- numbers that lie in a row, as their bits -/
def FlAt (w : World) (A : Option Addr) (n : Nat) (bs : List Nat) : Prop := bs.length = n ∧ ((A = none ∧ n = 0) ∨ ∃ b off, A = some ⟨b, off, none⟩ ∧ b < w.heap.size ∧ ∀ i, i < n → w.cell? ⟨b, off + i, none⟩ = some (.float .f64 (bs.getD i 0)))
theorem FlAt.below {w w' : World} {A : Option Addr} {n : Nat} {bs : List Nat} (h : FlAt w A n bs) (hb : Below w.heap.size w w') : FlAt w' A n bs := by
  refine ⟨h.1, ?_⟩
  rcases h.2 with h2 | ⟨b, off, h1, h2, h3⟩
  · exact .inl h2
  · exact .inr ⟨b, off, h1, Nat.lt_of_lt_of_le h2 hb.size, fun i hi => (hb.cell (p := ⟨b, off + i, none⟩) h2).trans (h3 i hi)⟩
theorem FlAt.at {w : World} {A : Option Addr} {n : Nat} {bs : List Nat} (h : FlAt w A n bs) {i : Nat} (hi : i < n) : ∃ b off, A = some ⟨b, off, none⟩ ∧ b < w.heap.size ∧ w.cell? ⟨b, off + i, none⟩ = some (.float .f64 (bs.getD i 0)) := by
  rcases h.2 with h2 | ⟨b, off, h1, h2, h3⟩
  · omega
  · exact ⟨b, off, h1, h2, h3 i hi⟩
end Go.Proofs.YthnmfcjodobkbaaGreatDoor

namespace Go.Proofs.YthnmfcjodobkbaaGreatDoor
open Go Go.RowKit

/-- the bits of a NaN -/
def nanN (f : Nat) : Bool := decide (9218868437227405312 < f % 9223372036854775808)
/-- the bits, of any NaN those of the one -/
def cnN (f : Nat) : Nat := if nanN f = true then 9221120237041090561 else f
theorem cmp_self (d : Ieee.Datum) : (d.order d == some Ordering.eq) = !d.isNaN := by
  cases d with
  | number s m i => simp [Ieee.Datum.order, Ieee.Datum.isNaN]
  | infinity s => simp [Ieee.Datum.order, Ieee.Datum.isNaN]
  | nan s f => simp [Ieee.Datum.order, Ieee.Datum.isNaN]
theorem read_nan (f : Nat) : (Ieee.double.read f).isNaN = nanN f := by
  have e1 : Ieee.double.signWeight = 9223372036854775808 := by decide
  have e2 : Ieee.double.binade = 4503599627370496 := by decide
  have e3 : Ieee.double.infRung = 9218868437227405312 := by decide
  unfold Ieee.Format.read nanN
  simp only [e1, e2, e3]
  split
  · rename_i h
    simp [Ieee.Datum.isNaN]; omega
  · split
    · rename_i h
      simp [Ieee.Datum.isNaN]; omega
    · split
      · rename_i h
        simp [Ieee.Datum.isNaN]; omega
      · simp [Ieee.Datum.isNaN]; omega
theorem order_self (f : Nat) : (Ieee.double.order f f == some Ordering.eq) = !nanN f := by
  rw [Ieee.Format.order, cmp_self, read_nan]

theorem neq_self (f : Nat) : (FloatKind.f64.format.order f f != some Ordering.eq) = nanN f := by
  have h := order_self f
  show (!(Ieee.double.order f f == some Ordering.eq)) = nanN f
  rw [h, Bool.not_not]
theorem andnot_top {f : Nat} (h : f < 18446744073709551616) : bits .andNot .u64 (f : Int) 9223372036854775808 = ((f % 9223372036854775808 : Nat) : Int) := by
  rw [u64_andNot _ _ (by omega) (by omega) (by omega) (by omega)]
  have e : f % 9223372036854775808 = f &&& (18446744073709551615 - (9223372036854775808 : Int).toNat) := (Nat.and_two_pow_sub_one_eq_mod f 63).symm
  rw [e, Int.toNat_natCast]
theorem nan_eq {f : Nat} (h : f < 18446744073709551616) : nanV (f : Int) = nanN f := by
  unfold nanV nanN
  rw [andnot_top h]
  apply decide_eq_decide.2
  omega
theorem cnN_lt {f : Nat} (h : f < 18446744073709551616) : cnN f < 18446744073709551616 := by unfold cnN; split <;> omega
theorem canon_eq {f : Nat} (h : f < 18446744073709551616) : canonV (f : Int) = (cnN f : Int) := by
  unfold canonV cnN
  rw [nan_eq h]
  split <;> rfl
theorem cnN_nan (f : Nat) : nanN (cnN f) = nanN f := by
  unfold cnN
  split
  · rename_i h
    rw [h]
    decide
  · rfl
theorem and_top {f : Nat} (h : f < 18446744073709551616) : (bits .and .u64 (f : Int) 9223372036854775808 != 0) = decide (9223372036854775808 ≤ f) := by
  rw [u64_and _ _ (by omega) (by omega) (by omega) (by omega), Int.toNat_natCast]
  have e : f &&& (9223372036854775808 : Int).toNat = f / 9223372036854775808 % 2 * 9223372036854775808 := by
    apply Nat.eq_of_testBit_eq
    intro i
    have e2 : (9223372036854775808 : Int).toNat = 2 ^ 63 := by decide
    rw [e2, Nat.testBit_and, Nat.testBit_two_pow, show (9223372036854775808 : Nat) = 2 ^ 63 by decide, Nat.testBit_mul_two_pow]
    by_cases hi : i = 63
    · subst hi
      simp [Nat.testBit_eq_decide_div_mod_eq]
    · have h63 : ¬ 63 = i := fun e => hi e.symm
      simp only [h63, decide_false, Bool.and_false]
      by_cases hl : 63 ≤ i
      · have : (f / 2 ^ 63 % 2).testBit (i - 63) = false := by
          apply Nat.testBit_lt_two_pow
          have := Nat.one_lt_two_pow (n := i - 63) (by omega)
          omega
        simp [this]
      · simp [hl]
  rw [e]
  have h1 : f / 9223372036854775808 % 2 = 0 ∨ f / 9223372036854775808 % 2 = 1 := by omega
  rcases h1 with h1 | h1
  · rw [h1]
    have : ¬ 9223372036854775808 ≤ f := by omega
    simp [this]
  · rw [h1]
    have : 9223372036854775808 ≤ f := by omega
    simp [this]
theorem and_mask {a : Nat} (k : Nat) (h : a < 18446744073709551616) (hk : k ≤ 63) : bits .and .u64 (a : Int) ((2 ^ k - 1 : Nat) : Int) = ((a % 2 ^ k : Nat) : Int) := by
  have hb : 2 ^ k - 1 < 18446744073709551616 := by
    have := Nat.pow_le_pow_right (n := 2) (by omega) hk
    have e : (2 : Nat) ^ 63 = 9223372036854775808 := by decide
    omega
  rw [u64_and _ _ (by omega) (by omega) (by omega) (by omega), Int.toNat_natCast, Int.toNat_natCast, Nat.and_two_pow_sub_one_eq_mod]
theorem exp_eq {f : Nat} (h : f < 18446744073709551616) : expV (f : Int) = ((cnN f / 4503599627370496 % 2048 : Nat) : Int) := by
  have hc := cnN_lt h
  unfold expV
  rw [canon_eq h]
  have e : (cnN f : Int) / 4503599627370496 = ((cnN f / 4503599627370496 : Nat) : Int) := by omega
  rw [e]
  exact and_mask 11 (by omega) (by omega)
theorem frc_eq {f : Nat} (h : f < 18446744073709551616) : frcV (f : Int) = ((cnN f % 4503599627370496 : Nat) : Int) := by
  have hc := cnN_lt h
  unfold frcV
  rw [canon_eq h]
  exact and_mask 52 hc (by omega)
theorem sgn_eq {f : Nat} (h : f < 18446744073709551616) : sgnV (f : Int) = decide (9223372036854775808 ≤ cnN f) := by
  unfold sgnV
  rw [canon_eq h]
  exact and_top (cnN_lt h)
end Go.Proofs.YthnmfcjodobkbaaGreatDoor

namespace Go.Proofs.YthnmfcjodobkbaaGreatDoor
open Go Go.RowKit Go.WideShapes

theorem infoF : (Tryz.prog.info? 53).map (fun i => (i.zero, i.size, i.bytes)) = some (some (.float .f64 0), 1, 8) := by kernel_rfl
theorem run_frombits (n : Int) (w : World) : Sem.run Tryz.prog (callFunc 25 #[.int .u64 n]) w = .ok (.value (.float .f64 n.toNat)) w :=
  (run_callFunc_extern (e := Extern.MathFloatBits.float64frombits) Tryz.func25 (by kernel_rfl) (by kernel_rfl) (by kernel_rfl) (by kernel_rfl) _ _).trans rfl
theorem float_new (w : World) (f : Nat) (T : TypeId) : ∀ j u, [(Value.float .f64 f)][j]? = some u → (w.alloc (.cells #[.float .f64 f] T)).cell? ((⟨w.heap.size, 0, none⟩ : Addr).add j) = some u := by
  intro j u h
  have hj : j = 0 := by
    have := (List.getElem?_eq_some_iff.1 h).1
    simp at this
    omega
  subst hj
  simp at h
  subst h
  rw [Go.WideShapes.add_plain, Nat.zero_add]
  simp [go_sem]

theorem ownsRow_below {w w' : World} {B : Nat} {e : TypeId} {sz n : Nat} {v : Value} {xs : List Value} (h : w.ownsRow B e sz v n xs) (hb : Below w.heap.size w w') : w'.ownsRow B e sz v n xs := by
  refine ⟨h.1, ?_⟩
  rcases h.2 with hn | ⟨g, cap, cur, hv, h1, h2, h3⟩
  · exact .inl hn
  · exact .inr ⟨g, cap, cur, hv, h1, (hb.block g (Array.getElem?_eq_some_iff.1 h2).1).trans h2, h3⟩
theorem ownsRow_base {w : World} {B : Nat} {e : TypeId} {sz n : Nat} {v : Value} {xs : List Value} (h : w.ownsRow B e sz v n xs) : ∀ k, v.ownBlock = some k → B ≤ k := by
  intro k hk
  rcases h.2 with ⟨hn, -⟩ | ⟨g, cap, cur, hv, h1, -⟩
  · rw [hn] at hk; simp [Value.ownBlock] at hk
  · rw [hv] at hk
    simp only [Value.ownBlock] at hk
    injection hk with hk
    omega

theorem own_fl {w : World} {B n : Nat} {v : Value} {bs : List Nat} (h : w.ownsRow B 53 1 v n (bs.map fun b => .float .f64 b)) (hn : bs.length = n) : ∃ A c, v = .slice A n c ∧ FlAt w A n bs ∧ (A = none ∨ ∃ b, A = some ⟨b, 0, none⟩ ∧ B ≤ b ∧ b < w.heap.size) := by
  have h0 := h
  rcases h.2 with ⟨h1, h2⟩ | ⟨g, cap, cur, h1, h2, h3, -⟩
  · subst h2
    exact ⟨none, 0, h1, ⟨hn, .inl ⟨rfl, rfl⟩⟩, .inl rfl⟩
  · subst h1
    have hg := (Array.getElem?_eq_some_iff.1 h3).1
    refine ⟨_, cap, rfl, ⟨hn, .inr ⟨g, 0, rfl, hg, fun i hi => ?_⟩⟩, .inr ⟨g, rfl, h2, hg⟩⟩
    have := h0.cellAt i (by simp; omega)
    rw [Nat.zero_add, this]
    rw [List.getElem?_map, List.getD_eq_getElem?_getD, List.getElem?_eq_getElem (by omega)]
    rfl

set_option maxRecDepth 8000 in
set_option maxHeartbeats 2000000 in
theorem of64_fl (A : Option Addr) (n c : Nat) (ts : List Int) (w : World) (hn : ts.length = n) (hc : ∀ i, i < n → ∃ b off, A = some ⟨b, off, none⟩ ∧ b < w.heap.size ∧ w.cell? ⟨b, off + i, none⟩ = some (.int .u64 (ts.getD i 0))) (hl : n * 8 ≤ 140737488355328) :
    Calls Tryz.prog 9 #[.slice A n c] w fun e w' => (∃ v, e = .returned v ∧ w'.ownsRow w.heap.size 53 1 v n ((ts.map Int.toNat).map fun b => .float .f64 b)) ∧ Below w.heap.size w w' := by
  have HC := Lib.hid hc
  have HN := Lib.hid hn
  clear hc hn
  go_enter Tryz.func9, Tryz.ntmps9
  go_wp2_with fail
  go_loopw [3, 8] (fun ov iv wr => ∃ (k : Nat), k ≤ n ∧ iv = .int .i64 (k : Int) ∧ Hid (wr.ownsRow w.heap.size 53 1 ov k (((ts.take k).map Int.toNat).map fun b => .float .f64 b) ∧ Below w.heap.size w wr)) (fun _ iv _ => n - (intOf iv).toNat)
  case atStart => exact ⟨0, by omega, rfl, Lib.hid ⟨World.ownsRow_nil _ _ _ _, Below.refl _ _⟩⟩
  case round =>
    obtain ⟨k, hk, rfl, hh⟩ := hrel
    by_cases hlt : k < n
    · obtain ⟨b, off, rfl, hb, hcell⟩ := HC.out k hlt
      obtain ⟨y, hy⟩ : ∃ y, ts.getD k 0 = y := ⟨_, rfl⟩
      rw [hy] at hcell
      have HY := Lib.hid hy
      have hcr := (hh.out.2.cell (p := ⟨b, off + k, none⟩) hb).trans hcell
      have hki : (k : Int) < (n : Int) := by omega
      clear hcell hy
      have hfb := run_frombits y
      obtain ⟨i0, hi0, hz0, hz1, hz2⟩ := info_parts infoF
      have HBX := Lib.hid ((Below.refl wr.heap.size wr).alloc (Nat.le_refl _) (.cells #[.float .f64 y.toNat] 53))
      have HRX := Lib.hid (ownsRow_below hh.out.1 HBX.out)
      have hwr := hh.out.2.size
      go_wp2_with (at_builtin; refine wpList_append_own _ rfl _ _ 32 rfl w.heap.size 53 i0 _ 1 8 Tryz.underlying32 hi0 hz0 hz1 hz2 rfl (by omega) u3 k _ rfl HRX.out ⟨wr.heap.size, 0, none⟩ 1 1 [.float .f64 y.toNat] rfl rfl (float_new _ _ _) (by simp [Value.oneCell']) (by simp only [maxLen]; omega) (by omega) (Nat.le_trans hwr HBX.out.size) ?_; intro v' w3 hr3 hg3 ha3; have HR3 := Lib.hid (And.intro hr3 hg3); clear hr3 hg3 ha3)
      go_roundw
      case rel =>
        refine ⟨k + 1, by omega, by go_num, Lib.hid ⟨?_, (hh.out.2.trans (HBX.out.mono hwr)).grown HR3.out.2 (Nat.le_trans hwr HBX.out.size) (ownsRow_base hh.out.1)⟩⟩
        have h1 := HR3.out.1
        have e1 : ts.take (k + 1) = ts.take k ++ [y] := by
          have hkl : k < ts.length := by have := HN.out; omega
          have hy := HY.out
          rw [List.getD_eq_getElem?_getD, List.getElem?_eq_getElem hkl] at hy
          rw [List.take_add_one, List.getElem?_eq_getElem hkl]
          have hy' : ts[k] = y := hy
          rw [hy']
          rfl
        rw [e1, List.map_append, List.map_append]
        exact h1
      case measure => simp [intOf]; omega
    · have hkn : k = n := by omega
      subst hkn
      have hsl : ∃ A' c', u3 = .slice A' k c' := by
        rcases hh.out.1.2 with ⟨h1, h2⟩ | ⟨g, cap, cur, h1, -⟩
        · exact ⟨none, 0, by rw [h1, h2]⟩
        · exact ⟨_, _, h1⟩
      obtain ⟨A', c', rfl⟩ := hsl
      go_wp2_with fail
      go_ret
      have h1 := hh.out.1
      rw [List.take_of_length_le (by have := HN.out; omega)] at h1
      exact ⟨⟨_, rfl, h1⟩, hh.out.2⟩
end Go.Proofs.YthnmfcjodobkbaaGreatDoor
