/- E9 E11 E13 in one text. -/
import Derived.Test.YthnmfcjodobkbaaGreatDoorP14
import Derived.Test.YthnmfcjodobkbaaGreatDoorP18
import Derived.Deep.RegionHeld3
import Derived.WalkSmall
import Derived.Lib.OthersKept

namespace Go.Proofs.YthnmfcjodobkbaaGreatDoor.Nb
open Go Go.RowKit

/-- the format of doubles lies in block b -/
def Fmt (w : World) (b : Nat) : Prop := w.cell? ⟨b, 0, none⟩ = some (.int .u64 52) ∧ w.cell? ⟨b, 1, none⟩ = some (.int .i64 2047) ∧ w.cell? ⟨b, 2, none⟩ = some (.int .i64 1075) ∧ b < w.heap.size
theorem Fmt.below {w w' : World} {b : Nat} (h : Fmt w b) (k : Below w.heap.size w w') : Fmt w' b :=
  ⟨(k.cell (p := ⟨b, 0, none⟩) h.2.2.2).trans h.1, (k.cell (p := ⟨b, 1, none⟩) h.2.2.2).trans h.2.1, (k.cell (p := ⟨b, 2, none⟩) h.2.2.2).trans h.2.2.1, Nat.lt_of_lt_of_le h.2.2.2 k.size⟩
theorem Fmt.new (w : World) (t : TypeId) : Fmt (w.alloc (.cells #[.int .u64 52, .int .i64 2047, .int .i64 1075] t)) w.heap.size := ⟨by simp [go_sem], by simp [go_sem], by simp [go_sem], by simp⟩

set_option maxRecDepth 8000 in
theorem hidden_f (w : World) : Calls Tryz.prog 121 #[(.agg #[.int .u64 52, .int .i64 2047, .int .i64 1075])] w fun e w' => e = .returned (.int .u64 4503599627370496) ∧ Below w.heap.size w w' := by
  go_enter Tryz.func121, Tryz.ntmps121
  go_wp2_with fail
  go_ret
  exact ⟨rfl, (Below.refl _ _).alloc (Nat.le_refl _) _⟩

set_option maxRecDepth 8000 in
theorem sign_f (w : World) : Calls Tryz.prog 161 #[(.agg #[.int .u64 52, .int .i64 2047, .int .i64 1075])] w fun e w' => e = .returned (.int .u64 9223372036854775808) ∧ Below w.heap.size w w' := by
  go_enter Tryz.func161, Tryz.ntmps161
  go_wp2_with fail
  go_ret
  exact ⟨rfl, (Below.refl _ _).alloc (Nat.le_refl _) _⟩

set_option maxRecDepth 8000 in
theorem infinite_f (w : World) : Calls Tryz.prog 168 #[(.agg #[.int .u64 52, .int .i64 2047, .int .i64 1075])] w fun e w' => e = .returned (.int .u64 9218868437227405312) ∧ Below w.heap.size w w' := by
  go_enter Tryz.func168, Tryz.ntmps168
  go_wp2_with fail
  go_ret
  exact ⟨rfl, (Below.refl _ _).alloc (Nat.le_refl _) _⟩

set_option maxRecDepth 8000 in
set_option maxHeartbeats 1000000 in
theorem nan_ten (w : World) : Calls Tryz.prog 145 #[.int .u64 4621819117588971520, (.agg #[.int .u64 52, .int .i64 2047, .int .i64 1075])] w fun e w' => e = .returned (.bool false) ∧ Below w.heap.size w w' := by
  have hA := (Below.refl w.heap.size w).alloc (Nat.le_refl _) (.cells #[.int .u64 52, .int .i64 2047, .int .i64 1075] 124)
  have HA := Lib.hid (And.intro hA (Fmt.new w 124))
  have hb : bits .andNot .u64 4621819117588971520 9223372036854775808 = 4621819117588971520 := by decide
  obtain ⟨W, hW⟩ : ∃ W, w.alloc (.cells #[.int .u64 52, .int .i64 2047, .int .i64 1075] 124) = W := ⟨_, rfl⟩
  rw [hW] at HA
  have HS := Lib.hid (fun (V : World) (hV : Below W.heap.size W V) => HA.out.2.below hV)
  clear hA
  go_enter Tryz.func145, Tryz.ntmps145
  go_wp2_with fail
  have hcur : Below W.heap.size W W.drew := (Below.refl _ _).drew
  go_region_held3 (fun w' => w'.cell? ⟨w.heap.size, 0, none⟩ = some (.int .u64 52) ∧ w'.cell? ⟨w.heap.size, 1, none⟩ = some (.int .i64 2047) ∧ w'.cell? ⟨w.heap.size, 2, none⟩ = some (.int .i64 1075)) (first | (have q := HS.out _ (by first | exact hw2 | exact hw1 | exact hcur); exact ⟨q.1, q.2.1, q.2.2.1⟩)) (first | (go_at_call 168; refine (infinite_f _).mono ?_; rintro e w2 ⟨rfl, bw2⟩; have hw2 := back_of' hw1 bw2; clear bw2) | (go_at_call 161; refine (sign_f _).mono ?_; rintro e w1 ⟨rfl, bw1⟩; have hw1 := back_of' hcur bw1; clear bw1))
  all_goals go_wp2_with fail
  all_goals (go_ret; exact ⟨rfl, back_of' HA.out.1 hw2⟩)

set_option maxRecDepth 8000 in
theorem canon_ten (w : World) : Calls Tryz.prog 102 #[.int .u64 4621819117588971520, (.agg #[.int .u64 52, .int .i64 2047, .int .i64 1075])] w fun e w' => e = .returned (.int .u64 4621819117588971520) ∧ Below w.heap.size w w' := by
  have hA := (Below.refl w.heap.size w).alloc (Nat.le_refl _) (.cells #[.int .u64 52, .int .i64 2047, .int .i64 1075] 124)
  have HN := Lib.hid (nan_ten (w.alloc (.cells #[.int .u64 52, .int .i64 2047, .int .i64 1075] 124)))
  have HA := Lib.hid hA
  clear hA
  go_enter Tryz.func102, Tryz.ntmps102
  go_wp2_with fail
  refine HN.out.mono ?_
  rintro e w1 ⟨rfl, b1⟩
  have HB := Lib.hid (back_of' HA.out b1)
  clear b1
  go_wp2_with fail
  go_ret
  exact ⟨rfl, HB.out⟩

set_option maxRecDepth 8000 in
set_option maxHeartbeats 1000000 in
theorem split_ten (w : World) : Calls Tryz.prog 119 #[.int .u64 4621819117588971520, (.agg #[.int .u64 52, .int .i64 2047, .int .i64 1075])] w fun e w' => e = .returned (.tuple #[.bool false, .int .i64 1026, .int .u64 1125899906842624]) ∧ Below w.heap.size w w' := by
  have hA := (Below.refl w.heap.size w).alloc (Nat.le_refl _) (.cells #[.int .u64 52, .int .i64 2047, .int .i64 1075] 124)
  have HN := Lib.hid (canon_ten (w.alloc (.cells #[.int .u64 52, .int .i64 2047, .int .i64 1075] 124)))
  have HA := Lib.hid (And.intro hA (Fmt.new w 124))
  have h1 : bits .and .u64 4621819117588971520 9223372036854775808 = 0 := by decide
  have h2 : bits .and .u64 1026 2047 = 1026 := by decide
  have h3 : bits .and .u64 4621819117588971520 4503599627370495 = 1125899906842624 := by decide
  clear hA
  go_enter Tryz.func119, Tryz.ntmps119
  go_wp2_with fail
  refine HN.out.mono ?_
  rintro e W ⟨rfl, b0⟩
  have HS := Lib.hid (fun (V : World) (hV : Below W.heap.size W V) => (HA.out.2.below b0).below hV)
  have HB := Lib.hid (back_of' HA.out.1 b0)
  clear b0 HN
  go_wp2_with fail
  have hcur : Below W.heap.size W W.drew := (Below.refl _ _).drew
  go_region_held3 (fun w' => w'.cell? ⟨w.heap.size, 0, none⟩ = some (.int .u64 52) ∧ w'.cell? ⟨w.heap.size, 1, none⟩ = some (.int .i64 2047) ∧ w'.cell? ⟨w.heap.size, 2, none⟩ = some (.int .i64 1075)) (first | (have q := HS.out _ (by first | exact hw2 | exact hw1 | exact hcur); exact ⟨q.1, q.2.1, q.2.2.1⟩)) (first | (go_at_call 121; refine (hidden_f _).mono ?_; rintro e w2 ⟨rfl, bw2⟩; have hw2 := back_of' hw1 bw2; clear bw2) | (go_at_call 161; refine (sign_f _).mono ?_; rintro e w1 ⟨rfl, bw1⟩; have hw1 := back_of' hcur bw1; clear bw1))
  all_goals go_wp2_with fail
  all_goals (go_ret3; exact ⟨rfl, back_of' HB.out hw2⟩)

set_option maxRecDepth 8000 in
theorem class_ten (w : World) : Calls Tryz.prog 120 #[.int .u64 4621819117588971520, (.agg #[.int .u64 52, .int .i64 2047, .int .i64 1075])] w fun e w' => e = .returned (.int .i64 5) ∧ Below w.heap.size w w' := by
  have hA := (Below.refl w.heap.size w).alloc (Nat.le_refl _) (.cells #[.int .u64 52, .int .i64 2047, .int .i64 1075] 124)
  have HN := Lib.hid (split_ten (w.alloc (.cells #[.int .u64 52, .int .i64 2047, .int .i64 1075] 124)))
  have HA := Lib.hid (And.intro hA (Fmt.new w 124))
  clear hA
  go_enter Tryz.func120, Tryz.ntmps120
  go_wp2_with fail
  refine HN.out.mono ?_
  rintro e w1 ⟨rfl, b1⟩
  have HB := Lib.hid (back_of' HA.out.1 b1)
  obtain ⟨f0, f1, f2, -⟩ := HA.out.2.below b1
  clear b1
  go_wp2_with fail
  go_ret
  exact ⟨rfl, HB.out⟩

set_option maxRecDepth 8000 in
set_option maxHeartbeats 1000000 in
theorem nan_tenth (w : World) : Calls Tryz.prog 145 #[.int .u64 4591870180066957722, (.agg #[.int .u64 52, .int .i64 2047, .int .i64 1075])] w fun e w' => e = .returned (.bool false) ∧ Below w.heap.size w w' := by
  have hA := (Below.refl w.heap.size w).alloc (Nat.le_refl _) (.cells #[.int .u64 52, .int .i64 2047, .int .i64 1075] 124)
  have HA := Lib.hid (And.intro hA (Fmt.new w 124))
  have hb : bits .andNot .u64 4591870180066957722 9223372036854775808 = 4591870180066957722 := by decide
  obtain ⟨W, hW⟩ : ∃ W, w.alloc (.cells #[.int .u64 52, .int .i64 2047, .int .i64 1075] 124) = W := ⟨_, rfl⟩
  rw [hW] at HA
  have HS := Lib.hid (fun (V : World) (hV : Below W.heap.size W V) => HA.out.2.below hV)
  clear hA
  go_enter Tryz.func145, Tryz.ntmps145
  go_wp2_with fail
  have hcur : Below W.heap.size W W.drew := (Below.refl _ _).drew
  go_region_held3 (fun w' => w'.cell? ⟨w.heap.size, 0, none⟩ = some (.int .u64 52) ∧ w'.cell? ⟨w.heap.size, 1, none⟩ = some (.int .i64 2047) ∧ w'.cell? ⟨w.heap.size, 2, none⟩ = some (.int .i64 1075)) (first | (have q := HS.out _ (by first | exact hw2 | exact hw1 | exact hcur); exact ⟨q.1, q.2.1, q.2.2.1⟩)) (first | (go_at_call 168; refine (infinite_f _).mono ?_; rintro e w2 ⟨rfl, bw2⟩; have hw2 := back_of' hw1 bw2; clear bw2) | (go_at_call 161; refine (sign_f _).mono ?_; rintro e w1 ⟨rfl, bw1⟩; have hw1 := back_of' hcur bw1; clear bw1))
  all_goals go_wp2_with fail
  all_goals (go_ret; exact ⟨rfl, back_of' HA.out.1 hw2⟩)

set_option maxRecDepth 8000 in
theorem canon_tenth (w : World) : Calls Tryz.prog 102 #[.int .u64 4591870180066957722, (.agg #[.int .u64 52, .int .i64 2047, .int .i64 1075])] w fun e w' => e = .returned (.int .u64 4591870180066957722) ∧ Below w.heap.size w w' := by
  have hA := (Below.refl w.heap.size w).alloc (Nat.le_refl _) (.cells #[.int .u64 52, .int .i64 2047, .int .i64 1075] 124)
  have HN := Lib.hid (nan_tenth (w.alloc (.cells #[.int .u64 52, .int .i64 2047, .int .i64 1075] 124)))
  have HA := Lib.hid hA
  clear hA
  go_enter Tryz.func102, Tryz.ntmps102
  go_wp2_with fail
  refine HN.out.mono ?_
  rintro e w1 ⟨rfl, b1⟩
  have HB := Lib.hid (back_of' HA.out b1)
  clear b1
  go_wp2_with fail
  go_ret
  exact ⟨rfl, HB.out⟩

set_option maxRecDepth 8000 in
set_option maxHeartbeats 1000000 in
theorem split_tenth (w : World) : Calls Tryz.prog 119 #[.int .u64 4591870180066957722, (.agg #[.int .u64 52, .int .i64 2047, .int .i64 1075])] w fun e w' => e = .returned (.tuple #[.bool false, .int .i64 1019, .int .u64 2702159776422298]) ∧ Below w.heap.size w w' := by
  have hA := (Below.refl w.heap.size w).alloc (Nat.le_refl _) (.cells #[.int .u64 52, .int .i64 2047, .int .i64 1075] 124)
  have HN := Lib.hid (canon_tenth (w.alloc (.cells #[.int .u64 52, .int .i64 2047, .int .i64 1075] 124)))
  have HA := Lib.hid (And.intro hA (Fmt.new w 124))
  have h1 : bits .and .u64 4591870180066957722 9223372036854775808 = 0 := by decide
  have h2 : bits .and .u64 1019 2047 = 1019 := by decide
  have h3 : bits .and .u64 4591870180066957722 4503599627370495 = 2702159776422298 := by decide
  clear hA
  go_enter Tryz.func119, Tryz.ntmps119
  go_wp2_with fail
  refine HN.out.mono ?_
  rintro e W ⟨rfl, b0⟩
  have HS := Lib.hid (fun (V : World) (hV : Below W.heap.size W V) => (HA.out.2.below b0).below hV)
  have HB := Lib.hid (back_of' HA.out.1 b0)
  clear b0 HN
  go_wp2_with fail
  have hcur : Below W.heap.size W W.drew := (Below.refl _ _).drew
  go_region_held3 (fun w' => w'.cell? ⟨w.heap.size, 0, none⟩ = some (.int .u64 52) ∧ w'.cell? ⟨w.heap.size, 1, none⟩ = some (.int .i64 2047) ∧ w'.cell? ⟨w.heap.size, 2, none⟩ = some (.int .i64 1075)) (first | (have q := HS.out _ (by first | exact hw2 | exact hw1 | exact hcur); exact ⟨q.1, q.2.1, q.2.2.1⟩)) (first | (go_at_call 121; refine (hidden_f _).mono ?_; rintro e w2 ⟨rfl, bw2⟩; have hw2 := back_of' hw1 bw2; clear bw2) | (go_at_call 161; refine (sign_f _).mono ?_; rintro e w1 ⟨rfl, bw1⟩; have hw1 := back_of' hcur bw1; clear bw1))
  all_goals go_wp2_with fail
  all_goals (go_ret3; exact ⟨rfl, back_of' HB.out hw2⟩)

set_option maxRecDepth 8000 in
theorem class_tenth (w : World) : Calls Tryz.prog 120 #[.int .u64 4591870180066957722, (.agg #[.int .u64 52, .int .i64 2047, .int .i64 1075])] w fun e w' => e = .returned (.int .i64 5) ∧ Below w.heap.size w w' := by
  have hA := (Below.refl w.heap.size w).alloc (Nat.le_refl _) (.cells #[.int .u64 52, .int .i64 2047, .int .i64 1075] 124)
  have HN := Lib.hid (split_tenth (w.alloc (.cells #[.int .u64 52, .int .i64 2047, .int .i64 1075] 124)))
  have HA := Lib.hid (And.intro hA (Fmt.new w 124))
  clear hA
  go_enter Tryz.func120, Tryz.ntmps120
  go_wp2_with fail
  refine HN.out.mono ?_
  rintro e w1 ⟨rfl, b1⟩
  have HB := Lib.hid (back_of' HA.out.1 b1)
  obtain ⟨f0, f1, f2, -⟩ := HA.out.2.below b1
  clear b1
  go_wp2_with fail
  go_ret
  exact ⟨rfl, HB.out⟩
end Go.Proofs.YthnmfcjodobkbaaGreatDoor.Nb

namespace Go.Proofs.YthnmfcjodobkbaaGreatDoor.Nb
open Go Go.RowKit

/-- the builder in block b, of a base B, holds these bytes -/
def Bld (w : World) (B b : Nat) (l : List UInt8) : Prop := Lib.IsBuilder 44 5 B b (Lib.byteCells l) w
theorem bat_below {w w' : World} {B b : Nat} {p : Value} {bs : List Value} (h : Lib.BuilderAt 44 5 B b p bs w) (k : Below w.heap.size w w') : Lib.BuilderAt 44 5 B b p bs w' := by
  have hl := h.lt
  obtain ⟨hB, v, hb, hown, hne⟩ := h
  exact ⟨hB, v, (k.block b hl).trans hb, hown.kept (row := none) ⟨k.os, k.tape, k.output, k.size, fun i hi _ => k.block i hi⟩ (Classical.em _), hne⟩
theorem Bld.below {w w' : World} {B b : Nat} {l : List UInt8} (h : Bld w B b l) (k : Below w.heap.size w w') : Bld w' B b l := by
  rcases h with h | h
  · exact .inl (bat_below h k)
  · exact .inr (bat_below h k)
theorem Bld.lt {w : World} {B b : Nat} {l : List UInt8} (h : Bld w B b l) : b < w.heap.size := by
  rcases h with h | h
  · exact h.lt
  · exact h.lt
theorem Bld.new (w : World) : Bld (w.alloc (.cells #[.pointer none, .slice none 0 0] 44)) w.heap.size w.heap.size [] := Lib.fresh_isBuilder _ _ w
theorem cells_app (l m : List UInt8) : Lib.byteCells l ++ Lib.byteCells m = Lib.byteCells (l ++ m) := by simp [Lib.byteCells]
/-- WriteByte, WriteString, String by the bytes -/
theorem wbyte (B b : Nat) (l : List UInt8) (c : UInt8) (w : World) (h : Bld w B b l) (hl : l.length ≤ 100000) (hB : B ≤ w.heap.size) (x : Int) (hx : x = (c.toNat : Int)) :
    Calls Tryz.prog 14 #[.pointer (some ⟨b, 0, none⟩), .int .u8 x] w fun e w' => e = .returned .nilIface ∧ Bld w' B b (l ++ [c]) ∧ Below B w w' := by
  subst hx
  refine (writeByte_any B b _ _ w h (by rw [Lib.byteCells_length]; omega) hB).mono ?_
  rintro e w' ⟨rfl, h1, h2⟩
  refine ⟨rfl, .inr ?_, h2⟩
  rw [← cells_app]
  exact h1
theorem wstring (B b : Nat) (l : List UInt8) (s : ByteArray) (w : World) (h : Bld w B b l) (hl : l.length ≤ 100000) (hs : s.size ≤ 1000000) (hB : B ≤ w.heap.size) :
    Calls Tryz.prog 15 #[.pointer (some ⟨b, 0, none⟩), .string s] w fun e w' => e = .returned (.tuple #[.int .i64 s.size, .nilIface]) ∧ Bld w' B b (l ++ s.data.toList) ∧ Below B w w' := by
  refine (writeString_any B b _ s w h (by rw [Lib.byteCells_length]; omega) hB).mono ?_
  rintro e w' ⟨rfl, h1, h2⟩
  refine ⟨rfl, .inr ?_, h2⟩
  rw [← cells_app]
  exact h1
theorem bstring (B b : Nat) (l : List UInt8) (w : World) (h : Bld w B b l) (hB : B ≤ w.heap.size) :
    Calls Tryz.prog 17 #[.pointer (some ⟨b, 0, none⟩)] w fun e w' => e = .returned (.string ⟨l.toArray⟩) ∧ Below B w w' := Tryz.Builder_String_any B b l w h hB

/-- the table of powers of 10 lies in its variable -/
def TabP (w : World) : Prop := Lib.TabIs Tryz.prog w "internal/strconv.uint64pow10" .u64 Lib.pow10Tab ∧ 1 < w.heap.size
theorem gPow : Tryz.prog.globalNamed "internal/strconv.uint64pow10" = some 1 := by kernel_rfl
theorem TabP.below {w w' : World} {B : Nat} (h : TabP w) (k : Below B w w') (hB : 1 < B) : TabP w' :=
  ⟨var?_below k gPow hB h.1, Nat.lt_of_lt_of_le h.2 k.size⟩
theorem below_grow (w : World) (k : Nat) (os : Array Obj) : Below w.heap.size w (Go.Sort.grow (w.drewN k) os) :=
  ⟨rfl, rfl, rfl, by show w.heap.size ≤ (w.heap ++ os).size; rw [Array.size_append]; omega, fun j hj => by
    show (w.heap ++ os)[j]? = w.heap[j]?
    rw [Array.getElem?_append_left hj]⟩
theorem itoa_any (n : Int) (w : World) (h0 : -9223372036854775808 ≤ n) (h1 : n ≤ 9223372036854775807) (hP : TabP w) :
    Calls Tryz.prog 18 #[.int .i64 n] w fun e w' => e = .returned (.string ⟨(Lib.itoa n).toArray⟩) ∧ Below w.heap.size w w' := by
  refine (Tryz.strconv_Itoa n h0 h1 w hP.1).mono ?_
  rintro e w' ⟨rfl, k, os, rfl⟩
  exact ⟨rfl, below_grow w k os⟩
theorem formatInt_any (n : Int) (w : World) (h0 : -9223372036854775808 ≤ n) (h1 : n ≤ 9223372036854775807) (hP : TabP w) :
    Calls Tryz.prog 16 #[.int .i64 n, .int .i64 10] w fun e w' => e = .returned (.string ⟨(Lib.itoa n).toArray⟩) ∧ Below w.heap.size w w' := by
  refine (Tryz.strconv_FormatInt_10 n h0 h1 w hP.1).mono ?_
  rintro e w' ⟨rfl, k, os, rfl⟩
  exact ⟨rfl, below_grow w k os⟩
end Go.Proofs.YthnmfcjodobkbaaGreatDoor.Nb

namespace Go.Proofs.YthnmfcjodobkbaaGreatDoor.Nb
open Go Go.RowKit Go.Proofs

theorem row_kind {w : World} {B e : Nat} {v : Value} {n : Nat} {xs : List Value} (h : w.ownsRow B e 1 v n xs) : ∀ g, v.ownBlock = some g → ∃ c fz, w.heap[g]? = some (.cells c e fz) := by
  intro g hg
  rcases h.2 with ⟨hv, _⟩ | ⟨g', cap, cur, hv, hb, hh, _⟩
  · rw [hv] at hg; simp [Value.ownBlock] at hg
  · rw [hv] at hg
    simp [Value.ownBlock] at hg
    subst hg
    exact ⟨_, _, hh⟩
theorem check_k (B b : Nat) (bs : List Value) (w : World) (h : Lib.IsBuilder 44 5 B b bs w) :
    Calls Tryz.prog 29 #[.pointer (some ⟨b, 0, none⟩)] w fun e w' => e = .returned (.tuple #[]) ∧ (Lib.BuilderAt 44 5 B b (.pointer (some ⟨b, 0, none⟩)) bs w' ∧ Below B w w' ∧ Lib.OthersKept 5 (some b) w w') := by
  rcases h with h | h
  · refine (check_fresh b w h.cell0 h.shape h.frozen0).mono ?_
    rintro e w' ⟨rfl, rfl⟩
    exact ⟨rfl, h.used _, (Below.refl B w).setCell (p := ⟨b, 0, none⟩) h.1 _, (Lib.OthersKept.refl _ _ w).setCell ⟨b, 0, none⟩ rfl _⟩
  · refine (check_used b w h.cell0).mono ?_
    rintro e w' ⟨rfl, rfl⟩
    exact ⟨rfl, h, Below.refl B _, Lib.OthersKept.refl _ _ _⟩

set_option maxHeartbeats 2000000 in
set_option maxRecDepth 100000 in
theorem writeByte_k (B b : Nat) (bs : List Value) (c : Int) (w : World) (h : Lib.IsBuilder 44 5 B b bs w) (hlen : bs.length + 1 ≤ 140737488355328) (hBw : B ≤ w.heap.size) :
    Calls Tryz.prog 14 #[.pointer (some ⟨b, 0, none⟩), .int .u8 c] w fun e w' => e = .returned .nilIface ∧ (Lib.BuilderAt 44 5 B b (.pointer (some ⟨b, 0, none⟩)) (bs ++ [.int .u8 c]) w' ∧ Below B w w' ∧ Lib.OthersKept 5 (some b) w w') := by
  obtain ⟨i0, hi, hz0, hz1, hz2⟩ := info_parts infoU
  have HK := Lib.hid (check_k B b bs w h)
  clear h
  go_enter Tryz.func14, Tryz.ntmps14
  go_wp2_with fail
  refine HK.out.mono ?_
  rintro e w1 ⟨rfl, h1, hb1, hk1⟩
  obtain ⟨hB, v, hbk, hown, hne⟩ := h1
  have c0 : w1.cell? ⟨b, 0, none⟩ = some (.pointer (some ⟨b, 0, none⟩)) := by rw [Lib.cell_of_heap hbk]; rfl
  have c1 : w1.cell? ⟨b, 1, none⟩ = some v := by rw [Lib.cell_of_heap hbk]; rfl
  go_wp2_with (at_builtin; refine wpList_append_own _ rfl _ _ 42 rfl B 5 i0 (.int .u8 0) 1 1 undBS hi hz0 hz1 hz2 rfl (by decide) _ _ _ rfl (hown.alloc _) ⟨w1.heap.size, 0, none⟩ 1 1 [.int .u8 c] rfl rfl ?c1 ?c2 ?c3 ?c4 ?c5 ?_)
  case c1 =>
    intro j u hj
    match j, hj with
    | 0, hj => simp at hj; subst hj; simp [Addr.add]
  case c2 => intro u hu; simp at hu; subst hu; rfl
  case c3 => unfold maxLen; omega
  case c4 => omega
  case c5 => have := hb1.size; simp; omega
  intro v' w2 hown' hgrow _
  have hlt : b < w1.heap.size := by
    rcases Nat.lt_or_ge b w1.heap.size with h' | h'
    · exact h'
    · simp [Array.getElem?_eq_none h'] at hbk
  have hb2 : w2.heap[b]? = some (.cells #[.pointer (some ⟨b, 0, none⟩), v] 44 (0, 0)) := by
    rw [hgrow.block b (by simp; omega) (fun e => hne e.symm), Lib.alloc_old w1 _ b hlt]
    exact hbk
  have d0 : w2.cell? ⟨b, 0, none⟩ = some (.pointer (some ⟨b, 0, none⟩)) := by rw [Lib.cell_of_heap hb2]; rfl
  have d1 : w2.cell? ⟨b, 1, none⟩ = some v := by rw [Lib.cell_of_heap hb2]; rfl
  have f1 : w2.frozen? ⟨b, 1, none⟩ = false := Lib.frozen_of_heap hb2 1
  obtain ⟨g, cap, rfl⟩ : ∃ g cap, v' = .slice (some ⟨g, 0, none⟩) (bs.length + 1) cap := by
    rcases hown'.2 with ⟨_, h0⟩ | ⟨g, cap, cur, hv, _⟩
    · omega
    · exact ⟨g, cap, hv⟩
  go_wp2_with fail
  go_ret
  refine ⟨rfl, ?_, ?_, ((hk1.alloc _).grown hgrow (row_kind (hown.alloc _))).setCell ⟨b, 1, none⟩ rfl _⟩
  · exact Lib.BuilderAt.put (T := 44) (e := 5) hB hb2 (bs' := bs ++ [.int .u8 c]) (by simpa using hown') (by decide)
  · exact ((hb1.alloc (by have := hb1.size; omega) _).grown hgrow (by have := hb1.size; simp; omega) (fun k hk => (hown.lt k hk).1)).setCell (p := ⟨b, 1, none⟩) hB _

set_option maxHeartbeats 2000000 in
set_option maxRecDepth 100000 in
theorem writeString_k (B b : Nat) (bs : List Value) (s : ByteArray) (w : World) (h : Lib.IsBuilder 44 5 B b bs w) (hlen : bs.length + s.size ≤ 140737488355328) (hBw : B ≤ w.heap.size) :
    Calls Tryz.prog 15 #[.pointer (some ⟨b, 0, none⟩), .string s] w fun e w' => e = .returned (.tuple #[.int .i64 s.size, .nilIface]) ∧ (Lib.BuilderAt 44 5 B b (.pointer (some ⟨b, 0, none⟩)) (bs ++ Lib.strCells s) w' ∧ Below B w w' ∧ Lib.OthersKept 5 (some b) w w') := by
  obtain ⟨i0, hi, hz0, hz1, hz2⟩ := info_parts infoU
  have HK := Lib.hid (check_k B b bs w h)
  clear h
  go_enter Tryz.func15, Tryz.ntmps15
  go_wp2_with fail
  refine HK.out.mono ?_
  rintro e w1 ⟨rfl, h1, hb1, hk1⟩
  obtain ⟨hB, v, hbk, hown, hne⟩ := h1
  have c0 : w1.cell? ⟨b, 0, none⟩ = some (.pointer (some ⟨b, 0, none⟩)) := by rw [Lib.cell_of_heap hbk]; rfl
  have c1 : w1.cell? ⟨b, 1, none⟩ = some v := by rw [Lib.cell_of_heap hbk]; rfl
  go_wp2_with (at_builtin; refine Lib.wpList_append_own_string _ rfl _ _ 42 9 rfl B 5 i0 undBS undStr hi hz0 hz1 hz2 _ _ _ rfl hown s rfl ?c3 ?c4 ?c5 ?_)
  case c3 => unfold maxLen; omega
  case c4 => omega
  case c5 => have := hb1.size; omega
  intro v' w2 hown' hgrow _
  have hlt : b < w1.heap.size := by
    rcases Nat.lt_or_ge b w1.heap.size with h' | h'
    · exact h'
    · simp [Array.getElem?_eq_none h'] at hbk
  have hb2 : w2.heap[b]? = some (.cells #[.pointer (some ⟨b, 0, none⟩), v] 44 (0, 0)) := by
    rw [hgrow.block b hlt (fun e => hne e.symm)]
    exact hbk
  have d0 : w2.cell? ⟨b, 0, none⟩ = some (.pointer (some ⟨b, 0, none⟩)) := by rw [Lib.cell_of_heap hb2]; rfl
  have d1 : w2.cell? ⟨b, 1, none⟩ = some v := by rw [Lib.cell_of_heap hb2]; rfl
  have f1 : w2.frozen? ⟨b, 1, none⟩ = false := Lib.frozen_of_heap hb2 1
  obtain ⟨ao, n', cap, rfl⟩ : ∃ ao n' cap, v' = .slice ao n' cap := by
    rcases hown'.2 with ⟨hv, _⟩ | ⟨g, cap, cur, hv, _⟩
    · exact ⟨_, _, _, hv⟩
    · exact ⟨_, _, _, hv⟩
  go_wp2_with fail
  go_ret2
  refine ⟨rfl, ?_, ?_, (hk1.grown hgrow (row_kind hown)).setCell ⟨b, 1, none⟩ rfl _⟩
  · exact Lib.BuilderAt.put (T := 44) (e := 5) hB hb2 (bs' := bs ++ Lib.strCells s) (by simpa [Lib.strCells_length] using hown') (by decide)
  · exact (hb1.grown hgrow (by have := hb1.size; omega) (fun k hk => (hown.lt k hk).1)).setCell (p := ⟨b, 1, none⟩) hB _

/-- a block that is neither the builder nor a row of bytes stands as it stood -/
theorem others_dec {w w' : World} {b d : Nat} {v0 v1 v2 : Value} (hk : Lib.OthersKept 5 (some b) w w') (hne : d ≠ b) (T : TypeId) (hT : T ≠ 5) (h : w.heap[d]? = some (.cells #[v0, v1, v2] T (0, 0))) : w'.heap[d]? = some (.cells #[v0, v1, v2] T (0, 0)) :=
  hk d _ h (by simpa using hne) (fun c fz e => by injection e with _ e2 _; exact hT e2)
theorem wbyte_k (B b : Nat) (l : List UInt8) (c : UInt8) (w : World) (h : Bld w B b l) (hl : l.length ≤ 100000) (hB : B ≤ w.heap.size) (x : Int) (hx : x = (c.toNat : Int)) :
    Calls Tryz.prog 14 #[.pointer (some ⟨b, 0, none⟩), .int .u8 x] w fun e w' => e = .returned .nilIface ∧ Bld w' B b (l ++ [c]) ∧ Below B w w' ∧ Lib.OthersKept 5 (some b) w w' := by
  subst hx
  refine (writeByte_k B b _ _ w h (by rw [Lib.byteCells_length]; omega) hB).mono ?_
  rintro e w' ⟨rfl, h1, h2, h3⟩
  refine ⟨rfl, .inr ?_, h2, h3⟩
  rw [← cells_app]
  exact h1
theorem wstring_k (B b : Nat) (l : List UInt8) (s : ByteArray) (w : World) (h : Bld w B b l) (hl : l.length ≤ 100000) (hs : s.size ≤ 1000000) (hB : B ≤ w.heap.size) :
    Calls Tryz.prog 15 #[.pointer (some ⟨b, 0, none⟩), .string s] w fun e w' => e = .returned (.tuple #[.int .i64 s.size, .nilIface]) ∧ Bld w' B b (l ++ s.data.toList) ∧ Below B w w' ∧ Lib.OthersKept 5 (some b) w w' := by
  refine (writeString_k B b _ s w h (by rw [Lib.byteCells_length]; omega) hB).mono ?_
  rintro e w' ⟨rfl, h1, h2, h3⟩
  refine ⟨rfl, .inr ?_, h2, h3⟩
  rw [← cells_app]
  exact h1
end Go.Proofs.YthnmfcjodobkbaaGreatDoor.Nb
