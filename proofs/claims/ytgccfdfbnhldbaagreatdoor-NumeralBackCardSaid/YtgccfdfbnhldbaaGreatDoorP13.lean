/- Y22 Y24 Y27 Y28 Y29 E4 E5 E9 E11 E13 E15 X4 X5 X6 BK4 E18 in one text. -/
import Derived.Test.YtgccfdfbnhldbaaGreatDoorP12
import Derived.StillTailTactics
import Derived.Laws.Externs
import Derived.Test.YtgccfdfbnhldbaaGreatDoorP05
import Derived.Deep.RegionHeld3
import Derived.WalkSmall
import Derived.Lib.OthersKept
import Derived.Test.YtgccfdfbnhldbaaGreatDoorP08
import Derived.Laws.BitsAllLaws
import Ieee.Arith
import GoSem.Core.Float
import Derived.Test.YtgccfdfbnhldbaaGreatDoorP11
import Derived.Lib.ParseIntB

namespace Go.Proofs.YtgccfdfbnhldbaaGreatDoor.Nb
open Go Go.RowKit

set_option maxRecDepth 8000 in
set_option maxHeartbeats 1000000 in
theorem setfrac_any (z b o b' o' p q : Nat) (neg : Bool) (w : World) (h : RSlot w z) (hx : IntN w b o neg p) (hy : IntN w b' o' false q) (hg : Nat.gcd p q = 1) (hn : neg = true → p ≠ 0) (h0 : 0 < q) :
    Calls Tryz.prog 150 #[.pointer (some ⟨z, 0, none⟩), .pointer (some ⟨b, o, none⟩), .pointer (some ⟨b', o', none⟩)] w (WroteR w z neg p q) := by
  obtain ⟨hb, h2, A, k, c, h3, h4⟩ := hx
  obtain ⟨hb', h2', A', k', c', h3', h4'⟩ := hy
  have HM := Lib.hid (fun (W : World) (hW : Below w.heap.size w W) => ratmade_any z p q neg _ _ W (h.below hW (Nat.le_refl _)) (h4.below hW) (h4'.below hW) hg hn h0)
  have hz : z ≤ w.heap.size := Nat.le_of_lt h.1.1
  clear h4 h4' h
  have hcur : Below w.heap.size w w.drew := (Below.refl _ _).drew
  have e1 : (neg != false) = neg := by cases neg <;> rfl
  go_enter Tryz.func150, Tryz.ntmps150
  go_wp2_with fail
  go_still_tail 18, (by kernel_rfl)
  change wpList _ _ _ _ _ w.drew
  go_wp2_with fail
  refine (HM.out _ hcur).mono ?_
  rintro e w1 h
  have HF := Lib.hid (h.after (hcur.mono hz))
  obtain ⟨rfl, -⟩ := h
  go_wp2_with fail
  go_ret
  exact HF.out

/-- raw, and what lies where then -/
def put2 (w : World) (z : Nat) (neg : Bool) (v v' : Value) : World := put (put w z 0 neg v) z 2 false v'
theorem put2_cell {w : World} {z b o : Nat} (neg : Bool) (v v' : Value) (h : b ≠ z) : (put2 w z neg v v').cell? ⟨b, o, none⟩ = w.cell? ⟨b, o, none⟩ := by
  unfold put2; rw [put_cell _ _ (.inl h), put_cell _ _ (.inl h)]
end Go.Proofs.YtgccfdfbnhldbaaGreatDoor.Nb

namespace Go.Proofs.YtgccfdfbnhldbaaGreatDoor.Nb
open Go Go.RowKit

set_option maxRecDepth 8000 in
theorem newrat_any (p q : Nat) (w : World) (hp : p ≤ 9223372036854775807) (hq : q ≤ 9223372036854775807) (hg : Nat.gcd p q = 1) (h0 : 0 < q) :
    Calls Tryz.prog 95 #[.int .i64 (p : Int), .int .i64 (q : Int)] w (NewR w false p q) := by
  have hA := (Below.refl w.heap.size w).alloc (Nat.le_refl _) (.cells #[.bool false, .slice none 0 0, .bool false, .slice none 0 0] 136)
  have HZ := Lib.hid (RSlot.new w 136)
  have HA := Lib.hid hA
  obtain ⟨W, hW⟩ : ∃ W, w.alloc (.cells #[.bool false, .slice none 0 0, .bool false, .slice none 0 0] 136) = W := ⟨_, rfl⟩
  rw [hW] at HZ HA
  clear hA
  go_enter Tryz.func95, Tryz.ntmps95
  go_wp2_with fail
  refine (newInt_any p W hp).mono ?_
  rintro e w1 ⟨b1, rfl, hb1, i1, -, c1⟩
  have H1 := Lib.hid (And.intro i1 c1)
  clear i1 c1
  go_wp2_with fail
  refine (newInt_any q w1 hq).mono ?_
  rintro e w2 ⟨b2, rfl, hb2, i2, -, c2⟩
  have H2 := Lib.hid (And.intro (H1.out.1.below c2 (Nat.le_refl _)) (And.intro i2 (back_of' H1.out.2 c2)))
  clear i2 c2
  go_wp2_with fail
  refine (setfrac_any w.heap.size b1 0 b2 0 p q false w2 (HZ.out.below H2.out.2.2 (Nat.le_refl _)) H2.out.1 H2.out.2.1 hg (by simp) h0).mono ?_
  rintro e w3 ⟨rfl, h1, h2, h3⟩
  have HF := Lib.hid (And.intro h1 (And.intro h2 ((HA.out.trans (H2.out.2.2.mono HA.out.size)).trans h3)))
  clear h1 h2 h3
  go_wp2_with fail
  go_ret
  exact ⟨_, rfl, Nat.le_refl _, HF.out⟩

end Go.Proofs.YtgccfdfbnhldbaaGreatDoor.Nb

namespace Go.Proofs.YtgccfdfbnhldbaaGreatDoor.Nb
open Go Go.RowKit

theorem quiet_under {P : Program} {f : FuncId} {args : Array Value} {w : World} {a : Nat} {v : Value}
    (h : Calls P f args (w.drewN a) fun e w' => e = .returned v ∧ w' = w.drewN a) :
    Calls P f args (w.drewN a) fun e w'' => e = .returned v ∧ ∃ m, w'' = w.drewN m :=
  h.mono fun _ _ ⟨h1, h2⟩ => ⟨h1, a, h2⟩

end Go.Proofs.YtgccfdfbnhldbaaGreatDoor.Nb

namespace Go.Proofs.YtgccfdfbnhldbaaGreatDoor.Nb
open Go Go.RowKit

theorem run_frombits (n : Int) (w : World) : Sem.run Tryz.prog (callFunc 4 #[.int .u64 n]) w = .ok (.value (.float .f64 n.toNat)) w :=
  (run_callFunc_extern (e := Extern.MathFloatBits.float64frombits) Tryz.func4 (by kernel_rfl) (by kernel_rfl) (by kernel_rfl) (by kernel_rfl) _ _).trans rfl
theorem len_bits (n k : Nat) (w : World) (h : n < 18446744073709551616) (hk : Lib.bitLen n = k) : Calls Tryz.prog 30 #[.int .u64 (n : Int)] w fun e w' => e = .returned (.int .i64 (k : Int)) ∧ w' = w := by
  rw [← hk]
  exact Tryz.bits_Len64 n w (by omega) (by omega)

end Go.Proofs.YtgccfdfbnhldbaaGreatDoor.Nb

namespace Go.Proofs.YtgccfdfbnhldbaaGreatDoor.Nb
open Go Go.RowKit

theorem gcd_one (n : Nat) : Nat.gcd 1 n = 1 := by simp

end Go.Proofs.YtgccfdfbnhldbaaGreatDoor.Nb

namespace Go.Proofs.YtgccfdfbnhldbaaGreatDoor.Nb
open Go Go.RowKit

theorem Kept.put2 {w w' : World} {z : Nat} (h : Kept w w' z) (neg : Bool) (v v' : Value) : Kept w (Nb.put2 w' z neg v v') z := by
  unfold Nb.put2 Nb.put
  exact (((h.setCell _).setCell _).setCell _).setCell _
theorem ISlot.kept {w w' : World} {b o c : Nat} (h : ISlot w b o) (k : Kept w w' c) (hne : b ≠ c) : ISlot w' b o := by
  obtain ⟨h1, ⟨neg, h2⟩, ⟨A, l, d, h3⟩, h4, h5⟩ := h
  exact ⟨Nat.lt_of_lt_of_le h1 k.size, ⟨neg, (k.cell (p := ⟨b, o, none⟩) h1 hne).trans h2⟩, ⟨A, l, d, (k.cell (p := ⟨b, o + 1, none⟩) h1 hne).trans h3⟩, (k.frozen (p := ⟨b, o, none⟩) h1 hne).trans h4, (k.frozen (p := ⟨b, o + 1, none⟩) h1 hne).trans h5⟩
theorem RSlot.kept {w w' : World} {b c : Nat} (h : RSlot w b) (k : Kept w w' c) (hne : b ≠ c) : RSlot w' b := ⟨h.1.kept k hne, h.2.kept k hne⟩

end Go.Proofs.YtgccfdfbnhldbaaGreatDoor.Nb

namespace Go.Proofs.YtgccfdfbnhldbaaGreatDoor.Nb
open Go Go.RowKit

theorem run_bits (n : Nat) (w : World) : Sem.run Tryz.prog (callFunc 53 #[.float .f64 n]) w = .ok (.value (.int .u64 (n : Int))) w :=
  (run_callFunc_extern (e := Extern.MathFloatBits.float64bits) Tryz.func53 (by kernel_rfl) (by kernel_rfl) (by kernel_rfl) (by kernel_rfl) _ _).trans rfl
set_option maxRecDepth 8000 in
theorem abs_pos (n : Nat) (w : World) (h : bits .andNot .u64 (n : Int) 9223372036854775808 = (n : Int)) : Calls Tryz.prog 40 #[.float .f64 n] w fun e w' => e = .returned (.float .f64 n) ∧ w' = w := by
  have hb := run_bits n w
  have hf := run_frombits (n : Int) w
  go_enter Tryz.func40, Tryz.ntmps40
  go_wp2_with fail
  go_ret
  exact ⟨rfl, rfl⟩
end Go.Proofs.YtgccfdfbnhldbaaGreatDoor.Nb

namespace Go.Proofs.YtgccfdfbnhldbaaGreatDoor.Nb
open Go Go.RowKit

/-- the format of doubles lies in block b -/
def Fmt (w : World) (b : Nat) : Prop := w.cell? ⟨b, 0, none⟩ = some (.int .u64 52) ∧ w.cell? ⟨b, 1, none⟩ = some (.int .i64 2047) ∧ w.cell? ⟨b, 2, none⟩ = some (.int .i64 1075) ∧ b < w.heap.size
theorem Fmt.below {w w' : World} {b : Nat} (h : Fmt w b) (k : Below w.heap.size w w') : Fmt w' b :=
  ⟨(k.cell (p := ⟨b, 0, none⟩) h.2.2.2).trans h.1, (k.cell (p := ⟨b, 1, none⟩) h.2.2.2).trans h.2.1, (k.cell (p := ⟨b, 2, none⟩) h.2.2.2).trans h.2.2.1, Nat.lt_of_lt_of_le h.2.2.2 k.size⟩
theorem Fmt.new (w : World) (t : TypeId) : Fmt (w.alloc (.cells #[.int .u64 52, .int .i64 2047, .int .i64 1075] t)) w.heap.size := ⟨by simp [go_sem], by simp [go_sem], by simp [go_sem], by simp⟩

set_option maxRecDepth 8000 in
theorem hidden_f (w : World) : Calls Tryz.prog 128 #[(.agg #[.int .u64 52, .int .i64 2047, .int .i64 1075])] w fun e w' => e = .returned (.int .u64 4503599627370496) ∧ Below w.heap.size w w' := by
  go_enter Tryz.func128, Tryz.ntmps128
  go_wp2_with fail
  go_ret
  exact ⟨rfl, (Below.refl _ _).alloc (Nat.le_refl _) _⟩

end Go.Proofs.YtgccfdfbnhldbaaGreatDoor.Nb

namespace Go.Proofs.YtgccfdfbnhldbaaGreatDoor.Nb
open Go Go.RowKit

/-- the builder in block b, of a base B, holds these bytes -/
def Bld (w : World) (B b : Nat) (l : List UInt8) : Prop := Lib.IsBuilder 106 5 B b (Lib.byteCells l) w
theorem bat_below {w w' : World} {B b : Nat} {p : Value} {bs : List Value} (h : Lib.BuilderAt 106 5 B b p bs w) (k : Below w.heap.size w w') : Lib.BuilderAt 106 5 B b p bs w' := by
  have hl := h.lt
  obtain ⟨hB, v, hb, hown, hne⟩ := h
  exact ⟨hB, v, (k.block b hl).trans hb, hown.kept (row := none) ⟨k.os, k.tape, k.output, k.size, fun i hi _ => k.block i hi⟩ (Classical.em _), hne⟩
theorem Bld.below {w w' : World} {B b : Nat} {l : List UInt8} (h : Bld w B b l) (k : Below w.heap.size w w') : Bld w' B b l := by
  rcases h with h | h
  · exact .inl (bat_below h k)
  · exact .inr (bat_below h k)
theorem Bld.lt {w : World} {B b : Nat} {l : List UInt8} (h : Bld w B b l) : b < w.heap.size := by
  rcases h with h | h
  · exact h.lt
  · exact h.lt
theorem Bld.new (w : World) : Bld (w.alloc (.cells #[.pointer none, .slice none 0 0] 106)) w.heap.size w.heap.size [] := Lib.fresh_isBuilder _ _ w
theorem cells_app (l m : List UInt8) : Lib.byteCells l ++ Lib.byteCells m = Lib.byteCells (l ++ m) := by simp [Lib.byteCells]
/-- WriteByte, WriteString, String by the bytes -/
theorem wbyte (B b : Nat) (l : List UInt8) (c : UInt8) (w : World) (h : Bld w B b l) (hl : l.length ≤ 100000) (hB : B ≤ w.heap.size) (x : Int) (hx : x = (c.toNat : Int)) :
    Calls Tryz.prog 31 #[.pointer (some ⟨b, 0, none⟩), .int .u8 x] w fun e w' => e = .returned .nilIface ∧ Bld w' B b (l ++ [c]) ∧ Below B w w' := by
  subst hx
  refine (writeByte_any B b _ _ w h (by rw [Lib.byteCells_length]; omega) hB).mono ?_
  rintro e w' ⟨rfl, h1, h2⟩
  refine ⟨rfl, .inr ?_, h2⟩
  rw [← cells_app]
  exact h1
theorem wstring (B b : Nat) (l : List UInt8) (s : ByteArray) (w : World) (h : Bld w B b l) (hl : l.length ≤ 100000) (hs : s.size ≤ 1000000) (hB : B ≤ w.heap.size) :
    Calls Tryz.prog 28 #[.pointer (some ⟨b, 0, none⟩), .string s] w fun e w' => e = .returned (.tuple #[.int .i64 s.size, .nilIface]) ∧ Bld w' B b (l ++ s.data.toList) ∧ Below B w w' := by
  refine (writeString_any B b _ s w h (by rw [Lib.byteCells_length]; omega) hB).mono ?_
  rintro e w' ⟨rfl, h1, h2⟩
  refine ⟨rfl, .inr ?_, h2⟩
  rw [← cells_app]
  exact h1
theorem bstring (B b : Nat) (l : List UInt8) (w : World) (h : Bld w B b l) (hB : B ≤ w.heap.size) :
    Calls Tryz.prog 29 #[.pointer (some ⟨b, 0, none⟩)] w fun e w' => e = .returned (.string ⟨l.toArray⟩) ∧ Below B w w' := Tryz.Builder_String_any B b l w h hB

/-- the table of powers of 10 lies in its variable -/
def TabP (w : World) : Prop := Lib.TabIs Tryz.prog w "internal/strconv.uint64pow10" .u64 Lib.pow10Tab ∧ 5 < w.heap.size
theorem gPow : Tryz.prog.globalNamed "internal/strconv.uint64pow10" = some 5 := by kernel_rfl
theorem TabP.below {w w' : World} {B : Nat} (h : TabP w) (k : Below B w w') (hB : 5 < B) : TabP w' :=
  ⟨var?_below k gPow hB h.1, Nat.lt_of_lt_of_le h.2 k.size⟩
theorem below_grow (w : World) (k : Nat) (os : Array Obj) : Below w.heap.size w (Go.Sort.grow (w.drewN k) os) :=
  ⟨rfl, rfl, rfl, by show w.heap.size ≤ (w.heap ++ os).size; rw [Array.size_append]; omega, fun j hj => by
    show (w.heap ++ os)[j]? = w.heap[j]?
    rw [Array.getElem?_append_left hj]⟩
theorem itoa_any (n : Int) (w : World) (h0 : -9223372036854775808 ≤ n) (h1 : n ≤ 9223372036854775807) (hP : TabP w) :
    Calls Tryz.prog 32 #[.int .i64 n] w fun e w' => e = .returned (.string ⟨(Lib.itoa n).toArray⟩) ∧ Below w.heap.size w w' := by
  refine (Tryz.strconv_Itoa n h0 h1 w hP.1).mono ?_
  rintro e w' ⟨rfl, k, os, rfl⟩
  exact ⟨rfl, below_grow w k os⟩
theorem formatInt_any (n : Int) (w : World) (h0 : -9223372036854775808 ≤ n) (h1 : n ≤ 9223372036854775807) (hP : TabP w) :
    Calls Tryz.prog 115 #[.int .i64 n, .int .i64 10] w fun e w' => e = .returned (.string ⟨(Lib.itoa n).toArray⟩) ∧ Below w.heap.size w w' := by
  refine (Tryz.strconv_FormatInt_10 n h0 h1 w hP.1).mono ?_
  rintro e w' ⟨rfl, k, os, rfl⟩
  exact ⟨rfl, below_grow w k os⟩
end Go.Proofs.YtgccfdfbnhldbaaGreatDoor.Nb

namespace Go.Proofs.YtgccfdfbnhldbaaGreatDoor.Nb
open Go Go.RowKit Go.Proofs

theorem row_kind {w : World} {B e : Nat} {v : Value} {n : Nat} {xs : List Value} (h : w.ownsRow B e 1 v n xs) : ∀ g, v.ownBlock = some g → ∃ c fz, w.heap[g]? = some (.cells c e fz) := by
  intro g hg
  rcases h.2 with ⟨hv, _⟩ | ⟨g', cap, cur, hv, hb, hh, _⟩
  · rw [hv] at hg; simp [Value.ownBlock] at hg
  · rw [hv] at hg
    simp [Value.ownBlock] at hg
    subst hg
    exact ⟨_, _, hh⟩
theorem check_k (B b : Nat) (bs : List Value) (w : World) (h : Lib.IsBuilder 106 5 B b bs w) :
    Calls Tryz.prog 75 #[.pointer (some ⟨b, 0, none⟩)] w fun e w' => e = .returned (.tuple #[]) ∧ (Lib.BuilderAt 106 5 B b (.pointer (some ⟨b, 0, none⟩)) bs w' ∧ Below B w w' ∧ Lib.OthersKept 5 (some b) w w') := by
  rcases h with h | h
  · refine (check_fresh b w h.cell0 h.shape h.frozen0).mono ?_
    rintro e w' ⟨rfl, rfl⟩
    exact ⟨rfl, h.used _, (Below.refl B w).setCell (p := ⟨b, 0, none⟩) h.1 _, (Lib.OthersKept.refl _ _ w).setCell ⟨b, 0, none⟩ rfl _⟩
  · refine (check_used b w h.cell0).mono ?_
    rintro e w' ⟨rfl, rfl⟩
    exact ⟨rfl, h, Below.refl B _, Lib.OthersKept.refl _ _ _⟩

set_option maxHeartbeats 2000000 in
set_option maxRecDepth 100000 in
theorem writeByte_k (B b : Nat) (bs : List Value) (c : Int) (w : World) (h : Lib.IsBuilder 106 5 B b bs w) (hlen : bs.length + 1 ≤ 140737488355328) (hBw : B ≤ w.heap.size) :
    Calls Tryz.prog 31 #[.pointer (some ⟨b, 0, none⟩), .int .u8 c] w fun e w' => e = .returned .nilIface ∧ (Lib.BuilderAt 106 5 B b (.pointer (some ⟨b, 0, none⟩)) (bs ++ [.int .u8 c]) w' ∧ Below B w w' ∧ Lib.OthersKept 5 (some b) w w') := by
  obtain ⟨i0, hi, hz0, hz1, hz2⟩ := info_parts infoU
  have HK := Lib.hid (check_k B b bs w h)
  clear h
  go_enter Tryz.func31, Tryz.ntmps31
  go_wp2_with fail
  refine HK.out.mono ?_
  rintro e w1 ⟨rfl, h1, hb1, hk1⟩
  obtain ⟨hB, v, hbk, hown, hne⟩ := h1
  have c0 : w1.cell? ⟨b, 0, none⟩ = some (.pointer (some ⟨b, 0, none⟩)) := by rw [Lib.cell_of_heap hbk]; rfl
  have c1 : w1.cell? ⟨b, 1, none⟩ = some v := by rw [Lib.cell_of_heap hbk]; rfl
  go_wp2_with (at_builtin; refine wpList_append_own _ rfl _ _ 104 rfl B 5 i0 (.int .u8 0) 1 1 undBS hi hz0 hz1 hz2 rfl (by decide) _ _ _ rfl (hown.alloc _) ⟨w1.heap.size, 0, none⟩ 1 1 [.int .u8 c] rfl rfl ?c1 ?c2 ?c3 ?c4 ?c5 ?_)
  case c1 =>
    intro j u hj
    match j, hj with
    | 0, hj => simp at hj; subst hj; simp [Addr.add]
  case c2 => intro u hu; simp at hu; subst hu; rfl
  case c3 => unfold maxLen; omega
  case c4 => omega
  case c5 => have := hb1.size; simp; omega
  intro v' w2 hown' hgrow _
  have hlt : b < w1.heap.size := by
    rcases Nat.lt_or_ge b w1.heap.size with h' | h'
    · exact h'
    · simp [Array.getElem?_eq_none h'] at hbk
  have hb2 : w2.heap[b]? = some (.cells #[.pointer (some ⟨b, 0, none⟩), v] 106 (0, 0)) := by
    rw [hgrow.block b (by simp; omega) (fun e => hne e.symm), Lib.alloc_old w1 _ b hlt]
    exact hbk
  have d0 : w2.cell? ⟨b, 0, none⟩ = some (.pointer (some ⟨b, 0, none⟩)) := by rw [Lib.cell_of_heap hb2]; rfl
  have d1 : w2.cell? ⟨b, 1, none⟩ = some v := by rw [Lib.cell_of_heap hb2]; rfl
  have f1 : w2.frozen? ⟨b, 1, none⟩ = false := Lib.frozen_of_heap hb2 1
  obtain ⟨g, cap, rfl⟩ : ∃ g cap, v' = .slice (some ⟨g, 0, none⟩) (bs.length + 1) cap := by
    rcases hown'.2 with ⟨_, h0⟩ | ⟨g, cap, cur, hv, _⟩
    · omega
    · exact ⟨g, cap, hv⟩
  go_wp2_with fail
  go_ret
  refine ⟨rfl, ?_, ?_, ((hk1.alloc _).grown hgrow (row_kind (hown.alloc _))).setCell ⟨b, 1, none⟩ rfl _⟩
  · exact Lib.BuilderAt.put (T := 106) (e := 5) hB hb2 (bs' := bs ++ [.int .u8 c]) (by simpa using hown') (by decide)
  · exact ((hb1.alloc (by have := hb1.size; omega) _).grown hgrow (by have := hb1.size; simp; omega) (fun k hk => (hown.lt k hk).1)).setCell (p := ⟨b, 1, none⟩) hB _

set_option maxHeartbeats 2000000 in
set_option maxRecDepth 100000 in
theorem writeString_k (B b : Nat) (bs : List Value) (s : ByteArray) (w : World) (h : Lib.IsBuilder 106 5 B b bs w) (hlen : bs.length + s.size ≤ 140737488355328) (hBw : B ≤ w.heap.size) :
    Calls Tryz.prog 28 #[.pointer (some ⟨b, 0, none⟩), .string s] w fun e w' => e = .returned (.tuple #[.int .i64 s.size, .nilIface]) ∧ (Lib.BuilderAt 106 5 B b (.pointer (some ⟨b, 0, none⟩)) (bs ++ Lib.strCells s) w' ∧ Below B w w' ∧ Lib.OthersKept 5 (some b) w w') := by
  obtain ⟨i0, hi, hz0, hz1, hz2⟩ := info_parts infoU
  have HK := Lib.hid (check_k B b bs w h)
  clear h
  go_enter Tryz.func28, Tryz.ntmps28
  go_wp2_with fail
  refine HK.out.mono ?_
  rintro e w1 ⟨rfl, h1, hb1, hk1⟩
  obtain ⟨hB, v, hbk, hown, hne⟩ := h1
  have c0 : w1.cell? ⟨b, 0, none⟩ = some (.pointer (some ⟨b, 0, none⟩)) := by rw [Lib.cell_of_heap hbk]; rfl
  have c1 : w1.cell? ⟨b, 1, none⟩ = some v := by rw [Lib.cell_of_heap hbk]; rfl
  go_wp2_with (at_builtin; refine Lib.wpList_append_own_string _ rfl _ _ 104 9 rfl B 5 i0 undBS undStr hi hz0 hz1 hz2 _ _ _ rfl hown s rfl ?c3 ?c4 ?c5 ?_)
  case c3 => unfold maxLen; omega
  case c4 => omega
  case c5 => have := hb1.size; omega
  intro v' w2 hown' hgrow _
  have hlt : b < w1.heap.size := by
    rcases Nat.lt_or_ge b w1.heap.size with h' | h'
    · exact h'
    · simp [Array.getElem?_eq_none h'] at hbk
  have hb2 : w2.heap[b]? = some (.cells #[.pointer (some ⟨b, 0, none⟩), v] 106 (0, 0)) := by
    rw [hgrow.block b hlt (fun e => hne e.symm)]
    exact hbk
  have d0 : w2.cell? ⟨b, 0, none⟩ = some (.pointer (some ⟨b, 0, none⟩)) := by rw [Lib.cell_of_heap hb2]; rfl
  have d1 : w2.cell? ⟨b, 1, none⟩ = some v := by rw [Lib.cell_of_heap hb2]; rfl
  have f1 : w2.frozen? ⟨b, 1, none⟩ = false := Lib.frozen_of_heap hb2 1
  obtain ⟨ao, n', cap, rfl⟩ : ∃ ao n' cap, v' = .slice ao n' cap := by
    rcases hown'.2 with ⟨hv, _⟩ | ⟨g, cap, cur, hv, _⟩
    · exact ⟨_, _, _, hv⟩
    · exact ⟨_, _, _, hv⟩
  go_wp2_with fail
  go_ret2
  refine ⟨rfl, ?_, ?_, (hk1.grown hgrow (row_kind hown)).setCell ⟨b, 1, none⟩ rfl _⟩
  · exact Lib.BuilderAt.put (T := 106) (e := 5) hB hb2 (bs' := bs ++ Lib.strCells s) (by simpa [Lib.strCells_length] using hown') (by decide)
  · exact (hb1.grown hgrow (by have := hb1.size; omega) (fun k hk => (hown.lt k hk).1)).setCell (p := ⟨b, 1, none⟩) hB _

/-- a block that is neither the builder nor a row of bytes stands as it stood -/
theorem others_dec {w w' : World} {b d : Nat} {v0 v1 v2 : Value} (hk : Lib.OthersKept 5 (some b) w w') (hne : d ≠ b) (T : TypeId) (hT : T ≠ 5) (h : w.heap[d]? = some (.cells #[v0, v1, v2] T (0, 0))) : w'.heap[d]? = some (.cells #[v0, v1, v2] T (0, 0)) :=
  hk d _ h (by simpa using hne) (fun c fz e => by injection e with _ e2 _; exact hT e2)
theorem wbyte_k (B b : Nat) (l : List UInt8) (c : UInt8) (w : World) (h : Bld w B b l) (hl : l.length ≤ 100000) (hB : B ≤ w.heap.size) (x : Int) (hx : x = (c.toNat : Int)) :
    Calls Tryz.prog 31 #[.pointer (some ⟨b, 0, none⟩), .int .u8 x] w fun e w' => e = .returned .nilIface ∧ Bld w' B b (l ++ [c]) ∧ Below B w w' ∧ Lib.OthersKept 5 (some b) w w' := by
  subst hx
  refine (writeByte_k B b _ _ w h (by rw [Lib.byteCells_length]; omega) hB).mono ?_
  rintro e w' ⟨rfl, h1, h2, h3⟩
  refine ⟨rfl, .inr ?_, h2, h3⟩
  rw [← cells_app]
  exact h1
theorem wstring_k (B b : Nat) (l : List UInt8) (s : ByteArray) (w : World) (h : Bld w B b l) (hl : l.length ≤ 100000) (hs : s.size ≤ 1000000) (hB : B ≤ w.heap.size) :
    Calls Tryz.prog 28 #[.pointer (some ⟨b, 0, none⟩), .string s] w fun e w' => e = .returned (.tuple #[.int .i64 s.size, .nilIface]) ∧ Bld w' B b (l ++ s.data.toList) ∧ Below B w w' ∧ Lib.OthersKept 5 (some b) w w' := by
  refine (writeString_k B b _ s w h (by rw [Lib.byteCells_length]; omega) hB).mono ?_
  rintro e w' ⟨rfl, h1, h2, h3⟩
  refine ⟨rfl, .inr ?_, h2, h3⟩
  rw [← cells_app]
  exact h1
end Go.Proofs.YtgccfdfbnhldbaaGreatDoor.Nb

namespace Go.Proofs.YtgccfdfbnhldbaaGreatDoor.Nb
open Go Go.RowKit

/-- a time's text without its sign -/
def bodyL (T : Nat) : List UInt8 := Lib.decDigits (T / 1000000) ++ (46 :: Nt.six (T % 1000000))
theorem nDig_le : ∀ (k n : Nat), n < 10 ^ k → 0 < k → Lib.nDigits n ≤ k := by
  intro k
  induction k with
  | zero => intro n _ h; omega
  | succ k ih =>
    intro n hn _
    by_cases c : n < 10
    · rw [Lib.nDigits_small c]; omega
    · rw [Lib.nDigits_big c]
      rcases Nat.eq_zero_or_pos k with q | q
      · subst q; simp at hn; omega
      · have := ih (n / 10) (by rw [Nat.pow_succ] at hn; omega) q
        omega
theorem dec_len (n : Nat) (h : n < 10 ^ 19) : (Lib.decDigits n).length ≤ 19 := by
  rw [Lib.decDigits_eq]
  simpa using nDig_le 19 n h (by omega)
theorem itoa_nat (n : Nat) : Lib.itoa (n : Int) = Lib.decDigits n := by
  unfold Lib.itoa
  rw [if_neg (by omega)]
  simp
theorem six_len (r : Nat) : (Nt.six r).length = 6 := by simp [Nt.six]
theorem cut_one (l : List UInt8) (S : ByteArray) (h : S = ⟨(49 :: l).toArray⟩) : S.extract 1 S.size = ⟨l.toArray⟩ := by
  subst h
  apply ByteArray.ext
  simp only [ByteArray.data_extract]
  have hs : (⟨(49 :: l).toArray⟩ : ByteArray).size = l.length + 1 := by show (49 :: l).toArray.size = _; simp
  rw [hs]
  simp
/-- the parts of a time, by letters -/
structure TimeP (T q r s : Nat) (QS S D : ByteArray) : Prop where
  hq : T / 1000000 = q
  hr : T % 1000000 = r
  hs : 1000000 + r = s
  hQS : (⟨(Lib.itoa (q : Int)).toArray⟩ : ByteArray) = QS
  hS : (⟨(Lib.itoa (s : Int)).toArray⟩ : ByteArray) = S
  hD : S.extract 1 S.size = D
  hl : (1 : Int) ≤ (S.size : Int)
  lq : QS.size ≤ 1000000
  ld : D.size ≤ 1000000
  lQ : QS.data.toList.length ≤ 19
  he : QS.data.toList ++ (46 :: D.data.toList) = bodyL T
theorem time_parts (T : Nat) (hT : T ≤ 1125899906842624) : ∃ q r s QS S D, TimeP T q r s QS S D := by
  have hr : T % 1000000 < 1000000 := Nat.mod_lt _ (by omega)
  have hS : (⟨(Lib.itoa ((1000000 + T % 1000000 : Nat) : Int)).toArray⟩ : ByteArray) = ⟨(49 :: Nt.six (T % 1000000)).toArray⟩ := by rw [itoa_nat, Nt.six_million hr]
  have hD := cut_one _ _ hS
  have hq : (Lib.decDigits (T / 1000000)).length ≤ 19 := dec_len _ (by omega)
  refine ⟨_, _, _, _, _, _, rfl, rfl, rfl, rfl, rfl, rfl, ?_, ?_, ?_, ?_, ?_⟩
  · rw [hS]; show (1 : Int) ≤ (((49 :: Nt.six (T % 1000000)).toArray.size : Nat) : Int); simp; omega
  · show (Lib.itoa _).toArray.size ≤ _; rw [itoa_nat]; simp; omega
  · rw [hD]; show (Nt.six _).toArray.size ≤ _; simp [six_len]
  · show (Lib.itoa _).toArray.toList.length ≤ _; rw [itoa_nat]; simpa using hq
  · rw [hD]; show (Lib.itoa _).toArray.toList ++ (46 :: (Nt.six _).toArray.toList) = _; rw [itoa_nat]; rfl

set_option maxRecDepth 8000 in
set_option maxHeartbeats 1000000 in
theorem time_pos (T : Nat) (w : World) (hT : T ≤ 1125899906842624) (hP : TabP w) :
    Calls Tryz.prog 57 #[.int .i64 (T : Int)] w fun e w' => e = .returned (.tuple #[.string ⟨(bodyL T).toArray⟩, .int .i64 0]) ∧ Below w.heap.size w w' := by
  have hA := (Below.refl w.heap.size w).alloc (Nat.le_refl _) (.cells #[.pointer none, .slice none 0 0] 106)
  have HB := Lib.hid (And.intro (Bld.new w) hA)
  have HP := Lib.hid hP
  have HP0 := Lib.hid (hP.below hA hP.2)
  obtain ⟨q, r, s, QS, S, D, hq⟩ := time_parts T hT
  have HQ := Lib.hid hq
  have h0 : ¬ (T : Int) < -1125899906842624 := by omega
  have h1 : ¬ (1125899906842624 : Int) < (T : Int) := by omega
  have h2 : ¬ (T : Int) < 0 := by omega
  have e1 : (T : Int) / 1000000 = (q : Int) := by have := hq.hq; omega
  have e2 : (T : Int) % 1000000 = (r : Int) := by have := hq.hr; omega
  have e3 : (1000000 : Int) + (r : Int) = (s : Int) := by have := hq.hr; have := hq.hs; omega
  have hqb : q ≤ 1125899906842624 := by have := hq.hq; omega
  have hsb : s ≤ 2000000 := by have := hq.hr; have := hq.hs; omega
  clear hA hP hq hT
  go_enter Tryz.func57, Tryz.ntmps57
  go_wp2_with fail
  refine (formatInt_any (q : Int) _ (by omega) (by omega) HP0.out).mono ?_
  rw [HQ.out.hQS]
  rintro e w2 ⟨rfl, b2⟩
  have H2 := Lib.hid (And.intro (HB.out.1.below b2) (HB.out.2.trans (b2.mono HB.out.2.size)))
  clear b2
  go_wp2_with fail
  refine (wstring w.heap.size w.heap.size [] QS w2 H2.out.1 (by decide) HQ.out.lq H2.out.2.size).mono ?_
  rintro e w3 ⟨rfl, d3, b3⟩
  have H3 := Lib.hid (And.intro d3 (H2.out.2.trans b3))
  clear d3 b3
  go_wp2_with fail
  refine (wbyte w.heap.size w.heap.size _ 46 w3 H3.out.1 (by have := HQ.out.lQ; simp at this ⊢; omega) H3.out.2.size 46 rfl).mono ?_
  rintro e w4 ⟨rfl, d4, b4⟩
  have H4 := Lib.hid (And.intro d4 (H3.out.2.trans b4))
  clear d4 b4
  go_wp2_with fail
  refine (formatInt_any (s : Int) w4 (by omega) (by omega) (HP.out.below H4.out.2 HP.out.2)).mono ?_
  rw [HQ.out.hS]
  rintro e w5 ⟨rfl, b5⟩
  have H5 := Lib.hid (And.intro (H4.out.1.below b5) (H4.out.2.trans (b5.mono H4.out.2.size)))
  clear b5
  have hl := HQ.out.hl
  have hD := HQ.out.hD
  go_wp2_with fail
  refine (wstring w.heap.size w.heap.size _ D w5 H5.out.1 (by have := HQ.out.lQ; simp at this ⊢; omega) HQ.out.ld H5.out.2.size).mono ?_
  rintro e w6 ⟨rfl, d6, b6⟩
  have H6 := Lib.hid (And.intro d6 (H5.out.2.trans b6))
  clear d6 b6 hD
  go_wp2_with fail
  refine (bstring w.heap.size w.heap.size _ w6 H6.out.1 H6.out.2.size).mono ?_
  rintro e w7 ⟨rfl, b7⟩
  have H7 := Lib.hid (H6.out.2.trans b7)
  clear b7
  go_wp2_with fail
  go_ret2
  exact ⟨(show Ending.returned (.tuple #[.string ⟨(QS.data.toList ++ 46 :: D.data.toList).toArray⟩, .int .i64 0]) = Ending.returned (.tuple #[.string ⟨(bodyL T).toArray⟩, .int .i64 0]) by rw [HQ.out.he]), H7.out⟩

end Go.Proofs.YtgccfdfbnhldbaaGreatDoor.Nb

namespace Go.Proofs.YtgccfdfbnhldbaaGreatDoor
open Go Go.RowKit

abbrev fmt : Value := .agg #[.int .u64 52, .int .i64 2047, .int .i64 1075]
theorem run_bits (f : Nat) (w : World) : Sem.run Tryz.prog (callFunc 53 #[.float .f64 f]) w = .ok (.value (.int .u64 f)) w :=
  (run_callFunc_extern (e := Extern.MathFloatBits.float64bits) Tryz.func53 (by kernel_rfl) (by kernel_rfl) (by kernel_rfl) (by kernel_rfl) _ _).trans rfl

theorem index_fmt (w : World) : Sem.run Tryz.prog (Instr.index 178 (.agg #[.int .u64 52, .int .i64 2047, .int .i64 1075, .int .u64 23, .int .i64 255, .int .i64 150]) (.int .i64 0)) w = .ok fmt w := by kernel_rfl
set_option maxRecDepth 100000 in
theorem of_dbl (w : World) : Calls Tryz.prog 74 #[.int .i64 0] w fun e w' => e = .returned fmt ∧ Below w.heap.size w w' := by
  have hix := index_fmt
  go_enter Tryz.func74, Tryz.ntmps74
  go_wp2_with fail
  exact bodyPost_ret (by simp only [results, Tryz.results74]; simp [go_sem]; try rfl) rfl ⟨rfl, (Below.refl w.heap.size w).alloc (Nat.le_refl _) _⟩

theorem hidden_dbl (w : World) : Calls Tryz.prog 128 #[fmt] w fun e w' => e = .returned (.int .u64 4503599627370496) ∧ Below w.heap.size w w' := by
  go_enter Tryz.func128, Tryz.ntmps128
  go_wp2_with fail
  go_ret
  exact ⟨rfl, (Below.refl _ _).alloc (Nat.le_refl _) _⟩
theorem sign_dbl (w : World) : Calls Tryz.prog 181 #[fmt] w fun e w' => e = .returned (.int .u64 9223372036854775808) ∧ Below w.heap.size w w' := by
  go_enter Tryz.func181, Tryz.ntmps181
  go_wp2_with fail
  go_ret
  exact ⟨rfl, (Below.refl _ _).alloc (Nat.le_refl _) _⟩
theorem infinite_dbl (w : World) : Calls Tryz.prog 203 #[fmt] w fun e w' => e = .returned (.int .u64 9218868437227405312) ∧ Below w.heap.size w w' := by
  go_enter Tryz.func203, Tryz.ntmps203
  go_wp2_with fail
  go_ret
  exact ⟨rfl, (Below.refl _ _).alloc (Nat.le_refl _) _⟩

def FmtAt (w : World) (g : Nat) : Prop := g < w.heap.size ∧ w.cell? ⟨g, 0, none⟩ = some (.int .u64 52) ∧ w.cell? ⟨g, 1, none⟩ = some (.int .i64 2047) ∧ w.cell? ⟨g, 2, none⟩ = some (.int .i64 1075)
theorem FmtAt.below {w w' : World} {g : Nat} (h : FmtAt w g) (hb : Below w.heap.size w w') : FmtAt w' g :=
  ⟨Nat.lt_of_lt_of_le h.1 hb.size, (hb.cell (p := ⟨g, 0, none⟩) h.1).trans h.2.1, (hb.cell (p := ⟨g, 1, none⟩) h.1).trans h.2.2.1, (hb.cell (p := ⟨g, 2, none⟩) h.1).trans h.2.2.2⟩
theorem fmt_at (w : World) (T : TypeId) : FmtAt (w.alloc (.cells #[.int .u64 52, .int .i64 2047, .int .i64 1075] T)) w.heap.size := by
  unfold FmtAt
  simp [go_sem]
theorem fmt_below (w : World) (T : TypeId) : Below w.heap.size w (w.alloc (.cells #[.int .u64 52, .int .i64 2047, .int .i64 1075] T)) := (Below.refl _ _).alloc (Nat.le_refl _) _
theorem back_of {w W w' : World} (h : Below w.heap.size w W) (k : Below W.heap.size W w') : Below w.heap.size w w' := h.trans (k.mono h.size)

set_option maxRecDepth 100000 in
set_option maxHeartbeats 1000000 in
theorem none_dbl (w : World) : Calls Tryz.prog 168 #[fmt] w fun e w' => e = .returned (.int .u64 9221120237041090561) ∧ Below w.heap.size w w' := by
  have HF := Lib.hid (fmt_at w 131)
  have HB := Lib.hid (fmt_below w 131)
  go_enter Tryz.func168, Tryz.ntmps168
  go_wp2_with fail
  generalize w.alloc (.cells #[.int .u64 52, .int .i64 2047, .int .i64 1075] 131) = W0 at *
  have hc : Below W0.heap.size W0 W0.drew := (Below.refl _ _).drew
  go_region_held3 (fun w' => w'.cell? ⟨w.heap.size, 0, none⟩ = some (.int .u64 52) ∧ w'.cell? ⟨w.heap.size, 1, none⟩ = some (.int .i64 2047) ∧ w'.cell? ⟨w.heap.size, 2, none⟩ = some (.int .i64 1075))
    (first | exact HF.out.2 | exact (HF.out.below hc).2)
    (first | (go_at_call 203; refine (infinite_dbl _).mono ?_; rintro e w1 ⟨rfl, hb1⟩; replace hc := back_of hc hb1; clear hb1) | (go_at_call 128; refine (hidden_dbl _).mono ?_; rintro e w1 ⟨rfl, hb1⟩; replace hc := back_of hc hb1; clear hb1))
  go_wp2_with fail
  go_ret
  exact ⟨by kernel_rfl, back_of HB.out hc⟩

def nanV (b : Int) : Bool := decide (9218868437227405312 < bits .andNot .u64 b 9223372036854775808)
set_option maxRecDepth 100000 in
set_option maxHeartbeats 1000000 in
theorem nan_dbl (b : Int) (w : World) : Calls Tryz.prog 173 #[.int .u64 b, fmt] w fun e w' => e = .returned (.bool (nanV b)) ∧ Below w.heap.size w w' := by
  have HF := Lib.hid (fmt_at w 131)
  have HB := Lib.hid (fmt_below w 131)
  go_enter Tryz.func173, Tryz.ntmps173
  go_wp2_with fail
  generalize w.alloc (.cells #[.int .u64 52, .int .i64 2047, .int .i64 1075] 131) = W0 at *
  have hc : Below W0.heap.size W0 W0.drew := (Below.refl _ _).drew
  go_region_held3 (fun w' => w'.cell? ⟨w.heap.size, 0, none⟩ = some (.int .u64 52) ∧ w'.cell? ⟨w.heap.size, 1, none⟩ = some (.int .i64 2047) ∧ w'.cell? ⟨w.heap.size, 2, none⟩ = some (.int .i64 1075))
    (first | exact HF.out.2 | exact (HF.out.below hc).2)
    (first | (go_at_call 203; refine (infinite_dbl _).mono ?_; rintro e w1 ⟨rfl, hb1⟩; replace hc := back_of hc hb1; clear hb1) | (go_at_call 181; refine (sign_dbl _).mono ?_; rintro e w1 ⟨rfl, hb1⟩; replace hc := back_of hc hb1; clear hb1))
  go_wp2_with fail
  go_ret
  exact ⟨rfl, back_of HB.out hc⟩

def canonV (b : Int) : Int := if nanV b = true then 9221120237041090561 else b
set_option maxRecDepth 100000 in
set_option maxHeartbeats 1000000 in
theorem canon_dbl (b : Int) (w : World) : Calls Tryz.prog 120 #[.int .u64 b, fmt] w fun e w' => e = .returned (.int .u64 (canonV b)) ∧ Below w.heap.size w w' := by
  have HF := Lib.hid (fmt_at w 131)
  have HB := Lib.hid (fmt_below w 131)
  obtain ⟨q, hq⟩ : ∃ q, nanV b = q := ⟨_, rfl⟩
  have HQ := Lib.hid hq
  have HN := Lib.hid (fun W => nan_dbl b W)
  rw [hq] at HN
  go_enter Tryz.func120, Tryz.ntmps120
  go_wp2_with fail
  generalize w.alloc (.cells #[.int .u64 52, .int .i64 2047, .int .i64 1075] 131) = W0 at *
  obtain ⟨hg, f0, f1, f2⟩ := HF.out
  clear hq
  cases q
  · go_wp2_with fail
    refine (HN.out W0).mono ?_
    rintro e w1 ⟨rfl, hb1⟩
    go_wp2_with fail
    go_ret
    exact ⟨by unfold canonV; rw [HQ.out]; rfl, back_of HB.out hb1⟩
  · go_wp2_with fail
    refine (HN.out W0).mono ?_
    rintro e w1 ⟨rfl, hb1⟩
    obtain ⟨-, k0, k1, k2⟩ := HF.out.below hb1
    go_wp2_with fail
    refine (none_dbl w1).mono ?_
    rintro e w2 ⟨rfl, hb2⟩
    go_wp2_with fail
    go_ret
    exact ⟨by unfold canonV; rw [HQ.out]; rfl, back_of HB.out (back_of hb1 hb2)⟩
end Go.Proofs.YtgccfdfbnhldbaaGreatDoor

namespace Go.Proofs.YtgccfdfbnhldbaaGreatDoor
open Go Go.RowKit

def expV (b : Int) : Int := (bits .and .u64 (canonV b / 4503599627370496) 2047)
def frcV (b : Int) : Int := bits .and .u64 (canonV b) 4503599627370495
def sgnV (b : Int) : Bool := bits .and .u64 (canonV b) 9223372036854775808 != 0
set_option maxRecDepth 100000 in
set_option maxHeartbeats 4000000 in
theorem split_dbl (b : Int) (w : World) : Calls Tryz.prog 126 #[.int .u64 b, fmt] w fun e w' => e = .returned (.tuple #[.bool (sgnV b), .int .i64 (IntKind.i64.wrap (expV b)), .int .u64 (frcV b)]) ∧ Below w.heap.size w w' := by
  have HF := Lib.hid (fmt_at w 131)
  have HB := Lib.hid (fmt_below w 131)
  obtain ⟨c, hq⟩ : ∃ c, canonV b = c := ⟨_, rfl⟩
  have HQ := Lib.hid hq
  have HN := Lib.hid (fun W => canon_dbl b W)
  rw [hq] at HN
  clear hq
  go_enter Tryz.func126, Tryz.ntmps126
  go_wp2_with fail
  generalize w.alloc (.cells #[.int .u64 52, .int .i64 2047, .int .i64 1075] 131) = W0 at *
  obtain ⟨hg, f0, f1, f2⟩ := HF.out
  go_wp2_with fail
  refine (HN.out W0).mono ?_
  rintro e w1 ⟨rfl, hb1⟩
  have HF1 := Lib.hid (HF.out.below hb1)
  have HB1 := Lib.hid (back_of HB.out hb1)
  clear hb1 f0 f1 f2 hg HN HB HF
  go_wp2_with fail
  have hc : Below w1.heap.size w1 w1.drew := (Below.refl _ _).drew
  go_region_held3 (fun w' => w'.cell? ⟨w.heap.size, 0, none⟩ = some (.int .u64 52) ∧ w'.cell? ⟨w.heap.size, 1, none⟩ = some (.int .i64 2047) ∧ w'.cell? ⟨w.heap.size, 2, none⟩ = some (.int .i64 1075))
    (first | exact HF1.out.2 | exact (HF1.out.below hc).2)
    (first | (go_at_call 128; refine (hidden_dbl _).mono ?_; rintro e w1 ⟨rfl, hb1⟩; replace hc := back_of hc hb1; clear hb1) | (go_at_call 181; refine (sign_dbl _).mono ?_; rintro e w1 ⟨rfl, hb1⟩; replace hc := back_of hc hb1; clear hb1))
  go_wp2_with fail
  go_ret3
  refine ⟨?_, back_of HB1.out hc⟩
  unfold sgnV expV frcV
  rw [HQ.out]
  rfl

def clsE (e f : Int) : Int := if e = 2047 then (if f = 0 then 2 else 1) else if e = 0 then (if f = 0 then 3 else 4) else 5
def clsV (b : Int) : Int := clsE (IntKind.i64.wrap (expV b)) (frcV b)
set_option maxRecDepth 100000 in
set_option maxHeartbeats 4000000 in
theorem class_dbl (b : Int) (w : World) : Calls Tryz.prog 127 #[.int .u64 b, fmt] w fun e w' => e = .returned (.int .i64 (clsV b)) ∧ Below w.heap.size w w' := by
  have HF := Lib.hid (fmt_at w 131)
  have HB := Lib.hid (fmt_below w 131)
  unfold clsV
  have HN := Lib.hid (fun W => split_dbl b W)
  generalize sgnV b = g at HN
  generalize IntKind.i64.wrap (expV b) = E at *
  generalize frcV b = F at *
  by_cases c1 : E = 2047
  · subst c1
    by_cases c2 : F = 0
    · subst c2
      go_enter Tryz.func127, Tryz.ntmps127
      go_wp2_with fail
      generalize w.alloc (.cells #[.int .u64 52, .int .i64 2047, .int .i64 1075] 131) = W0 at *
      obtain ⟨hg, f0, f1, f2⟩ := HF.out
      go_wp2_with fail
      refine (HN.out W0).mono ?_
      rintro e w1 ⟨rfl, hb1⟩
      obtain ⟨hg, f0, f1, f2⟩ := HF.out.below hb1
      go_wp2_with fail
      go_ret
      exact ⟨rfl, back_of HB.out hb1⟩
    · have c2' : (F == 0) = false := by simpa using c2
      have c2'' : (F != 0) = true := by simpa using c2
      go_enter Tryz.func127, Tryz.ntmps127
      go_wp2_with fail
      generalize w.alloc (.cells #[.int .u64 52, .int .i64 2047, .int .i64 1075] 131) = W0 at *
      obtain ⟨hg, f0, f1, f2⟩ := HF.out
      go_wp2_with fail
      refine (HN.out W0).mono ?_
      rintro e w1 ⟨rfl, hb1⟩
      obtain ⟨hg, f0, f1, f2⟩ := HF.out.below hb1
      go_wp2_with fail
      go_ret
      exact ⟨by unfold clsE; rw [if_pos rfl, if_neg c2]; rfl, back_of HB.out hb1⟩
  · have c1' : (E == 2047) = false := by simpa using c1
    have c1'' : ¬ (E == 2047) = true := by simpa using c1
    by_cases c3 : E = 0
    · subst c3
      by_cases c2 : F = 0
      · subst c2
        go_enter Tryz.func127, Tryz.ntmps127
        go_wp2_with fail
        generalize w.alloc (.cells #[.int .u64 52, .int .i64 2047, .int .i64 1075] 131) = W0 at *
        obtain ⟨hg, f0, f1, f2⟩ := HF.out
        go_wp2_with fail
        refine (HN.out W0).mono ?_
        rintro e w1 ⟨rfl, hb1⟩
        obtain ⟨hg, f0, f1, f2⟩ := HF.out.below hb1
        go_wp2_with fail
        go_ret
        exact ⟨rfl, back_of HB.out hb1⟩
      · have c2' : (F == 0) = false := by simpa using c2
        go_enter Tryz.func127, Tryz.ntmps127
        go_wp2_with fail
        generalize w.alloc (.cells #[.int .u64 52, .int .i64 2047, .int .i64 1075] 131) = W0 at *
        obtain ⟨hg, f0, f1, f2⟩ := HF.out
        go_wp2_with fail
        refine (HN.out W0).mono ?_
        rintro e w1 ⟨rfl, hb1⟩
        obtain ⟨hg, f0, f1, f2⟩ := HF.out.below hb1
        go_wp2_with fail
        go_ret
        exact ⟨by unfold clsE; rw [if_neg c1, if_pos rfl, if_neg c2]; rfl, back_of HB.out hb1⟩
    · have c3' : (E == 0) = false := by simpa using c3
      go_enter Tryz.func127, Tryz.ntmps127
      go_wp2_with fail
      generalize w.alloc (.cells #[.int .u64 52, .int .i64 2047, .int .i64 1075] 131) = W0 at *
      obtain ⟨hg, f0, f1, f2⟩ := HF.out
      go_wp2_with fail
      refine (HN.out W0).mono ?_
      rintro e w1 ⟨rfl, hb1⟩
      obtain ⟨hg, f0, f1, f2⟩ := HF.out.below hb1
      go_wp2_with fail
      go_ret
      exact ⟨by unfold clsE; rw [if_neg c1, if_neg c3]; rfl, back_of HB.out hb1⟩

/-- numbers that lie in a row, as their bits -/
def FlAt (w : World) (A : Option Addr) (n : Nat) (bs : List Nat) : Prop := bs.length = n ∧ ((A = none ∧ n = 0) ∨ ∃ b off, A = some ⟨b, off, none⟩ ∧ b < w.heap.size ∧ ∀ i, i < n → w.cell? ⟨b, off + i, none⟩ = some (.float .f64 (bs.getD i 0)))
theorem FlAt.below {w w' : World} {A : Option Addr} {n : Nat} {bs : List Nat} (h : FlAt w A n bs) (hb : Below w.heap.size w w') : FlAt w' A n bs := by
  refine ⟨h.1, ?_⟩
  rcases h.2 with h2 | ⟨b, off, h1, h2, h3⟩
  · exact .inl h2
  · exact .inr ⟨b, off, h1, Nat.lt_of_lt_of_le h2 hb.size, fun i hi => (hb.cell (p := ⟨b, off + i, none⟩) h2).trans (h3 i hi)⟩
theorem FlAt.at {w : World} {A : Option Addr} {n : Nat} {bs : List Nat} (h : FlAt w A n bs) {i : Nat} (hi : i < n) : ∃ b off, A = some ⟨b, off, none⟩ ∧ b < w.heap.size ∧ w.cell? ⟨b, off + i, none⟩ = some (.float .f64 (bs.getD i 0)) := by
  rcases h.2 with h2 | ⟨b, off, h1, h2, h3⟩
  · omega
  · exact ⟨b, off, h1, h2, h3 i hi⟩
end Go.Proofs.YtgccfdfbnhldbaaGreatDoor

namespace Go.Proofs.YtgccfdfbnhldbaaGreatDoor
open Go Go.RowKit

/-- the bits of a NaN -/
def nanN (f : Nat) : Bool := decide (9218868437227405312 < f % 9223372036854775808)
/-- the bits, of any NaN those of the one -/
def cnN (f : Nat) : Nat := if nanN f = true then 9221120237041090561 else f
theorem cmp_self (d : Ieee.Datum) : (d.order d == some Ordering.eq) = !d.isNaN := by
  cases d with
  | number s m i => simp [Ieee.Datum.order, Ieee.Datum.isNaN]
  | infinity s => simp [Ieee.Datum.order, Ieee.Datum.isNaN]
  | nan s f => simp [Ieee.Datum.order, Ieee.Datum.isNaN]
theorem read_nan (f : Nat) : (Ieee.double.read f).isNaN = nanN f := by
  have e1 : Ieee.double.signWeight = 9223372036854775808 := by decide
  have e2 : Ieee.double.binade = 4503599627370496 := by decide
  have e3 : Ieee.double.infRung = 9218868437227405312 := by decide
  unfold Ieee.Format.read nanN
  simp only [e1, e2, e3]
  split
  · rename_i h
    simp [Ieee.Datum.isNaN]; omega
  · split
    · rename_i h
      simp [Ieee.Datum.isNaN]; omega
    · split
      · rename_i h
        simp [Ieee.Datum.isNaN]; omega
      · simp [Ieee.Datum.isNaN]; omega
theorem order_self (f : Nat) : (Ieee.double.order f f == some Ordering.eq) = !nanN f := by
  rw [Ieee.Format.order, cmp_self, read_nan]

theorem neq_self (f : Nat) : (FloatKind.f64.format.order f f != some Ordering.eq) = nanN f := by
  have h := order_self f
  show (!(Ieee.double.order f f == some Ordering.eq)) = nanN f
  rw [h, Bool.not_not]
theorem andnot_top {f : Nat} (h : f < 18446744073709551616) : bits .andNot .u64 (f : Int) 9223372036854775808 = ((f % 9223372036854775808 : Nat) : Int) := by
  rw [u64_andNot _ _ (by omega) (by omega) (by omega) (by omega)]
  have e : f % 9223372036854775808 = f &&& (18446744073709551615 - (9223372036854775808 : Int).toNat) := (Nat.and_two_pow_sub_one_eq_mod f 63).symm
  rw [e, Int.toNat_natCast]
theorem nan_eq {f : Nat} (h : f < 18446744073709551616) : nanV (f : Int) = nanN f := by
  unfold nanV nanN
  rw [andnot_top h]
  apply decide_eq_decide.2
  omega
theorem cnN_lt {f : Nat} (h : f < 18446744073709551616) : cnN f < 18446744073709551616 := by unfold cnN; split <;> omega
theorem canon_eq {f : Nat} (h : f < 18446744073709551616) : canonV (f : Int) = (cnN f : Int) := by
  unfold canonV cnN
  rw [nan_eq h]
  split <;> rfl
theorem and_top {f : Nat} (h : f < 18446744073709551616) : (bits .and .u64 (f : Int) 9223372036854775808 != 0) = decide (9223372036854775808 ≤ f) := by
  rw [u64_and _ _ (by omega) (by omega) (by omega) (by omega), Int.toNat_natCast]
  have e : f &&& (9223372036854775808 : Int).toNat = f / 9223372036854775808 % 2 * 9223372036854775808 := by
    apply Nat.eq_of_testBit_eq
    intro i
    have e2 : (9223372036854775808 : Int).toNat = 2 ^ 63 := by decide
    rw [e2, Nat.testBit_and, Nat.testBit_two_pow, show (9223372036854775808 : Nat) = 2 ^ 63 by decide, Nat.testBit_mul_two_pow]
    by_cases hi : i = 63
    · subst hi
      simp [Nat.testBit_eq_decide_div_mod_eq]
    · have h63 : ¬ 63 = i := fun e => hi e.symm
      simp only [h63, decide_false, Bool.and_false]
      by_cases hl : 63 ≤ i
      · have : (f / 2 ^ 63 % 2).testBit (i - 63) = false := by
          apply Nat.testBit_lt_two_pow
          have := Nat.one_lt_two_pow (n := i - 63) (by omega)
          omega
        simp [this]
      · simp [hl]
  rw [e]
  have h1 : f / 9223372036854775808 % 2 = 0 ∨ f / 9223372036854775808 % 2 = 1 := by omega
  rcases h1 with h1 | h1
  · rw [h1]
    have : ¬ 9223372036854775808 ≤ f := by omega
    simp [this]
  · rw [h1]
    have : 9223372036854775808 ≤ f := by omega
    simp [this]
theorem and_mask {a : Nat} (k : Nat) (h : a < 18446744073709551616) (hk : k ≤ 63) : bits .and .u64 (a : Int) ((2 ^ k - 1 : Nat) : Int) = ((a % 2 ^ k : Nat) : Int) := by
  have hb : 2 ^ k - 1 < 18446744073709551616 := by
    have := Nat.pow_le_pow_right (n := 2) (by omega) hk
    have e : (2 : Nat) ^ 63 = 9223372036854775808 := by decide
    omega
  rw [u64_and _ _ (by omega) (by omega) (by omega) (by omega), Int.toNat_natCast, Int.toNat_natCast, Nat.and_two_pow_sub_one_eq_mod]
theorem exp_eq {f : Nat} (h : f < 18446744073709551616) : expV (f : Int) = ((cnN f / 4503599627370496 % 2048 : Nat) : Int) := by
  have hc := cnN_lt h
  unfold expV
  rw [canon_eq h]
  have e : (cnN f : Int) / 4503599627370496 = ((cnN f / 4503599627370496 : Nat) : Int) := by omega
  rw [e]
  exact and_mask 11 (by omega) (by omega)
theorem frc_eq {f : Nat} (h : f < 18446744073709551616) : frcV (f : Int) = ((cnN f % 4503599627370496 : Nat) : Int) := by
  have hc := cnN_lt h
  unfold frcV
  rw [canon_eq h]
  exact and_mask 52 hc (by omega)
theorem sgn_eq {f : Nat} (h : f < 18446744073709551616) : sgnV (f : Int) = decide (9223372036854775808 ≤ cnN f) := by
  unfold sgnV
  rw [canon_eq h]
  exact and_top (cnN_lt h)
end Go.Proofs.YtgccfdfbnhldbaaGreatDoor

namespace Go.Proofs.YtgccfdfbnhldbaaGreatDoor.Nb
open Go Go.RowKit

/-- behind i digits of a shift to the right by s bits, from word q on -/
def RightSt (m os : List Nat) (q s i : Nat) : Prop := 2 ^ s * val os + m.getD q 0 % 2 ^ s = val ((m.drop q).take i) + 18446744073709551616 ^ i * (m.getD (q + i) 0 % 2 ^ s)
theorem right_start (m : List Nat) (q s n : Nat) : RightSt m (List.replicate n 0) q s 0 := by simp [RightSt, val, val_rep]
theorem right_word {x y s : Nat} (hs : s < 64) (hx : x < 18446744073709551616) : x / 2 ^ s < 2 ^ (64 - s) ∧ y * 2 ^ (64 - s) % 18446744073709551616 = 2 ^ (64 - s) * (y % 2 ^ s) ∧ 2 ^ (64 - s) * (y % 2 ^ s) + 2 ^ (64 - s) ≤ 18446744073709551616 ∧
    2 ^ s * (x / 2 ^ s + 2 ^ (64 - s) * (y % 2 ^ s)) + x % 2 ^ s = x + 18446744073709551616 * (y % 2 ^ s) := by
  have e := two64 s (by omega)
  have hp : 0 < 2 ^ s := Nat.pow_pos (by omega)
  have hp' : 0 < 2 ^ (64 - s) := Nat.pow_pos (by omega)
  have hm : y % 2 ^ s < 2 ^ s := Nat.mod_lt _ hp
  refine ⟨?_, ?_, ?_, ?_⟩
  · refine (Nat.div_lt_iff_lt_mul hp).2 ?_
    rw [Nat.mul_comm, ← e]; exact hx
  · rw [e, Nat.mul_mod_mul_right, Nat.mul_comm]
  · have h1 : 2 ^ (64 - s) * (y % 2 ^ s + 1) ≤ 2 ^ (64 - s) * 2 ^ s := Nat.mul_le_mul_left _ hm
    rw [Nat.mul_add, Nat.mul_one, Nat.mul_comm (2 ^ (64 - s)) (2 ^ s), ← e] at h1
    exact h1
  · rw [Nat.mul_add, ← Nat.mul_assoc, ← e]
    have := Nat.div_add_mod x (2 ^ s)
    omega
theorem right_step {m os : List Nat} {q s i x y : Nat} (h : RightSt m os q s i) (hs : s < 64) (hx : x < 18446744073709551616) (ex : m.getD (q + i) 0 = x) (ey : m.getD (q + i + 1) 0 = y) (hm : q + i < m.length) (hl : i < os.length) (hc : Clear os i) :
    RightSt m (os.set i (x / 2 ^ s + 2 ^ (64 - s) * (y % 2 ^ s))) q s (i + 1) := by
  unfold RightSt at *
  have hv := val_set (ws := os) (k := i) (x / 2 ^ s + 2 ^ (64 - s) * (y % 2 ^ s)) hl
  have hw := (right_word (y := y) hs hx).2.2.2
  rw [hc i (Nat.le_refl _), Nat.mul_zero, Nat.add_zero] at hv
  have hg : (m.drop q).getD i 0 = x := by rw [List.getD_eq_getElem?_getD, List.getElem?_drop, ← List.getD_eq_getElem?_getD, ex]
  rw [val_take_succ (by rw [List.length_drop]; omega), hg, show q + (i + 1) = q + i + 1 by omega, ey, Nat.pow_succ]
  rw [ex] at h
  rw [hv, Nat.mul_add]
  obtain ⟨P, hP⟩ : ∃ P, 18446744073709551616 ^ i = P := ⟨_, rfl⟩
  rw [hP] at h ⊢
  rw [Nat.mul_left_comm (2 ^ s) P]
  have h2 : P * (2 ^ s * (x / 2 ^ s + 2 ^ (64 - s) * (y % 2 ^ s)) + x % 2 ^ s) = P * (x + 18446744073709551616 * (y % 2 ^ s)) := by rw [hw]
  rw [Nat.mul_add, Nat.mul_add P x, ← Nat.mul_assoc P 18446744073709551616] at h2
  omega
theorem right_end {m os : List Nat} {q s n : Nat} (h : RightSt m os q s n) (hq : q + n = m.length) (hw : W64 m) : val os = val m / (18446744073709551616 ^ q * 2 ^ s) := by
  unfold RightSt at h
  have h0 : m.getD (q + n) 0 = 0 := by
    rw [List.getD_eq_getElem?_getD, List.getElem?_eq_none (by omega)]; rfl
  rw [h0, Nat.zero_mod, Nat.mul_zero, Nat.add_zero, List.take_of_length_le (by rw [List.length_drop]; omega), drop_div hw (by omega)] at h
  have hp : 0 < 2 ^ s := Nat.pow_pos (by omega)
  rw [← Nat.div_div_eq_div_mul, ← h, Nat.mul_add_div hp, Nat.div_eq_of_lt (Nat.mod_lt _ hp), Nat.add_zero]

def RightW (w : World) (g n : Nat) (m : List Nat) (q s i : Nat) (wr : World) : Prop :=
  ∃ os, Blk wr g os ∧ os.length = n ∧ W64 os ∧ RightSt m os q s i ∧ Clear os i ∧ Below g w wr

set_option maxRecDepth 8000 in
set_option maxHeartbeats 2000000 in
theorem right_core (A : Option Addr) (M ca q s N n : Nat) (m : List Nat) (w : World) (hm : Mag w (.slice A M ca) m) (hl : M ≤ 536870912) (hs : s < 64) (hN : N = 64 * q + s) (hM : q + n = M) (hn : 0 < n) :
    Calls Tryz.prog 162 #[.slice A M ca, .int .u64 (N : Int)] w fun e w' => ∃ A' k' c' lost, e = .returned (.tuple #[.slice A' k' c', .bool lost]) ∧ MagN w' (.slice A' k' c') (val m / (18446744073709551616 ^ q * 2 ^ s)) n ∧ Below w.heap.size w w' := by
  have hla := hm.lenN
  have HA := Lib.hid hm
  have HL := Lib.hid (And.intro hla hM)
  have hmk := run_make_row' (P := Tryz.prog) 88 22 (.int .u64 0) 8 Tryz.underlying88 infoW rfl .i64 .i64 n (by omega) (by omega)
  have e1 : (N : Int) / 64 = (q : Int) := by omega
  have e2 : (N : Int) % 64 = (s : Int) := by omega
  have hN1 : (N : Int) ≤ 18446744073709551615 := by omega
  have hMn : (M : Int) - (q : Int) = (n : Int) := by omega
  have hqM : ¬ (M : Int) ≤ (q : Int) := by omega
  have hqM2 : (q : Int) ≤ (M : Int) := by omega
  have hqM3 : (q : Int) < (M : Int) := by omega
  obtain ⟨b1, o1, ea, hb1, hc1⟩ := hm.at (show q < M by omega)
  subst ea
  have hcM : (M : Int) ≤ (ca : Int) := by obtain ⟨_, _, e, h, -⟩ := hm; injection e with _ _ e; omega
  have HB1 := Lib.hid hb1
  obtain ⟨x0, hx0⟩ : ∃ x0, m.getD q 0 = x0 := ⟨_, rfl⟩
  rw [hx0] at hc1
  clear hm hla hN hM hx0 hb1
  go_enter Tryz.func162, Tryz.ntmps162
  go_wp2_with fail
  go_loopw [8, 39] (fun zv iv wr => ∃ (k : Nat) (z : Int), k ≤ q ∧ zv = .int .u64 z ∧ iv = .int .i64 (k : Int) ∧ w = wr) (fun _ iv _ => q - (intOf iv).toNat)
  case atStart => exact ⟨0, _, Nat.zero_le _, rfl, rfl, rfl⟩
  case round =>
    obtain ⟨k, z, hk, rfl, rfl, rfl⟩ := hrel
    by_cases hlt : k < q
    · obtain ⟨b2, o2, ea, hb2, hc2⟩ := HA.out.at (show k < M by have := HL.out; omega)
      injection ea with ea
      injection ea with ea eb _
      subst ea eb
      obtain ⟨x, hx⟩ : ∃ x, m.getD k 0 = x := ⟨_, rfl⟩
      rw [hx] at hc2
      have i0 : (0 : Int) ≤ (k : Int) := by omega
      have i1 : (k : Int) < (q : Int) := by omega
      clear hx hb2
      go_wp2_with fail
      go_roundw
      case rel => exact ⟨k + 1, _, by omega, rfl, by go_num, trivial⟩
      case measure => simp [intOf]; omega
    · obtain rfl : k = q := by omega
      clear hc1 hlt
      have hd0 : (0 : Int) ≤ (M : Int) - (k : Int) := by omega
      go_wp2_with fail
      clear hmk
      have H0 := Lib.hid (show RightW w w.heap.size n m k s 0 (w.alloc (.cells (madeCells #[.int .u64 0] n) 22)) from ⟨_, Blk.made w n, by simp, W64.rep _, right_start _ _ _ _, Clear.rep _ _, (Below.refl _ _).alloc (Nat.le_refl _) _⟩)
      go_loopw [54] (fun iv wr => ∃ i : Nat, i ≤ n ∧ iv = .int .i64 (i : Int) ∧ Hid (RightW w w.heap.size n m k s i wr)) (fun iv _ => n - (intOf iv).toNat)
      case atStart => exact ⟨0, Nat.zero_le _, rfl, H0⟩
      case round =>
        clear H0
        obtain ⟨i, hi, rfl, hp⟩ := hrel
        obtain ⟨os, hbk, hlen, hw, hst, hcl, hbel⟩ := hp.out
        by_cases hlt : i < n
        · have hfr : wr.frozen? ⟨w.heap.size, i, none⟩ = false := hbk.frozen _
          obtain ⟨o, ho⟩ : ∃ o, os.getD i 0 = o := ⟨_, rfl⟩
          have hco : wr.cell? ⟨w.heap.size, i, none⟩ = some (.int .u64 (o : Nat)) := by rw [← ho]; exact hbk.cell (by omega)
          obtain ⟨x, ex⟩ : ∃ x, m.getD (k + i) 0 = x := ⟨_, rfl⟩
          obtain ⟨y, ey⟩ : ∃ y, m.getD (k + i + 1) 0 = y := ⟨_, rfl⟩
          have HD1 := fun W (hW : Mag W _ m) => digit_any (some ⟨b1, o1, none⟩) M ca (k + i) m W hW (by omega)
          have HD2 := fun W (hW : Mag W _ m) => digit_any (some ⟨b1, o1, none⟩) M ca (k + i + 1) m W hW (by omega)
          have c1 : ((k + i : Nat) : Int) = (k : Int) + (i : Int) := by omega
          have c2 : ((k + i + 1 : Nat) : Int) = (k : Int) + (i : Int) + 1 := by omega
          rw [c1, ex] at HD1
          rw [c2, ey] at HD2
          have wx : x < 18446744073709551616 := by rw [← ex]; exact HA.out.w32.get _
          obtain ⟨r1, r2, r3, r4⟩ := right_word (y := y) hs wx
          obtain ⟨hv, ehv⟩ : ∃ hv, 2 ^ (64 - s) * (y % 2 ^ s) = hv := ⟨_, rfl⟩
          obtain ⟨d, ed⟩ : ∃ d, x / 2 ^ s + hv = d := ⟨_, rfl⟩
          have hwr : IntKind.u64.wrap ((y : Int) * 2 ^ (64 - s)) = (hv : Int) := by
            rw [show ((y : Int) * 2 ^ (64 - s)) = ((y * 2 ^ (64 - s) : Nat) : Int) by rw [Int.natCast_mul, Int.natCast_pow]; rfl]
            rw [IntKind.wrap_u64]; omega
          have hor : bits .or .u64 ((x : Int) / 2 ^ s) (hv : Int) = (d : Int) := by
            have h := or_high r1 r3
            rw [ehv] at h
            rw [← ed, ← h, Int.natCast_ediv, Int.natCast_pow]
            rfl
          have hdl : d < 18446744073709551616 := by omega
          have HS : Hid (RightSt m (os.set i d) k s (i + 1)) := Lib.hid (by
            have h := right_step hst hs wx ex ey (by have := HL.out; omega) (by omega) hcl
            rw [ehv, ed] at h
            exact h)
          have HO := Lib.hid (And.intro hbk (And.intro hlen (And.intro hw (And.intro hcl hbel))))
          have HDD := Lib.hid (And.intro HD1 HD2)
          have HMW := Lib.hid (HA.out.below hbel)
          have HDL := Lib.hid hdl
          have i0 : (0 : Int) ≤ (i : Int) := by omega
          have i1 : (i : Int) < (n : Int) := by omega
          clear hbk hlen hw hst hcl hbel ho ex ey wx r1 r2 r3 r4 ehv ed hdl HD1 HD2 c1 c2 hp
          go_wp2_with fail
          refine (HDD.out.1 _ HMW.out).mono ?_
          rintro e w9 ⟨rfl, rfl⟩
          go_wp2_with fail
          refine (HDD.out.2 _ HMW.out).mono ?_
          rintro e w9 ⟨rfl, rfl⟩
          go_wp2_with fail
          go_roundw
          case rel => exact ⟨i + 1, by omega, by go_num, Lib.hid ⟨_, blk_end HO.out.1 rfl, by rw [List.length_set]; exact HO.out.2.1, HO.out.2.2.1.set HDL.out, HS.out, HO.out.2.2.2.1.step, HO.out.2.2.2.2.setCell (p := ⟨w.heap.size, i, none⟩) (Nat.le_refl _) _⟩⟩
          case measure => simp [intOf]; omega
        · obtain rfl : i = n := by omega
          have HO := Lib.hid (And.intro hbk (And.intro hlen (And.intro hw (And.intro hst hbel))))
          clear hbk hlen hw hst hcl hbel
          go_wp2_with fail
          have hms := HO.out.1.mag HO.out.2.2.1 (by rw [HO.out.2.1]; omega)
          rw [HO.out.2.1] at hms
          refine (norm_any _ _ _ hms).mono ?_
          rintro e w2 ⟨A2, k2, c2, -, rfl, hm2, rfl⟩
          rw [right_end HO.out.2.2.2.1 (by have := HL.out; omega) HA.out.w32, HO.out.2.1] at hm2
          have HF := Lib.hid hm2
          clear hm2 hms
          go_wp2_with fail
          go_ret2
          exact ⟨_, _, _, _, rfl, HF.out, HO.out.2.2.2.2⟩

set_option maxRecDepth 8000 in
/-- right: a magnitude over 2 to the N-th, downwards -/
theorem right_any (v : Value) (X N L : Nat) (w : World) (h : MagN w v X L) (hL : L ≤ 536870912) (hN : N ≤ 18446744073709551615) :
    Calls Tryz.prog 162 #[v, .int .u64 (N : Int)] w fun e w' => ∃ A' k' c' lost, e = .returned (.tuple #[.slice A' k' c', .bool lost]) ∧ MagN w' (.slice A' k' c') (X / 2 ^ N) L ∧ Below w.heap.size w w' := by
  obtain ⟨ws, h1, h2, rfl, h4⟩ := h
  have h1' := h1
  obtain ⟨A, c, rfl, -⟩ := h1
  have e : (2 : Nat) ^ N = 18446744073709551616 ^ (N / 64) * 2 ^ (N % 64) := by
    rw [show (18446744073709551616 : Nat) = 2 ^ 64 by decide, ← Nat.pow_mul, ← Nat.pow_add]
    congr 1
    omega
  rw [e]
  by_cases h0 : ws.length ≤ N / 64
  · have hz : val ws / (18446744073709551616 ^ (N / 64) * 2 ^ (N % 64)) = 0 := by
      refine Nat.div_eq_of_lt ?_
      have a1 := val_lt h1'.w32
      have a2 : 18446744073709551616 ^ ws.length ≤ 18446744073709551616 ^ (N / 64) := Nat.pow_le_pow_right (by omega) h0
      have a3 : 18446744073709551616 ^ (N / 64) * 1 ≤ 18446744073709551616 ^ (N / 64) * 2 ^ (N % 64) := Nat.mul_le_mul_left _ (Nat.pow_pos (by omega))
      omega
    have HR : Hid (MagN w (.slice none 0 0) (val ws / (18446744073709551616 ^ (N / 64) * 2 ^ (N % 64))) L) := Lib.hid (by rw [hz]; exact zero_in w _)
    obtain ⟨q, hq⟩ : ∃ q, N / 64 = q := ⟨_, rfl⟩
    have e1 : (N : Int) / 64 = (q : Int) := by omega
    have e2 : (ws.length : Int) ≤ (q : Int) := by omega
    have hN1 : (N : Int) ≤ 18446744073709551615 := by omega
    have hl0 : (ws.length : Int) ≤ 536870912 := by omega
    obtain ⟨M, hM⟩ : ∃ M, ws.length = M := ⟨_, rfl⟩
    rw [hM] at e2 hl0 ⊢
    clear h1' h2 h4 e hz h0 hq hM
    go_enter Tryz.func162, Tryz.ntmps162
    go_wp2_with fail
    go_ret2
    exact ⟨_, _, _, _, rfl, HR.out, Below.refl _ _⟩
  · exact (right_core A ws.length c (N / 64) (N % 64) N (ws.length - N / 64) ws w h1' (by omega) (by omega) (by omega) (by omega) (by omega)).mono fun e w' ⟨A', k', c', lost, a, b, d⟩ => ⟨A', k', c', lost, a, b.more (by omega), d⟩
end Go.Proofs.YtgccfdfbnhldbaaGreatDoor.Nb

namespace Go.Proofs.YtgccfdfbnhldbaaGreatDoor.Nb
open Go Go.RowKit

def Digs (l : List UInt8) : Prop := ∀ b ∈ l, 48 ≤ b.toNat ∧ b.toNat ≤ 57
theorem dig_ofNat {n : Nat} (h : n < 10) : (UInt8.ofNat (48 + n)).toNat = 48 + n := by
  simp
  omega
theorem dec_digs (n : Nat) : Digs (Lib.decDigits n) := by
  intro b hb
  rw [Lib.decDigits_eq] at hb
  obtain ⟨t, -, rfl⟩ := List.mem_map.1 hb
  unfold Lib.dg
  rw [dig_ofNat (Nat.mod_lt _ (by omega))]
  omega
theorem decN_dec : ∀ n : Nat, decN (Lib.decDigits n) = n := by
  intro n
  induction n using Nat.strongRecOn with
  | _ n ih =>
    by_cases h : n < 10
    · rw [Lib.decDigits_one h]
      simp only [decN, List.foldl_cons, List.foldl_nil, dig_ofNat h]
      omega
    · rw [Lib.decDigits, dif_neg h, decN_snoc, ih (n / 10) (by omega), dig_ofNat (Nat.mod_lt _ (by omega))]
      omega
end Go.Proofs.YtgccfdfbnhldbaaGreatDoor.Nb
