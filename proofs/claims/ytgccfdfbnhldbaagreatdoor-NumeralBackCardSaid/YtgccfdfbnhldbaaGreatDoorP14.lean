/- E10 X2 BN2 X13 in one text. -/
import Derived.Test.YtgccfdfbnhldbaaGreatDoorP13
import Derived.Lib.TrailingZeros
import Derived.Handy
import Derived.Test.YtgccfdfbnhldbaaGreatDoorP11
import Derived.Test.YtgccfdfbnhldbaaGreatDoorP12
import Derived.WalkLawsBesides
import Derived.Laws.Externs

namespace Go.Proofs.YtgccfdfbnhldbaaGreatDoor.Nb
open Go Go.RowKit

/-- the table lies in its variable -/
def Tab64 (w : World) : Prop := 2 < w.heap.size ∧ ∀ j, j < 64 → w.cell? ⟨2, j, none⟩ = some (.int .u8 (Lib.deBruijn64tab.getD j 0 : Nat))
theorem Tab64.below {w w' : World} (h : Tab64 w) (hb : Below w.heap.size w w') : Tab64 w' :=
  ⟨Nat.lt_of_lt_of_le h.1 hb.size, fun j hj => (hb.cell (by exact h.1)).trans (h.2 j hj)⟩
set_option maxRecDepth 8000 in
theorem tz64_core (x y p z k idx : Nat) (w : World) (hx0 : ((x : Int) == 0) = false) (hw1 : IntKind.u64.wrap (-(x : Int)) = (y : Int)) (hw2 : bits BinOp.and IntKind.u64 (x : Int) (y : Int) = (p : Int))
    (hw3 : IntKind.u64.wrap ((p : Int) * 285870213051353865) = (z : Int)) (hw4 : (z : Int) / 288230376151711744 = (idx : Int))
    (hi : idx < 64) (hk : k < 64) (hcell : w.cell? ⟨2, idx, none⟩ = some (.int .u8 (k : Nat))) :
    Calls Tryz.prog 129 #[.int .u64 (x : Int)] w fun e w' => e = .returned (.int .i64 (k : Int)) ∧ w = w' := by
  go_enter Tryz.func129, Tryz.ntmps129
  go_wp2_with fail
  go_ret
  exact ⟨rfl, rfl⟩
theorem tz64_any (x k : Nat) (w : World) (h0 : x ≠ 0) (h1 : x < 18446744073709551616) (hT : Tab64 w) (hk : Lib.ctz 64 x = k) :
    Calls Tryz.prog 129 #[.int .u64 (x : Int)] w fun e w' => e = .returned (.int .i64 (k : Int)) ∧ w = w' := by
  subst hk
  obtain ⟨hlow, hk⟩ := Lib.lowest_bit 64 x h0 h1
  obtain ⟨hi, htab⟩ := Lib.deBruijn64_at _ hk
  have hcell := hT.2 _ hi
  rw [htab] at hcell
  refine tz64_core x (18446744073709551616 - x) (2 ^ Lib.ctz 64 x) (2 ^ Lib.ctz 64 x * 285870213051353865 % 18446744073709551616) _ _ w (by simp; omega) (by rw [IntKind.wrap_u64]; omega) ?_ ?_ ?_ hi hk hcell
  · rw [u64_and_nat _ _ (by omega) (by omega), show x &&& (18446744073709551616 - x) = 2 ^ Lib.ctz 64 x from hlow]
  · generalize 2 ^ Lib.ctz 64 x = P
    rw [IntKind.wrap_u64]
    omega
  · generalize 2 ^ Lib.ctz 64 x * 285870213051353865 % 18446744073709551616 = P
    omega
theorem of_idx : ∀ W, (Instr.index 178 (.agg #[.int .u64 52, .int .i64 2047, .int .i64 1075, .int .u64 23, .int .i64 255, .int .i64 150]) (.int .i64 0)).run Tryz.prog W = .ok (.agg #[.int .u64 52, .int .i64 2047, .int .i64 1075]) W := by
  intro W
  kernel_rfl
set_option maxRecDepth 8000 in
theorem of_zero (w : World) : Calls Tryz.prog 74 #[.int .i64 0] w fun e w' => e = .returned (.agg #[.int .u64 52, .int .i64 2047, .int .i64 1075]) ∧ Below w.heap.size w w' := by
  have hidx := of_idx
  go_enter Tryz.func74, Tryz.ntmps74
  go_wp2_with fail
  exact bodyPost_ret (by simp [results, Tryz.results74, go_sem]) rfl ⟨rfl, (Below.refl _ _).alloc (Nat.le_refl _) _⟩

theorem Fmt.kept {w w' : World} {b c : Nat} (h : Fmt w b) (k : Kept w w' c) (hne : b ≠ c) : Fmt w' b :=
  ⟨(k.cell (p := ⟨b, 0, none⟩) h.2.2.2 hne).trans h.1, (k.cell (p := ⟨b, 1, none⟩) h.2.2.2 hne).trans h.2.1, (k.cell (p := ⟨b, 2, none⟩) h.2.2.2 hne).trans h.2.2.1, Nat.lt_of_lt_of_le h.2.2.2 k.size⟩
end Go.Proofs.YtgccfdfbnhldbaaGreatDoor.Nb

namespace Go.Proofs.YtgccfdfbnhldbaaGreatDoor.Nx
open Go
/-- the sign of a hexadecimal digit -/
def hxd (n : Nat) : UInt8 := if n < 10 then UInt8.ofNat (48 + n) else UInt8.ofNat (87 + n)
/-- the hexadecimal digits of a fraction of 52 bits, noughts behind left out -/
def digs : Nat → Nat → List UInt8
  | 0, _ => []
  | k + 1, r => if r = 0 then [] else hxd (r / 281474976710656) :: digs k (r % 281474976710656 * 16)
def FracOk (k r : Nat) : Prop := r < 4503599627370496 ∧ 2 ^ (52 - 4 * k) ∣ r ∧ k ≤ 13
theorem frac_end {r : Nat} (h : FracOk 0 r) : r = 0 := by
  obtain ⟨h1, ⟨c, h2⟩, -⟩ := h
  rcases Nat.eq_zero_or_pos c with q | q
  · subst q; simpa using h2
  · exfalso
    have : 2 ^ (52 - 4 * 0) * 1 ≤ 2 ^ (52 - 4 * 0) * c := Nat.mul_le_mul_left _ q
    omega
theorem frac_step {k r : Nat} (h : FracOk (k + 1) r) : FracOk k (r % 281474976710656 * 16) := by
  obtain ⟨h1, ⟨c, h2⟩, h3⟩ := h
  refine ⟨by have := Nat.mod_lt r (show 0 < 281474976710656 by omega); omega, ?_, by omega⟩
  have e : 2 ^ (52 - 4 * k) = 2 ^ (52 - 4 * (k + 1)) * 16 := by
    rw [show 52 - 4 * k = 52 - 4 * (k + 1) + 4 by omega, Nat.pow_add]
  rw [e]
  apply Nat.mul_dvd_mul_right
  have hd : 2 ^ (52 - 4 * (k + 1)) ∣ 281474976710656 := by
    rw [show (281474976710656 : Nat) = 2 ^ 48 by decide]
    exact Nat.pow_dvd_pow 2 (by omega)
  exact (Nat.dvd_mod_iff hd).2 ⟨c, h2⟩
theorem digs_zero (k : Nat) : digs k 0 = [] := by cases k <;> simp [digs]
theorem digs_cons {k r : Nat} (h : r ≠ 0) : digs (k + 1) r = hxd (r / 281474976710656) :: digs k (r % 281474976710656 * 16) := by simp [digs, h]
theorem frac_start {r : Nat} (h : r < 4503599627370496) : FracOk 13 r := ⟨h, ⟨r, by simp⟩, by omega⟩
end Go.Proofs.YtgccfdfbnhldbaaGreatDoor.Nx

namespace Go.Proofs.YtgccfdfbnhldbaaGreatDoor.Nb
open Go Go.RowKit

def IsDig (l : List UInt8) : Prop := ∀ x ∈ l, 48 ≤ x.toNat ∧ x.toNat ≤ 57
def sgn (b : Bool) : List UInt8 := if b = true then [45] else []
def fracT : Option (List UInt8) → List UInt8
  | none => []
  | some l => 46 :: l
def expT : Option (Bool × List UInt8) → List UInt8
  | none => []
  | some (b, l) => 101 :: (sgn b ++ l)
/-- a decimal text's parts -/
structure DTxt where
  neg : Bool
  d1 : List UInt8
  d2 : Option (List UInt8)
  ex : Option (Bool × List UInt8)
def DTxt.list (t : DTxt) : List UInt8 := sgn t.neg ++ (t.d1 ++ (fracT t.d2 ++ expT t.ex))
structure DTxt.Ok (t : DTxt) : Prop where
  g1 : IsDig t.d1
  n1 : t.d1 ≠ []
  g2 : ∀ l, t.d2 = some l → IsDig l ∧ l ≠ []
  g3 : ∀ b l, t.ex = some (b, l) → IsDig l ∧ l ≠ []
/-- the digits, one behind the other -/
def DTxt.digs (t : DTxt) : List UInt8 := t.d1 ++ t.d2.getD []
/-- an exponent as undecimal reads it -/
def expZ : Option (Bool × List UInt8) → Int
  | none => 0
  | some (b, l) => if b = true then -(if (Lib.trimLeftB l 48).length < 6 then (decN (Lib.trimLeftB l 48) : Int) else 100000) else (if (Lib.trimLeftB l 48).length < 6 then (decN (Lib.trimLeftB l 48) : Int) else 100000)
def DTxt.exp (t : DTxt) : Int := -((t.d2.getD []).length : Int) + expZ t.ex

theorem IsDig.append {a b : List UInt8} (h : IsDig a) (h' : IsDig b) : IsDig (a ++ b) := fun x hx => by
  rcases List.mem_append.1 hx with q | q
  · exact h x q
  · exact h' x q
theorem IsDig.trim {l : List UInt8} (h : IsDig l) : IsDig (Lib.trimLeftB l 48) := fun x hx => h x (List.dropWhile_suffix _ |>.subset hx)
theorem decN_zero (l : List UInt8) : decN (48 :: l) = decN l := by simp [decN]
theorem decN_trim : ∀ l : List UInt8, decN (Lib.trimLeftB l 48) = decN l
  | [] => rfl
  | a :: l => by
    unfold Lib.trimLeftB
    rw [List.dropWhile_cons]
    by_cases h : (a == 48) = true
    · rw [if_pos h]
      have e : a = 48 := by simpa using h
      subst e
      rw [decN_zero]
      exact decN_trim l
    · rw [if_neg h]
theorem decFrom_dig : ∀ (l : List UInt8) (a : Nat), IsDig l → Lib.decFrom a l = some (l.foldl (fun n b => n * 10 + (b.toNat - 48)) a)
  | [], a, _ => rfl
  | b :: l, a, h => by
    have hb := h b List.mem_cons_self
    have hd : Lib.digitVal b = some (b.toNat - 48) := by
      unfold Lib.digitVal
      rw [if_pos hb]
    simp only [Lib.decFrom, hd, List.foldl_cons]
    exact decFrom_dig l _ (fun x hx => h x (List.mem_cons_of_mem _ hx))
theorem atoi_dig {l : List UInt8} (h : IsDig l) : Lib.atoi (48 :: l) = some (decN l : Int) := by
  have h48 : IsDig (48 :: l) := fun x hx => by
    rcases List.mem_cons.1 hx with rfl | q
    · decide
    · exact h x q
  unfold Lib.atoi
  simp only [show ((48 : UInt8) == 45) = false from rfl, show ((48 : UInt8) == 43) = false from rfl]
  have := decFrom_dig _ 0 h48
  simp only [Bool.false_eq_true, if_false]
  unfold Lib.decNat
  rw [this]
  simp [decN]

/-- the place and the decimals side by side -/
structure UndR (w W : World) (g : Nat) (s : ByteArray) (r : List UInt8) (neg : Bool) (v1 v2 : Value) : Prop where
  c : CurR W (w.heap.size + 1) s r
  r : DecAt W w.heap.size (.bool false) (.string ⟨#[]⟩) (.int .i64 0)
  d : DecAt W g (.bool neg) v1 v2
  g : w.heap.size + 1 < g
  b : Below w.heap.size w W
theorem UndR.move {w W W' : World} {g : Nat} {s : ByteArray} {r r' : List UInt8} {neg : Bool} {v1 v2 : Value} (h : UndR w W g s r neg v1 v2) (q : Kept W W' (w.heap.size + 1)) (c : CurR W' (w.heap.size + 1) s r') (b : Below (w.heap.size + 1) W W') : UndR w W' g s r' neg v1 v2 :=
  ⟨c, h.r.kept q (by omega), h.d.kept q (by have := h.g; omega), h.g, h.b.trans (b.mono (by omega))⟩
theorem UndR.quiet {w W W' : World} {g : Nat} {s : ByteArray} {r : List UInt8} {neg : Bool} {v1 v2 : Value} (h : UndR w W g s r neg v1 v2) (b : Below W.heap.size W W') : UndR w W' g s r neg v1 v2 :=
  ⟨h.c.below b (Nat.le_refl _), h.r.kept (Kept.of_below b) (c := W.heap.size) (Nat.ne_of_lt h.r.1), h.d.kept (Kept.of_below b) (c := W.heap.size) (Nat.ne_of_lt h.d.1), h.g, h.b.trans (b.mono h.b.size)⟩
theorem UndR.set1 {w W : World} {g : Nat} {s : ByteArray} {r : List UInt8} {neg : Bool} {v1 v2 : Value} (h : UndR w W g s r neg v1 v2) (v : Value) : UndR w (W.setCell ⟨g, 1, none⟩ v) g s r neg v v2 :=
  ⟨h.c.kept ((Kept.refl W g).setCell v) (by have := h.g; omega), h.r.kept ((Kept.refl W g).setCell (o := 1) v) (by have := h.g; omega), h.d.set1 v, h.g, h.b.setCell (p := ⟨g, 1, none⟩) (by show w.heap.size ≤ g; have := h.g; omega) v⟩
theorem UndR.set2 {w W : World} {g : Nat} {s : ByteArray} {r : List UInt8} {neg : Bool} {v1 v2 : Value} (h : UndR w W g s r neg v1 v2) (v : Value) : UndR w (W.setCell ⟨g, 2, none⟩ v) g s r neg v1 v :=
  ⟨h.c.kept ((Kept.refl W g).setCell v) (by have := h.g; omega), h.r.kept ((Kept.refl W g).setCell (o := 2) v) (by have := h.g; omega), h.d.set2 v, h.g, h.b.setCell (p := ⟨g, 2, none⟩) (by show w.heap.size ≤ g; have := h.g; omega) v⟩
/-- a sign, there or not -/
theorem takeS (b : Nat) (s : ByteArray) (neg : Bool) (r : List UInt8) (w : World) (h : CurR w b s (sgn neg ++ r)) (hs : s.size ≤ 4611686018427387904) (hn : r.head? ≠ some 45) :
    Calls Tryz.prog 67 #[.pointer (some ⟨b, 0, none⟩), .string ⟨#[45]⟩] w fun e w' => e = .returned (.bool neg) ∧ CurR w' b s r ∧ Below b w w' ∧ Kept w w' b := by
  cases neg
  · refine (takeR_no b s 45 r w h hn).mono ?_
    rintro e w' ⟨rfl, n, rfl⟩
    exact ⟨rfl, h, below_dr (Below.refl _ _) n, (Kept.refl w b).drewN n⟩
  · exact takeR_yes b s 45 r w h hs
end Go.Proofs.YtgccfdfbnhldbaaGreatDoor.Nb

namespace Go.Proofs.YtgccfdfbnhldbaaGreatDoor
open Go Go.RowKit Go.WideShapes

theorem infoF : (Tryz.prog.info? 25).map (fun i => (i.zero, i.size, i.bytes)) = some (some (.float .f64 0), 1, 8) := by kernel_rfl
theorem run_frombits (n : Int) (w : World) : Sem.run Tryz.prog (callFunc 4 #[.int .u64 n]) w = .ok (.value (.float .f64 n.toNat)) w :=
  (run_callFunc_extern (e := Extern.MathFloatBits.float64frombits) Tryz.func4 (by kernel_rfl) (by kernel_rfl) (by kernel_rfl) (by kernel_rfl) _ _).trans rfl
theorem float_new (w : World) (f : Nat) (T : TypeId) : ∀ j u, [(Value.float .f64 f)][j]? = some u → (w.alloc (.cells #[.float .f64 f] T)).cell? ((⟨w.heap.size, 0, none⟩ : Addr).add j) = some u := by
  intro j u h
  have hj : j = 0 := by
    have := (List.getElem?_eq_some_iff.1 h).1
    simp at this
    omega
  subst hj
  simp at h
  subst h
  rw [Go.WideShapes.add_plain, Nat.zero_add]
  simp [go_sem]

theorem ownsRow_below {w w' : World} {B : Nat} {e : TypeId} {sz n : Nat} {v : Value} {xs : List Value} (h : w.ownsRow B e sz v n xs) (hb : Below w.heap.size w w') : w'.ownsRow B e sz v n xs := by
  refine ⟨h.1, ?_⟩
  rcases h.2 with hn | ⟨g, cap, cur, hv, h1, h2, h3⟩
  · exact .inl hn
  · exact .inr ⟨g, cap, cur, hv, h1, (hb.block g (Array.getElem?_eq_some_iff.1 h2).1).trans h2, h3⟩
theorem ownsRow_base {w : World} {B : Nat} {e : TypeId} {sz n : Nat} {v : Value} {xs : List Value} (h : w.ownsRow B e sz v n xs) : ∀ k, v.ownBlock = some k → B ≤ k := by
  intro k hk
  rcases h.2 with ⟨hn, -⟩ | ⟨g, cap, cur, hv, h1, -⟩
  · rw [hn] at hk; simp [Value.ownBlock] at hk
  · rw [hv] at hk
    simp only [Value.ownBlock] at hk
    injection hk with hk
    omega

theorem own_fl {w : World} {B n : Nat} {v : Value} {bs : List Nat} (h : w.ownsRow B 25 1 v n (bs.map fun b => .float .f64 b)) (hn : bs.length = n) : ∃ A c, v = .slice A n c ∧ FlAt w A n bs ∧ (A = none ∨ ∃ b, A = some ⟨b, 0, none⟩ ∧ B ≤ b ∧ b < w.heap.size) := by
  have h0 := h
  rcases h.2 with ⟨h1, h2⟩ | ⟨g, cap, cur, h1, h2, h3, -⟩
  · subst h2
    exact ⟨none, 0, h1, ⟨hn, .inl ⟨rfl, rfl⟩⟩, .inl rfl⟩
  · subst h1
    have hg := (Array.getElem?_eq_some_iff.1 h3).1
    refine ⟨_, cap, rfl, ⟨hn, .inr ⟨g, 0, rfl, hg, fun i hi => ?_⟩⟩, .inr ⟨g, rfl, h2, hg⟩⟩
    have := h0.cellAt i (by simp; omega)
    rw [Nat.zero_add, this]
    rw [List.getElem?_map, List.getD_eq_getElem?_getD, List.getElem?_eq_getElem (by omega)]
    rfl

set_option maxRecDepth 8000 in
set_option maxHeartbeats 2000000 in
theorem of64_fl (A : Option Addr) (n c : Nat) (ts : List Int) (w : World) (hn : ts.length = n) (hc : ∀ i, i < n → ∃ b off, A = some ⟨b, off, none⟩ ∧ b < w.heap.size ∧ w.cell? ⟨b, off + i, none⟩ = some (.int .u64 (ts.getD i 0))) (hl : n * 8 ≤ 140737488355328) :
    Calls Tryz.prog 16 #[.slice A n c] w fun e w' => (∃ v, e = .returned v ∧ w'.ownsRow w.heap.size 25 1 v n ((ts.map Int.toNat).map fun b => .float .f64 b)) ∧ Below w.heap.size w w' := by
  have HC := Lib.hid hc
  have HN := Lib.hid hn
  clear hc hn
  go_enter Tryz.func16, Tryz.ntmps16
  go_wp2_with fail
  go_loopw [3, 8] (fun ov iv wr => ∃ (k : Nat), k ≤ n ∧ iv = .int .i64 (k : Int) ∧ Hid (wr.ownsRow w.heap.size 25 1 ov k (((ts.take k).map Int.toNat).map fun b => .float .f64 b) ∧ Below w.heap.size w wr)) (fun _ iv _ => n - (intOf iv).toNat)
  case atStart => exact ⟨0, by omega, rfl, Lib.hid ⟨World.ownsRow_nil _ _ _ _, Below.refl _ _⟩⟩
  case round =>
    obtain ⟨k, hk, rfl, hh⟩ := hrel
    by_cases hlt : k < n
    · obtain ⟨b, off, rfl, hb, hcell⟩ := HC.out k hlt
      obtain ⟨y, hy⟩ : ∃ y, ts.getD k 0 = y := ⟨_, rfl⟩
      rw [hy] at hcell
      have HY := Lib.hid hy
      have hcr := (hh.out.2.cell (p := ⟨b, off + k, none⟩) hb).trans hcell
      have hki : (k : Int) < (n : Int) := by omega
      clear hcell hy
      have hfb := run_frombits y
      obtain ⟨i0, hi0, hz0, hz1, hz2⟩ := info_parts infoF
      have HBX := Lib.hid ((Below.refl wr.heap.size wr).alloc (Nat.le_refl _) (.cells #[.float .f64 y.toNat] 25))
      have HRX := Lib.hid (ownsRow_below hh.out.1 HBX.out)
      have hwr := hh.out.2.size
      go_wp2_with (at_builtin; refine wpList_append_own _ rfl _ _ 39 rfl w.heap.size 25 i0 _ 1 8 Tryz.underlying39 hi0 hz0 hz1 hz2 rfl (by omega) u3 k _ rfl HRX.out ⟨wr.heap.size, 0, none⟩ 1 1 [.float .f64 y.toNat] rfl rfl (float_new _ _ _) (by simp [Value.oneCell']) (by simp only [maxLen]; omega) (by omega) (Nat.le_trans hwr HBX.out.size) ?_; intro v' w3 hr3 hg3 ha3; have HR3 := Lib.hid (And.intro hr3 hg3); clear hr3 hg3 ha3)
      go_roundw
      case rel =>
        refine ⟨k + 1, by omega, by go_num, Lib.hid ⟨?_, (hh.out.2.trans (HBX.out.mono hwr)).grown HR3.out.2 (Nat.le_trans hwr HBX.out.size) (ownsRow_base hh.out.1)⟩⟩
        have h1 := HR3.out.1
        have e1 : ts.take (k + 1) = ts.take k ++ [y] := by
          have hkl : k < ts.length := by have := HN.out; omega
          have hy := HY.out
          rw [List.getD_eq_getElem?_getD, List.getElem?_eq_getElem hkl] at hy
          rw [List.take_add_one, List.getElem?_eq_getElem hkl]
          have hy' : ts[k] = y := hy
          rw [hy']
          rfl
        rw [e1, List.map_append, List.map_append]
        exact h1
      case measure => simp [intOf]; omega
    · have hkn : k = n := by omega
      subst hkn
      have hsl : ∃ A' c', u3 = .slice A' k c' := by
        rcases hh.out.1.2 with ⟨h1, h2⟩ | ⟨g, cap, cur, h1, -⟩
        · exact ⟨none, 0, by rw [h1, h2]⟩
        · exact ⟨_, _, h1⟩
      obtain ⟨A', c', rfl⟩ := hsl
      go_wp2_with fail
      go_ret
      have h1 := hh.out.1
      rw [List.take_of_length_le (by have := HN.out; omega)] at h1
      exact ⟨⟨_, rfl, h1⟩, hh.out.2⟩
end Go.Proofs.YtgccfdfbnhldbaaGreatDoor
