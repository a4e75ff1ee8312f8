/- X8 BN5 BN6 RZ2 RZ3 in one text. -/
import Derived.Test.YtbidlkmagbjllaaGreatDoorP36
import Derived.Test.YtbidlkmagbjllaaGreatDoorP37
import Derived.Test.YtbidlkmagbjllaaGreatDoorP17
import Derived.Test.YtbidlkmagbjllaaGreatDoorP35
import Derived.Test.YtbidlkmagbjllaaGreatDoorP29

namespace Go.Proofs.YtbidlkmagbjllaaGreatDoor
open Go Go.RowKit Nb Nx

theorem neg_flip {f : Nat} (hf : f < 18446744073709551616) : Op.negFloat .f64 f = (f + 9223372036854775808) % 18446744073709551616 := by
  show f ^^^ 2 ^ (11 + 52) = _
  apply Nat.eq_of_testBit_eq
  intro i
  have e : (f + 9223372036854775808) % 18446744073709551616 = (f / 9223372036854775808 + 1) % 2 * 2 ^ 63 + f % 2 ^ 63 := by
    rw [show (2 : Nat) ^ 63 = 9223372036854775808 by decide]
    omega
  rw [e, Nat.testBit_xor, Nat.testBit_two_pow]
  have hl : f % 2 ^ 63 < 2 ^ 63 := Nat.mod_lt _ (Nat.pow_pos (by omega))
  rw [Nat.mul_comm, Nat.testBit_two_pow_mul_add _ hl]
  by_cases h : i < 63
  · rw [if_pos h, Nat.testBit_mod_two_pow]
    have : ¬ 11 + 52 = i := by omega
    simp [h, this]
  · rw [if_neg h]
    by_cases h2 : i = 63
    · subst h2
      have h3 : f < 2 ^ 64 := hf
      simp only [Nat.testBit_eq_decide_div_mod_eq, show 11 + 52 = 63 by omega, Nat.sub_self, Nat.pow_zero, Nat.div_one, show (2 : Nat) ^ 63 = 9223372036854775808 by decide, decide_true, Bool.xor_true]
      have : f / 9223372036854775808 % 2 = 0 ∨ f / 9223372036854775808 % 2 = 1 := by omega
      rcases this with q | q
      · have : (f / 9223372036854775808 + 1) % 2 % 2 = 1 := by omega
        rw [q, this]; rfl
      · have : (f / 9223372036854775808 + 1) % 2 % 2 = 0 := by omega
        rw [q, this]; rfl
    · have h3 : f.testBit i = false := Nat.testBit_lt_two_pow (Nat.lt_of_lt_of_le hf (by rw [show (18446744073709551616 : Nat) = 2 ^ 64 by decide]; exact Nat.pow_le_pow_right (by omega) (by omega)))
      have h4 : ((f / 9223372036854775808 + 1) % 2).testBit (i - 63) = false := by
        apply Nat.testBit_lt_two_pow
        have := Nat.one_lt_two_pow (n := i - 63) (by omega)
        omega
      have h5 : ¬ 11 + 52 = i := by omega
      rw [h3, h4]
      simp [h5]

set_option maxRecDepth 8000 in
theorem inf_up (f : Nat) (w : World) (hf : f < 18446744073709551616) : Calls Tryz.prog 17 #[.float .f64 f, .int .i64 1] w fun e w' => e = .returned (.bool (decide (f = 9218868437227405312))) ∧ w' = w := by
  have hg := gt_max f hf
  generalize decide (f = 9218868437227405312) = q at hg
  go_enter Tryz.func17, Tryz.ntmps17
  go_wp2_with fail
  go_ret
  exact ⟨rfl, rfl⟩

set_option maxRecDepth 8000 in
theorem inf_down (f : Nat) (w : World) (hf : f < 18446744073709551616) : Calls Tryz.prog 17 #[.float .f64 f, .int .i64 (-1)] w fun e w' => e = .returned (.bool (decide (f = 18442240474082181120))) ∧ w' = w := by
  obtain ⟨f2, hf2⟩ : ∃ f2, (f + 9223372036854775808) % 18446744073709551616 = f2 := ⟨_, rfl⟩
  have hneg : ∀ W, (Op.unary .neg (.float .f64 f)).run Tryz.prog W = .ok (.float .f64 f2) W := fun W => by
    rw [← hf2, ← neg_flip hf]
    rfl
  have hg := gt_max f2 (by omega)
  have hd : decide (f = 18442240474082181120) = decide (f2 = 9218868437227405312) := by apply decide_eq_decide.2; omega
  rw [hd]
  clear hd hf2
  generalize decide (f2 = 9218868437227405312) = q at hg
  go_enter Tryz.func17, Tryz.ntmps17
  go_wp2_with fail
  go_ret
  exact ⟨rfl, rfl⟩

/-- the text of what is not finite -/
def specL (f : Nat) : List UInt8 := if nanN f = true then [110, 97, 110] else if f = 9218868437227405312 then [43, 105, 110, 102] else if f = 18442240474082181120 then [45, 105, 110, 102] else []
set_option maxRecDepth 8000 in
theorem special_any (f : Nat) (w : World) (hf : f < 18446744073709551616) : Calls Tryz.prog 26 #[.float .f64 f] w fun e w' => e = .returned (.tuple #[.string ⟨(specL f).toArray⟩, .bool (decide (specL f ≠ []))]) ∧ w' = w := by
  have hn := neq_self f
  have HU := Lib.hid (inf_up f w hf)
  have HD := Lib.hid (inf_down f w hf)
  unfold specL
  by_cases c1 : nanN f = true
  · rw [c1] at hn
    rw [if_pos c1]
    go_enter Tryz.func26, Tryz.ntmps26
    go_wp2_with fail
    go_ret2
    exact ⟨rfl, rfl⟩
  · rw [if_neg c1]
    rw [Bool.eq_false_iff.2 c1] at hn
    by_cases c2 : f = 9218868437227405312
    · rw [decide_eq_true c2] at HU
      rw [if_pos c2]
      clear c1 c2 hf
      go_enter Tryz.func26, Tryz.ntmps26
      go_wp2_with fail
      refine HU.out.mono ?_
      rintro e w1 ⟨rfl, hw⟩
      obtain rfl := hw.symm
      go_wp2_with fail
      go_ret2
      exact ⟨rfl, rfl⟩
    · rw [decide_eq_false c2] at HU
      rw [if_neg c2]
      by_cases c3 : f = 18442240474082181120
      · rw [decide_eq_true c3] at HD
        rw [if_pos c3]
        clear c1 c2 c3 hf
        go_enter Tryz.func26, Tryz.ntmps26
        go_wp2_with fail
        refine HU.out.mono ?_
        rintro e w1 ⟨rfl, hw⟩
        obtain rfl := hw.symm
        go_wp2_with fail
        refine HD.out.mono ?_
        rintro e w1 ⟨rfl, hw⟩
        obtain rfl := hw.symm
        go_wp2_with fail
        go_ret2
        exact ⟨rfl, rfl⟩
      · rw [decide_eq_false c3] at HD
        rw [if_neg c3]
        clear c1 c2 c3 hf
        go_enter Tryz.func26, Tryz.ntmps26
        go_wp2_with fail
        refine HU.out.mono ?_
        rintro e w1 ⟨rfl, hw⟩
        obtain rfl := hw.symm
        go_wp2_with fail
        refine HD.out.mono ?_
        rintro e w1 ⟨rfl, hw⟩
        obtain rfl := hw.symm
        go_wp2_with fail
        go_ret2
        exact ⟨rfl, rfl⟩

set_option maxRecDepth 8000 in
theorem signbit_any (f : Nat) (w : World) (hf : f < 18446744073709551616) : Calls Tryz.prog 70 #[.float .f64 f] w fun e w' => e = .returned (.bool (decide (9223372036854775808 ≤ f))) ∧ w' = w := by
  have hb := run_bits f
  have hs : decide (wrap64 (f : Int) < 0) = decide (9223372036854775808 ≤ f) := by
    apply decide_eq_decide.2
    unfold wrap64
    omega
  generalize decide (9223372036854775808 ≤ f) = q at hs
  go_enter Tryz.func70, Tryz.ntmps70
  go_wp2_with fail
  go_ret
  exact ⟨rfl, rfl⟩
/-- a sign ahead -/
def sgL (f : Nat) : List UInt8 := if 9223372036854775808 ≤ f then [45] else []
set_option maxRecDepth 8000 in
theorem begun_any (f : Nat) (w : World) (hf : f < 18446744073709551616) : Calls Tryz.prog 27 #[.float .f64 f] w fun e w' => e = .returned (.pointer (some ⟨w.heap.size, 0, none⟩)) ∧ Bld w' w.heap.size w.heap.size (sgL f) ∧ Below w.heap.size w w' := by
  have HB := Lib.hid (And.intro (Bld.new w) ((Below.refl w.heap.size w).alloc (Nat.le_refl _) (.cells #[.pointer none, .slice none 0 0] 63)))
  have HS := Lib.hid (fun W => signbit_any f W hf)
  unfold sgL
  by_cases c : 9223372036854775808 ≤ f
  · rw [decide_eq_true c] at HS
    rw [if_pos c]
    clear hf c
    go_enter Tryz.func27, Tryz.ntmps27
    go_wp2_with fail
    refine (HS.out _).mono ?_
    rintro e w1 ⟨rfl, rfl⟩
    go_wp2_with fail
    refine (wbyte w.heap.size w.heap.size [] 45 _ HB.out.1 (by decide) HB.out.2.size 45 rfl).mono ?_
    rintro e w2 ⟨rfl, d2, b2⟩
    have H2 := Lib.hid (And.intro d2 (HB.out.2.trans b2))
    clear d2 b2
    go_wp2_with fail
    go_ret
    exact ⟨rfl, H2.out.1, H2.out.2⟩
  · rw [decide_eq_false c] at HS
    rw [if_neg c]
    clear hf c
    go_enter Tryz.func27, Tryz.ntmps27
    go_wp2_with fail
    refine (HS.out _).mono ?_
    rintro e w1 ⟨rfl, rfl⟩
    go_wp2_with fail
    go_ret
    exact ⟨rfl, HB.out.1, HB.out.2⟩
end Go.Proofs.YtbidlkmagbjllaaGreatDoor

namespace Go.Proofs.YtbidlkmagbjllaaGreatDoor.Nb
open Go Go.RowKit Nx

set_option maxRecDepth 8000 in
theorem under_nil (b : Nat) (w : World) (h : w.cell? ⟨b, 3, none⟩ = some (.slice none 0 0)) :
    Calls Tryz.prog 103 #[.pointer (some ⟨b, 0, none⟩)] w fun e w' => (∃ v, e = .returned v) ∧ Below w.heap.size w w' := by
  go_enter Tryz.func103, Tryz.ntmps103
  go_wp2_with fail
  go_ret
  exact ⟨⟨_, rfl⟩, (Below.refl _ _).alloc (Nat.le_refl _) _⟩
/-- a fraction that nobody has set -/
structure RatO (w : World) (b : Nat) : Prop where
  l : b < w.heap.size
  c0 : w.cell? ⟨b, 0, none⟩ = some (.bool false)
  c1 : w.cell? ⟨b, 1, none⟩ = some (.slice none 0 0)
  c3 : w.cell? ⟨b, 3, none⟩ = some (.slice none 0 0)
theorem RatO.below {w w' : World} {b : Nat} (h : RatO w b) (k : Below w.heap.size w w') : RatO w' b :=
  ⟨Nat.lt_of_lt_of_le h.l k.size, (k.cell (p := ⟨b, 0, none⟩) (by exact h.l)).trans h.c0, (k.cell (p := ⟨b, 1, none⟩) (by exact h.l)).trans h.c1, (k.cell (p := ⟨b, 3, none⟩) (by exact h.l)).trans h.c3⟩
theorem RatO.new (w : World) (t : TypeId) : RatO (w.alloc (.cells #[.bool false, .slice none 0 0, .bool false, .slice none 0 0] t)) w.heap.size :=
  ⟨by simp, by simp [go_sem], by simp [go_sem], by simp [go_sem]⟩
set_option maxRecDepth 8000 in
set_option maxHeartbeats 1000000 in
theorem nearest_nil (E : Int) (x : Nat) (w : World) (hx : RatO w x) :
    Calls Tryz.prog 52 #[.pointer (some ⟨x, 0, none⟩), .int .i64 53, .int .i64 E] w fun e w' => e = .returned (.tuple #[.int .u64 0, .int .i64 E, .bool true]) ∧ Below w.heap.size w w' := by
  have HS := Lib.hid (fun (W : World) (hW : Below w.heap.size w W) => hx.below hW)
  have hcur : Below w.heap.size w w.drew := (Below.refl _ _).drew
  clear hx
  go_enter Tryz.func52, Tryz.ntmps52
  go_wp2_with fail
  go_region_held3 (fun w' => w'.cell? ⟨x, 1, none⟩ = some (.slice none 0 0)) (first | exact (HS.out _ hcur3).c1 | exact (HS.out _ hcur).c1) ((go_at_call 103; refine (under_nil x _ (HS.out _ hcur).c3).mono ?_; rintro e w3 ⟨⟨v, rfl⟩, b3⟩; have hcur3 : Below w.heap.size w w3 := back_of' hcur b3))
  all_goals go_wp2_with fail
  all_goals go_ret3
  all_goals exact ⟨rfl, hcur3⟩
set_option maxRecDepth 8000 in
set_option maxHeartbeats 1000000 in
theorem float64_nil (x : Nat) (w : World) (hx : RatO w x) :
    Calls Tryz.prog 16 #[.pointer (some ⟨x, 0, none⟩)] w fun e w' => e = .returned (.tuple #[.float .f64 0, .bool true]) ∧ Below w.heap.size w w' := by
  have HN := Lib.hid (nearest_nil (-1074) x w hx)
  have HX := Lib.hid (fun (W : World) (hW : Below w.heap.size w W) => hx.below hW)
  have HLN := Lib.hid (fun W => len_bits 0 0 W (by omega) (by decide))
  have hfb := run_frombits 0
  clear hx
  go_enter Tryz.func16, Tryz.ntmps16
  go_wp2_with fail
  refine HN.out.mono ?_
  rintro e w1 ⟨rfl, hb1⟩
  have y0 := (HX.out _ hb1).c0
  have HB := Lib.hid hb1
  clear hb1 HX HN
  go_wp2_with fail
  refine (HLN.out _).mono ?_
  rintro e w2 ⟨rfl, hw⟩
  obtain rfl := hw.symm
  go_wp2_with fail
  go_ret2
  exact ⟨rfl, HB.out⟩
set_option maxRecDepth 8000 in
set_option maxHeartbeats 2000000 in
theorem value_none (neg : Bool) (Z : ByteArray) (E : Int) (w : World) (hs : Z.size ≤ 1000000) (hE : -1000000000 ≤ E ∧ E ≤ 1000000000) (ht : Z.size = 0 ∨ E + (Z.size : Int) - 1 < -400) :
    Calls Tryz.prog 15 #[.agg #[.bool neg, .string Z, .int .i64 E]] w fun e w' => ∃ z, e = .returned (.tuple #[.pointer (some ⟨z, 0, none⟩), .bool true]) ∧ RatO w' z ∧ Below w.heap.size w w' := by
  have hB := (Below.refl w.heap.size w).alloc (Nat.le_refl _) (.cells #[.bool neg, .string Z, .int .i64 E] 46)
  have HB := Lib.hid (hB.alloc hB.size (.cells #[.bool false, .slice none 0 0, .bool false, .slice none 0 0] 104))
  have HR : Hid (RatO _ (w.heap.size + 1)) := Lib.hid (by have := RatO.new (w.alloc (.cells #[.bool neg, .string Z, .int .i64 E] 46)) 104; rwa [show (w.alloc (.cells #[.bool neg, .string Z, .int .i64 E] 46)).heap.size = w.heap.size + 1 by simp] at this)
  clear hB
  rcases Nat.eq_zero_or_pos Z.size with h0 | h0
  · have hz : Z = ⟨#[]⟩ := by
      have h1 := size_list Z
      have h2 : Z.data.toList = [] := List.length_eq_zero_iff.1 (by omega)
      cases Z with
      | mk d => cases d with
        | mk l => simp at h2; subst h2; rfl
    subst hz
    clear ht hs h0
    obtain ⟨h1, h2⟩ := hE
    go_enter Tryz.func15, Tryz.ntmps15
    go_wp2_with fail
    go_ret2
    exact ⟨_, rfl, HR.out, HB.out⟩
  · have he0 := not_empty_size h0
    have ht1 : E + (Z.size : Int) - 1 < -400 := by omega
    obtain ⟨h1, h2⟩ := hE
    clear ht
    go_enter Tryz.func15, Tryz.ntmps15
    go_wp2_with fail
    go_ret2
    exact ⟨_, rfl, HR.out, HB.out⟩
set_option maxRecDepth 8000 in
theorem inf_any (f : Nat) (w : World) (hf : f ≤ 9218868437227405312) : Calls Tryz.prog 17 #[.float .f64 f, .int .i64 0] w fun e w' => e = .returned (.bool (decide (f = 9218868437227405312))) ∧ w' = w := by
  have hg := gt_max f (by omega)
  generalize decide (f = 9218868437227405312) = q at hg
  have HA := Lib.hid (abs_pos f w (by
    have h := andnot_top (f := f) (by omega)
    rwa [Nat.mod_eq_of_lt (by omega)] at h))
  go_enter Tryz.func17, Tryz.ntmps17
  go_wp2_with fail
  refine HA.out.mono ?_
  rintro e w1 ⟨rfl, hw⟩
  obtain rfl := hw.symm
  go_wp2_with fail
  go_ret
  exact ⟨rfl, rfl⟩
set_option maxRecDepth 8000 in
theorem unspecial_no (s : ByteArray) (w : World) (u1 : (s.toList == [110, 97, 110]) = false) (u2 : (s.toList == [43, 105, 110, 102]) = false) (u3 : (s.toList == [45, 105, 110, 102]) = false) : Calls Tryz.prog 13 #[.string s] w fun e w' => e = .returned (.tuple #[.float .f64 0, .bool false]) ∧ w' = w := by
  go_enter Tryz.func13, Tryz.ntmps13
  go_wp2_with fail
  go_ret2
  exact ⟨rfl, rfl⟩
end Go.Proofs.YtbidlkmagbjllaaGreatDoor.Nb

namespace Go.Proofs.YtbidlkmagbjllaaGreatDoor.Nb
open Go Go.RowKit Nx

/-- the digits without the noughts ahead -/
def DTxt.key (t : DTxt) : List UInt8 := Lib.trimLeftB t.digs 48
/-- a text whose amount is taken for nought -/
def DTxt.low (t : DTxt) : Prop := t.key.length = 0 ∨ t.exp + (t.key.length : Int) - 1 < -400
/-- a text whose amount is beyond all numbers -/
def DTxt.high (t : DTxt) : Prop := ¬ t.low ∧ 400 < t.exp + (t.key.length : Int) - 1
/-- X: the bits of the number that is nearest to what a text says, without its sign -/
def DTxt.Amt (t : DTxt) (X : Nat) : Prop :=
  (t.low ∧ X = 0) ∨ (¬ t.low ∧ ¬ t.high ∧ ∃ p q, 0 < q ∧ p * 10 ^ (-t.exp).toNat = decN t.digs * 10 ^ t.exp.toNat * q ∧ Rnd 53 1074 p q X)
/-- what Parse answers of a decimal text -/
def DTxt.Says (t : DTxt) (f : Nat) (c : Int) : Prop :=
  (c = 5 ∧ f = 0 ∧ (t.high ∨ ∃ X, t.Amt X ∧ 9218868437227405312 ≤ X)) ∨ (c = 0 ∧ ∃ X, t.Amt X ∧ X < 9218868437227405312 ∧ f = X + (if t.neg = true then 9223372036854775808 else 0))
theorem beq_false_of_not {α} [BEq α] [LawfulBEq α] {a b : α} (h : a ≠ b) : (a == b) = false := by simpa using h
theorem dig_cases {l : List UInt8} (h : IsDig l) (hn : l ≠ []) : ∃ a r, l = a :: r ∧ 48 ≤ a.toNat ∧ a.toNat ≤ 57 := by
  cases l with
  | nil => exact absurd rfl hn
  | cons a r => exact ⟨a, r, rfl, h a List.mem_cons_self⟩
theorem text_plain {s : ByteArray} {t : DTxt} (hs : s.data.toList = t.list) (hok : t.Ok) : (s.toList == [110, 97, 110]) = false ∧ (s.toList == [43, 105, 110, 102]) = false ∧ (s.toList == [45, 105, 110, 102]) = false := by
  obtain ⟨a, r, h1, h2, h3⟩ := dig_cases hok.g1 hok.n1
  rw [Lib.toList_data, hs]
  unfold DTxt.list
  rw [h1]
  cases t.neg
  · refine ⟨?_, ?_, ?_⟩ <;> (apply beq_false_of_not; intro e; simp [sgn] at e; obtain ⟨rfl, -⟩ := e; simp at h2 h3)
  · refine ⟨?_, ?_, ?_⟩ <;> (apply beq_false_of_not; intro e; simp [sgn] at e)
    obtain ⟨rfl, -⟩ := e
    simp at h2 h3
theorem expZ_range (x : Option (Bool × List UInt8)) (h : ∀ b l, x = some (b, l) → IsDig l ∧ l ≠ []) : -1000000 ≤ expZ x ∧ expZ x ≤ 1000000 := by
  match x, h with
  | none, _ => simp [expZ]
  | some (b, l), h =>
    have hd := (h b l rfl).1
    have h1 := decN_lt (Lib.trimLeftB l 48) hd.trim
    unfold expZ
    simp only
    generalize decN (Lib.trimLeftB l 48) = n at *
    by_cases hl : (Lib.trimLeftB l 48).length < 6
    · have h2 : 10 ^ (Lib.trimLeftB l 48).length ≤ 10 ^ 6 := Nat.pow_le_pow_right (by omega) (by omega)
      simp only [if_pos hl]
      cases b <;> simp <;> omega
    · simp only [if_neg hl]
      cases b <;> simp
theorem fin_inf {X : Nat} : (finX X = 9218868437227405312 ↔ 9218868437227405312 ≤ X) ∧ finX X ≤ 9218868437227405312 := by
  unfold finX
  split <;> constructor <;> first | constructor <;> omega | omega
/-- from the amount on -/
theorem trim_len (l : List UInt8) : (Lib.trimLeftB l 48).length ≤ l.length := (List.dropWhile_suffix _).length_le
set_option maxRecDepth 8000 in
set_option maxHeartbeats 2000000 in
theorem parse_any (s : ByteArray) (t : DTxt) (w : World) (hs : s.data.toList = t.list) (hok : t.Ok) (hl : s.size ≤ 2000) :
    Calls Tryz.prog 6 #[.string s] w fun e w' => ∃ (f : Nat) (c : Int), e = .returned (.tuple #[.float .f64 f, .int .i64 c]) ∧ t.Says f c ∧ Below w.heap.size w w' := by
  obtain ⟨u1, u2, u3⟩ := text_plain hs hok
  have HS := Lib.hid (fun W => unspecial_no s W u1 u2 u3)
  have HU := Lib.hid (fun W => undecimal_any s t W hs hok (by omega))
  have hxr := expZ_range t.ex hok.g3
  have hlen : t.digs.length ≤ 2000 := by
    have h1 : s.size = t.list.length := by rw [← size_list, hs]
    have h2 : t.digs.length ≤ t.list.length := by
      unfold DTxt.digs DTxt.list fracT
      cases t.d2 <;> simp <;> omega
    omega
  have hd2 : (t.d2.getD []).length ≤ t.digs.length := by unfold DTxt.digs; simp
  have hE : -1002000 ≤ t.exp ∧ t.exp ≤ 1000000 := by unfold DTxt.exp; omega
  have hkey := trim_len t.digs
  obtain ⟨Z, hZ⟩ : ∃ Z : ByteArray, (⟨(Lib.trimLeftB t.digs 48).toArray⟩ : ByteArray) = Z := ⟨_, rfl⟩
  have hZl : Z.data.toList = t.key := by rw [← hZ]; rfl
  have hZs : Z.size = t.key.length := by rw [← size_list, hZl]
  have hZd : ∀ b ∈ Z.data.toList, 48 ≤ b.toNat ∧ b.toNat ≤ 57 := by
    have hd : IsDig t.digs := hok.g1.append (by
      cases h2 : t.d2 with
      | none => simp [IsDig]
      | some l => exact (hok.g2 l h2).1)
    rw [hZl]; exact hd.trim
  have hZD : decN Z.data.toList = decN t.digs := by rw [hZl]; exact decN_trim _
  rw [hZ] at HU
  have hk2 : Z.size ≤ 2000 := by rw [hZs]; unfold DTxt.key; omega
  have HV : Hid (∀ W, Calls Tryz.prog 15 #[.agg #[.bool t.neg, .string Z, .int .i64 t.exp]] W fun e W' => ((t.high ∧ e = .returned (.tuple #[.pointer none, .bool false])) ∨ (¬ t.high ∧ ∃ z, e = .returned (.tuple #[.pointer (some ⟨z, 0, none⟩), .bool true]) ∧ Calls Tryz.prog 16 #[.pointer (some ⟨z, 0, none⟩)] W' fun e' W2 => ∃ (X : Nat) (ex : Bool), e' = .returned (.tuple #[.float .f64 (finX X), .bool ex]) ∧ t.Amt X ∧ Below W'.heap.size W' W2)) ∧ Below W.heap.size W W') := Lib.hid (fun W => by
    by_cases hlo : t.low
    · refine (value_none t.neg Z t.exp W (by omega) (by omega) (by rw [hZs]; exact hlo)).mono ?_
      rintro e W' ⟨z, rfl, hr, hb⟩
      refine ⟨.inr ⟨fun h => h.1 hlo, z, rfl, (float64_nil z W' hr).mono ?_⟩, hb⟩
      rintro e' W2 ⟨rfl, hb2⟩
      exact ⟨0, true, rfl, .inl ⟨hlo, rfl⟩, hb2⟩
    · have h0 : 0 < Z.size := by
        rw [hZs]
        rcases Nat.eq_zero_or_pos t.key.length with q | q
        · exact absurd (.inl q) hlo
        · exact q
      by_cases hhi : 400 < t.exp + (t.key.length : Int) - 1
      · refine (value_over t.neg Z t.exp W h0 (by omega) (by omega) (by rw [hZs]; exact hhi)).mono ?_
        rintro e W' ⟨rfl, hb⟩
        exact ⟨.inl ⟨⟨hlo, hhi⟩, rfl⟩, hb⟩
      · have hnh : ¬ t.high := fun h => hhi h.2
        have h1 : -400 ≤ t.exp + (t.key.length : Int) - 1 := by
          by_cases h : t.exp + (t.key.length : Int) - 1 < -400
          · exact absurd (.inr h) hlo
          · omega
        refine (value_mid t.neg Z t.exp _ _ 10000 W hZd h0 (by omega) (by rw [hZs]; exact h1) (by rw [hZs]; omega) rfl rfl (by omega) (by omega)).mono ?_
        rintro e W' ⟨z, p, q, rfl, hr, he, hb⟩
        have hq0 : 0 < q := hr.2.2
        refine ⟨.inr ⟨hnh, z, rfl, (float64_any z p q 10000 W' hr (by omega) (by omega)).mono ?_⟩, hb⟩
        rintro e' W2 ⟨X, ex, rfl, hX, hb2⟩
        rw [hZD] at he
        exact ⟨X, ex, rfl, .inr ⟨hlo, hnh, p, q, hq0, he, hX⟩, hb2⟩)
  have hs2 : (s.size : Int) ≤ 2000 := by omega
  obtain ⟨E, hEe⟩ : ∃ E, t.exp = E := ⟨_, rfl⟩
  obtain ⟨neg, hneg⟩ : ∃ n, t.neg = n := ⟨_, rfl⟩
  have HN := Lib.hid hneg
  rw [hEe, hneg] at HU HV
  clear hxr hlen hd2 hE hkey hZ hZl hZs hZd hZD hk2 hEe hneg u1 u2 u3 hs hok
  go_enter Tryz.func6, Tryz.ntmps6
  go_wp2_with fail
  refine (HS.out w).mono ?_
  rintro e w1 ⟨rfl, hw⟩
  obtain rfl := hw.symm
  go_wp2_with fail
  refine (HU.out w).mono ?_
  rintro e w1 ⟨rfl, b1⟩
  have hb1 := b1.alloc b1.size (.cells #[.bool neg, .string Z, .int .i64 E] 46)
  have c1 : (w1.alloc (.cells #[.bool neg, .string Z, .int .i64 E] 46)).cell? ⟨w1.heap.size, 0, none⟩ = some (.bool neg) := by simp [go_sem]
  have hl1 : w1.heap.size < (w1.alloc (.cells #[.bool neg, .string Z, .int .i64 E] 46)).heap.size := by simp
  have HB1 := Lib.hid (And.intro hb1 (And.intro c1 hl1))
  clear b1 hb1 c1 hl1
  go_wp2_with fail
  refine (HV.out _).mono ?_
  rintro e w2 ⟨hh, b2⟩
  have HB2 := Lib.hid (And.intro (back_of' HB1.out.1 b2) (And.intro ((b2.cell (p := ⟨w1.heap.size, 0, none⟩) HB1.out.2.2).trans HB1.out.2.1) (Nat.lt_of_lt_of_le HB1.out.2.2 b2.size)))
  clear b2
  rcases hh with ⟨hhi, rfl⟩ | ⟨hnh, z, rfl, hc⟩
  · have HF : Hid (t.Says 0 5) := Lib.hid (.inl ⟨rfl, rfl, .inl hhi⟩)
    clear hhi
    go_wp2_with fail
    go_ret2
    exact ⟨0, 5, rfl, HF.out, HB2.out.1⟩
  · have HC := Lib.hid hc
    clear hc hnh
    go_wp2_with fail
    refine HC.out.mono ?_
    rintro e w3 ⟨X, ex, rfl, ha, b3⟩
    have HB3 := Lib.hid (back_of' HB2.out.1 b3)
    have c3 := (b3.cell (p := ⟨w1.heap.size, 0, none⟩) HB2.out.2.2).trans HB2.out.2.1
    have HA := Lib.hid ha
    obtain ⟨F, hF⟩ : ∃ F, finX X = F := ⟨_, rfl⟩
    have hF1 := fin_inf (X := X)
    rw [hF] at hF1 ⊢
    have HI := Lib.hid (fun W => inf_any F W hF1.2)
    clear b3 ha
    by_cases hov : 9218868437227405312 ≤ X
    · have hd : decide (F = 9218868437227405312) = true := by simpa using hF1.1.2 hov
      rw [hd] at HI
      have HF : Hid (t.Says 0 5) := Lib.hid (.inl ⟨rfl, rfl, .inr ⟨X, HA.out, hov⟩⟩)
      clear hov hd hF hF1
      go_wp2_with fail
      refine (HI.out _).mono ?_
      rintro e w4 ⟨rfl, hw⟩
      obtain rfl := hw.symm
      go_wp2_with fail
      go_ret2
      exact ⟨0, 5, rfl, HF.out, HB3.out⟩
    · have hd : decide (F = 9218868437227405312) = false := by
        apply decide_eq_false
        intro h
        exact hov (hF1.1.1 h)
      rw [hd] at HI
      have hFX : F = X := by rw [← hF]; unfold finX; rw [if_pos (by omega)]
      cases neg
      · have HF : Hid (t.Says F 0) := Lib.hid (.inr ⟨rfl, X, HA.out, by omega, by rw [HN.out, hFX]; rfl⟩)
        clear hov hd hF hF1 hFX
        go_wp2_with fail
        refine (HI.out _).mono ?_
        rintro e w4 ⟨rfl, hw⟩
        obtain rfl := hw.symm
        go_wp2_with fail
        go_ret2
        exact ⟨F, 0, rfl, HF.out, HB3.out⟩
      · obtain ⟨F2, hF2⟩ : ∃ F2, F + 9223372036854775808 = F2 := ⟨_, rfl⟩
        have hneg : ∀ W, (Op.unary .neg (.float .f64 F)).run Tryz.prog W = .ok (.float .f64 F2) W := fun W => by
          have h := neg_flip (f := F) (by omega)
          rw [Nat.mod_eq_of_lt (by omega), hF2] at h
          rw [← h]
          rfl
        have HF : Hid (t.Says F2 0) := Lib.hid (.inr ⟨rfl, X, HA.out, by omega, by rw [HN.out, ← hF2, hFX]; rfl⟩)
        clear hov hd hF hF1 hFX hF2
        go_wp2_with fail
        refine (HI.out _).mono ?_
        rintro e w4 ⟨rfl, hw⟩
        obtain rfl := hw.symm
        go_wp2_with fail
        go_ret2
        exact ⟨F2, 0, rfl, HF.out, HB3.out⟩
end Go.Proofs.YtbidlkmagbjllaaGreatDoor.Nb

namespace Go.Proofs.YtbidlkmagbjllaaGreatDoor.Nb
open Go Nx

theorem fold_ge : ∀ (l : List UInt8) (a : Nat), a * 10 ^ l.length ≤ l.foldl (fun n b => n * 10 + (b.toNat - 48)) a
  | [], a => by simp
  | b :: l, a => by
    have h := fold_ge l (a * 10 + (b.toNat - 48))
    rw [List.foldl_cons, List.length_cons, Nat.pow_succ, Nat.mul_comm (10 ^ l.length), ← Nat.mul_assoc]
    exact Nat.le_trans (Nat.mul_le_mul_right _ (by omega)) h
theorem decN_ge {l : List UInt8} (h : IsDig l) (h0 : l.head? ≠ some 48) (hn : l ≠ []) : 10 ^ (l.length - 1) ≤ decN l := by
  cases l with
  | nil => exact absurd rfl hn
  | cons a t =>
    have h1 := h a List.mem_cons_self
    have h2 : a.toNat ≠ 48 := fun e => h0 (by simp; exact UInt8.toNat_inj.1 e)
    have h3 := fold_ge t (a.toNat - 48)
    have e : decN (a :: t) = t.foldl (fun n b => n * 10 + (b.toNat - 48)) (a.toNat - 48) := by simp [decN]
    rw [e, List.length_cons, Nat.add_sub_cancel]
    refine Nat.le_trans ?_ h3
    exact Nat.le_mul_of_pos_left _ (by omega)
theorem trim_head : ∀ l : List UInt8, (Lib.trimLeftB l 48).head? ≠ some 48
  | [] => by simp [Lib.trimLeftB]
  | a :: l => by
    unfold Lib.trimLeftB
    rw [List.dropWhile_cons]
    by_cases h : (a == 48) = true
    · rw [if_pos h]; exact trim_head l
    · rw [if_neg h]; simp; intro e; exact h (by simp [e])
theorem DTxt.Ok.dig {t : DTxt} (hok : t.Ok) : IsDig t.digs := hok.g1.append (by
  cases h2 : t.d2 with
  | none => simp [IsDig]
  | some l => exact (hok.g2 l h2).1)
theorem key_range {t : DTxt} (hok : t.Ok) : (t.key.length = 0 → decN t.digs = 0) ∧ (0 < t.key.length → 10 ^ (t.key.length - 1) ≤ decN t.digs) ∧ decN t.digs < 10 ^ t.key.length := by
  have e : decN t.digs = decN t.key := (decN_trim _).symm
  rw [e]
  have hd : IsDig t.key := hok.dig.trim
  have h3 := decN_lt t.key hd
  refine ⟨fun h => ?_, fun h => decN_ge hd (trim_head _) (by intro c; rw [c] at h; simp at h), h3⟩
  rw [h, Nat.pow_zero] at h3
  omega
/-- an exponent as the reference reads it -/
def expRZ : Option (Bool × List UInt8) → Int
  | none => 0
  | some (b, l) => if b = true then -(min (decN l) 20000 : Nat) else (min (decN l) 20000 : Nat)
def DTxt.expR (t : DTxt) : Int := -((t.d2.getD []).length : Int) + expRZ t.ex
theorem exp_cap {l : List UInt8} (h : IsDig l) : (if (Lib.trimLeftB l 48).length < 6 then (decN (Lib.trimLeftB l 48) : Int) else 100000) = (min (decN l) 100000 : Nat) := by
  rw [decN_trim]
  have h1 := decN_lt (Lib.trimLeftB l 48) h.trim
  have h2 := decN_ge h.trim (trim_head l)
  rw [decN_trim] at h1 h2
  by_cases c : (Lib.trimLeftB l 48).length < 6
  · have h3 : 10 ^ (Lib.trimLeftB l 48).length ≤ 10 ^ 5 := Nat.pow_le_pow_right (by omega) (by omega)
    rw [if_pos c]
    omega
  · have h3 : 10 ^ 5 ≤ 10 ^ ((Lib.trimLeftB l 48).length - 1) := Nat.pow_le_pow_right (by omega) (by omega)
    have h4 := h2 (by intro e; rw [e] at c; simp at c)
    rw [if_neg c]
    omega
theorem exp_two {t : DTxt} (hok : t.Ok) : ∃ (N : Nat) (b : Bool), t.exp = -((t.d2.getD []).length : Int) + (if b = true then -((min N 100000 : Nat) : Int) else (min N 100000 : Nat)) ∧ t.expR = -((t.d2.getD []).length : Int) + (if b = true then -((min N 20000 : Nat) : Int) else (min N 20000 : Nat)) := by
  unfold DTxt.exp DTxt.expR
  cases hx : t.ex with
  | none => exact ⟨0, false, by simp [expZ], by simp [expRZ]⟩
  | some p =>
    obtain ⟨b, l⟩ := p
    have hd := (hok.g3 b l hx).1
    refine ⟨decN l, b, ?_, rfl⟩
    unfold expZ
    simp only [exp_cap hd]
structure Sizes (t : DTxt) : Prop where
  f : (t.d2.getD []).length ≤ 2000
  n : t.key.length ≤ 2000
theorem sizes_of {t : DTxt} (h : t.list.length ≤ 2000) : Sizes t := by
  have h1 : t.digs.length ≤ t.list.length := by
    unfold DTxt.digs DTxt.list fracT
    cases t.d2 <;> simp <;> omega
  have h2 : (t.d2.getD []).length ≤ t.digs.length := by unfold DTxt.digs; simp
  have h3 := trim_len t.digs
  exact ⟨by omega, by unfold DTxt.key; omega⟩
theorem mid_exp {t : DTxt} (hok : t.Ok) (hs : Sizes t) (h1 : ¬ t.low) (h2 : ¬ t.high) : t.expR = t.exp ∧ 0 < t.key.length ∧ -400 ≤ t.exp + (t.key.length : Int) - 1 ∧ t.exp + (t.key.length : Int) - 1 ≤ 400 := by
  obtain ⟨N, b, e1, e2⟩ := exp_two hok
  have a := hs.f
  have c := hs.n
  unfold DTxt.high at h2
  have h3 : ¬ 400 < t.exp + (t.key.length : Int) - 1 := fun h => h2 ⟨h1, h⟩
  unfold DTxt.low at h1
  refine ⟨?_, by omega, by omega, by omega⟩
  cases b
  · simp only [Bool.false_eq_true, if_false] at e1 e2; omega
  · simp only [if_true] at e1 e2; omega
theorem low_exp {t : DTxt} (hok : t.Ok) (hs : Sizes t) (h1 : t.low) : decN t.digs = 0 ∨ t.expR + (t.key.length : Int) - 1 < -400 := by
  obtain ⟨N, b, e1, e2⟩ := exp_two hok
  have a := hs.f
  have c := hs.n
  rcases h1 with h | h
  · exact .inl ((key_range hok).1 h)
  · right
    cases b
    · simp only [Bool.false_eq_true, if_false] at e1 e2; omega
    · simp only [if_true] at e1 e2; omega
theorem amt_mono {t t' : DTxt} (ok : t.Ok) (ok' : t'.Ok) (hs : Sizes t) (hs' : Sizes t') {X X' : Nat} (h : t.Amt X) (h' : t'.Amt X') {e : Int} (hm : e = min t.expR t'.expR)
    (hle : decN t.digs * 10 ^ (t.expR - e).toNat ≤ decN t'.digs * 10 ^ (t'.expR - e).toNat) : X ≤ X' := by
  have he : e ≤ t.expR := by omega
  have he' : e ≤ t'.expR := by omega
  rcases h with ⟨-, rfl⟩ | ⟨l1, g1, p, q, hq, hp, hX⟩
  · omega
  · obtain ⟨m1, m2, m3, m4⟩ := mid_exp ok hs l1 g1
    obtain ⟨k1, k2, k3⟩ := key_range ok
    obtain ⟨j1, j2, j3⟩ := key_range ok'
    have hD := k2 m2
    rcases h' with ⟨l1', -⟩ | ⟨l1', g1', p', q', hq', hp', hX'⟩
    · exfalso
      have hD0 : 0 < decN t.digs := Nat.lt_of_lt_of_le (Nat.pow_pos (by omega)) hD
      have hL : 0 < decN t.digs * 10 ^ (t.expR - e).toNat := Nat.mul_pos hD0 (Nat.pow_pos (by omega))
      rcases low_exp ok' hs' l1' with z | z
      · rw [z, Nat.zero_mul] at hle; omega
      · have a1 : 10 ^ (t.key.length - 1) * 10 ^ (t.expR - e).toNat ≤ decN t.digs * 10 ^ (t.expR - e).toNat := Nat.mul_le_mul_right _ hD
        have a2 : decN t'.digs * 10 ^ (t'.expR - e).toNat < 10 ^ t'.key.length * 10 ^ (t'.expR - e).toNat := Nat.mul_lt_mul_of_pos_right j3 (Nat.pow_pos (by omega))
        rw [← Nat.pow_add] at a1 a2
        have a3 : 10 ^ (t.key.length - 1 + (t.expR - e).toNat) < 10 ^ (t'.key.length + (t'.expR - e).toNat) := by omega
        have a4 := (Nat.pow_lt_pow_iff_right (a := 10) (by omega)).1 a3
        omega
    · obtain ⟨m1', m2', m3', m4'⟩ := mid_exp ok' hs' l1' g1'
      rw [m1, m1'] at hm
      rw [m1] at he hle
      rw [m1'] at he' hle
      refine rnd_mono hX hX' (by omega) hq hq' ?_
      generalize decN t.digs = D at *
      generalize decN t'.digs = D' at *
      obtain ⟨z, hz⟩ : ∃ z : Nat, t.exp.toNat + (-t'.exp).toNat = (t.exp - e).toNat + z ∧ t'.exp.toNat + (-t.exp).toNat = (t'.exp - e).toNat + z := ⟨(((-t.exp).toNat : Int) + ((-t'.exp).toNat : Int) + e).toNat, by omega⟩
      have hpw : D * 10 ^ t.exp.toNat * 10 ^ (-t'.exp).toNat ≤ D' * 10 ^ t'.exp.toNat * 10 ^ (-t.exp).toNat := by
        rw [Nat.mul_assoc, Nat.mul_assoc, ← Nat.pow_add, ← Nat.pow_add, hz.1, hz.2, Nat.pow_add, Nat.pow_add, ← Nat.mul_assoc, ← Nat.mul_assoc]
        exact Nat.mul_le_mul_right _ hle
      generalize 10 ^ t.exp.toNat = r at *
      generalize 10 ^ t'.exp.toNat = r' at *
      obtain ⟨s, hs0⟩ : ∃ s, 10 ^ (-t.exp).toNat = s := ⟨_, rfl⟩
      obtain ⟨s', hs0'⟩ : ∃ s, 10 ^ (-t'.exp).toNat = s := ⟨_, rfl⟩
      have hsp : 0 < s := by rw [← hs0]; exact Nat.pow_pos (by omega)
      have hsp' : 0 < s' := by rw [← hs0']; exact Nat.pow_pos (by omega)
      rw [hs0] at hp hpw
      rw [hs0'] at hp' hpw
      have b1 : p * q' * (s * s') = D * r * s' * (q * q') := by
        have : p * q' * (s * s') = p * s * (q' * s') := by ac_rfl
        rw [this, hp]; ac_rfl
      have b2 : p' * q * (s * s') = D' * r' * s * (q * q') := by
        have : p' * q * (s * s') = p' * s' * (q * s) := by ac_rfl
        rw [this, hp']; ac_rfl
      have b3 : p * q' * (s * s') ≤ p' * q * (s * s') := by rw [b1, b2]; exact Nat.mul_le_mul_right _ hpw
      exact Nat.le_of_mul_le_mul_right b3 (Nat.mul_pos hsp hsp')
end Go.Proofs.YtbidlkmagbjllaaGreatDoor.Nb

namespace Go.Proofs.YtbidlkmagbjllaaGreatDoor.Nb
open Go Nx

theorem amt_zero {t : DTxt} (ok : t.Ok) {X : Nat} (h : t.Amt X) (hD : decN t.digs = 0) : X = 0 := by
  rcases h with ⟨-, rfl⟩ | ⟨l1, -, -⟩
  · rfl
  · exfalso
    apply l1
    left
    rcases Nat.eq_zero_or_pos t.key.length with q | q
    · exact q
    · have := (key_range ok).2.1 q
      have h2 : 0 < 10 ^ (t.key.length - 1) := Nat.pow_pos (by omega)
      omega
/-- the digits by a lower power of ten, with the sign -/
def DTxt.num (t : DTxt) (e : Int) : Int := sv t.neg (decN t.digs * 10 ^ (t.expR - e).toNat)
theorem says_ok {t : DTxt} {f : Nat} (h : t.Says f 0) : ∃ X, t.Amt X ∧ X < 9218868437227405312 ∧ f = fl t.neg X := by
  rcases h with ⟨h, -⟩ | ⟨-, X, h1, h2, h3⟩
  · omega
  · exact ⟨X, h1, h2, h3⟩
theorem near_le2 {t t' : DTxt} (ok : t.Ok) (ok' : t'.Ok) (hs : Sizes t) (hs' : Sizes t') {X X' : Nat} (h : t.Amt X) (h' : t'.Amt X') {e : Int} (hm : e = min t.expR t'.expR) (hle : t.num e ≤ t'.num e) : sv t.neg X ≤ sv t'.neg X' := by
  have m1 := amt_mono ok ok' hs hs' h h' hm
  have m2 := amt_mono ok' ok hs' hs h' h (e := e) (by omega)
  have z1 := amt_zero ok h
  have z2 := amt_zero ok' h'
  unfold DTxt.num sv at hle
  have p1 : 0 < 10 ^ (t.expR - e).toNat := Nat.pow_pos (by omega)
  have p2 : 0 < 10 ^ (t'.expR - e).toNat := Nat.pow_pos (by omega)
  generalize ha : decN t.digs * 10 ^ (t.expR - e).toNat = a at *
  generalize hb : decN t'.digs * 10 ^ (t'.expR - e).toNat = b at *
  have y1 : a = 0 → X = 0 := fun h0 => z1 (by
    rw [h0] at ha
    rcases Nat.mul_eq_zero.1 ha with q | q
    · exact q
    · omega)
  have y2 : b = 0 → X' = 0 := fun h0 => z2 (by
    rw [h0] at hb
    rcases Nat.mul_eq_zero.1 hb with q | q
    · exact q
    · omega)
  unfold sv
  cases hn : t.neg <;> cases hn' : t'.neg <;> rw [hn, hn'] at hle <;> simp only [Bool.false_eq_true, if_false, if_true] at hle ⊢
  · have := m1 (by omega); omega
  · have := y1 (by omega); have := y2 (by omega); omega
  · omega
  · have := m2 (by omega); omega
/-- a text's value as the reference's exact number: the magnitude, the power of two -/
inductive RefV (t : DTxt) : Nat → Int → Prop
  | zero : decN t.digs = 0 → RefV t 0 0
  | pos : 0 < decN t.digs → 0 ≤ t.expR → RefV t (decN t.digs * 10 ^ (min t.expR 8000).toNat) 0
  | neg (k up : Nat) : 0 < decN t.digs → t.expR < 0 → (k : Int) = min (-t.expR) 8000 → 2 ^ up ≤ 10 ^ k → 10 ^ k < 2 ^ (up + 1) → RefV t (2 * (decN t.digs * 2 ^ (up + 201) / 10 ^ k) + (if decN t.digs * 2 ^ (up + 201) % 10 ^ k = 0 then 0 else 1)) (-((up + 202 : Nat) : Int))
theorem far_mag {t t' : DTxt} (ok : t.Ok) (ok' : t'.Ok) (hs : Sizes t) (hs' : Sizes t') (l : ¬ t.low) (g : ¬ t.high) (l' : t'.low) (hfar : t.expR + 20000 < t'.expR ∨ t'.expR + 20000 < t.expR) {n n' : Nat} {x x' : Int} (h : RefV t n x) (h' : RefV t' n' x') :
    n' * 2 ^ (x' - min x x').toNat < n * 2 ^ (x - min x x').toNat := by
  obtain ⟨m1, m2, m3, m4⟩ := mid_exp ok hs l g
  obtain ⟨k1, k2, k3⟩ := key_range ok
  obtain ⟨j1, j2, j3⟩ := key_range ok'
  have hn := hs.n
  have hn' := hs'.n
  have hD : 0 < decN t.digs := Nat.lt_of_lt_of_le (Nat.pow_pos (by omega)) (k2 m2)
  have hp0 : 0 < n := by
    cases h with
    | zero h0 => omega
    | pos _ _ => exact Nat.mul_pos hD (Nat.pow_pos (by omega))
    | neg k up h1 h2 h3 h4 h5 =>
      have h6 : 10 ^ k ≤ decN t.digs * 2 ^ (up + 201) := by
        have h7 : 1 * 2 ^ (up + 201) ≤ decN t.digs * 2 ^ (up + 201) := Nat.mul_le_mul_right _ hD
        have h8 : 2 ^ (up + 1) ≤ 2 ^ (up + 201) := Nat.pow_le_pow_right (by omega) (by omega)
        omega
      have h9 : 1 ≤ decN t.digs * 2 ^ (up + 201) / 10 ^ k := by
        rw [Nat.le_div_iff_mul_le (Nat.pow_pos (by omega))]; omega
      omega
  cases h' with
  | zero h0 => rw [Nat.zero_mul]; exact Nat.mul_pos hp0 (Nat.pow_pos (by omega))
  | pos h0 h1 =>
    exfalso
    rcases low_exp ok' hs' l' with z | z
    · omega
    · rcases Nat.eq_zero_or_pos t'.key.length with q | q
      · have := j1 q; omega
      · omega
  | neg k' up' h1' h2' h3' h4' h5' =>
    obtain ⟨B1, B2, B3, hB1, hB2, hB3, hB4⟩ : ∃ B1 B2 B3 : Nat, B2 + B1 = 8000 ∧ 2000 ≤ B1 ∧ 2400 ≤ B3 ∧ B3 + 1 ≤ B2 := ⟨2000, 6000, 2400, by omega, by omega, by omega, by omega⟩
    have hn1 : t'.key.length ≤ B1 := by omega
    have hfar2 : t'.expR + 20000 < t.expR := by omega
    have hk' : k' = 8000 := by omega
    obtain ⟨q', hq'⟩ : ∃ q, decN t'.digs * 2 ^ (up' + 201) / 10 ^ k' = q := ⟨_, rfl⟩
    have hq1 : q' * 10 ^ B2 < 2 ^ (up' + 201) := by
      have a1 : q' * 10 ^ k' ≤ decN t'.digs * 2 ^ (up' + 201) := by rw [← hq']; exact Nat.div_mul_le_self _ _
      have a2 : decN t'.digs * 2 ^ (up' + 201) < 10 ^ B1 * 2 ^ (up' + 201) := Nat.mul_lt_mul_of_pos_right (Nat.lt_of_lt_of_le j3 (Nat.pow_le_pow_right (by omega) hn1)) (Nat.pow_pos (by omega))
      have e : (10 : Nat) ^ k' = 10 ^ B2 * 10 ^ B1 := by rw [← Nat.pow_add]; congr 1; omega
      rw [e, ← Nat.mul_assoc] at a1
      rw [Nat.mul_comm (10 ^ B1)] at a2
      exact Nat.lt_of_mul_lt_mul_right (Nat.lt_of_le_of_lt a1 a2)
    rw [hq']
    have hr : 2 * q' + (if decN t'.digs * 2 ^ (up' + 201) % 10 ^ k' = 0 then 0 else 1) ≤ 2 * q' + 1 := by split <;> omega
    refine Nat.lt_of_le_of_lt (Nat.mul_le_mul_right _ hr) ?_
    cases h with
    | zero h0 => omega
    | pos _ _ =>
      have e1 : (-((up' + 202 : Nat) : Int) - min 0 (-((up' + 202 : Nat) : Int))).toNat = 0 := by omega
      have e2 : ((0 : Int) - min 0 (-((up' + 202 : Nat) : Int))).toNat = up' + 202 := by omega
      rw [e1, e2, Nat.pow_zero, Nat.mul_one]
      have h6 : 1 * 2 ^ (up' + 202) ≤ decN t.digs * 10 ^ (min t.expR 8000).toNat * 2 ^ (up' + 202) := Nat.mul_le_mul_right _ hp0
      have h7 : q' * 1 ≤ q' * 10 ^ B2 := Nat.mul_le_mul_left _ (Nat.pow_pos (by omega))
      have h8 : 2 ^ (up' + 202) = 2 * 2 ^ (up' + 201) := by rw [show up' + 202 = up' + 201 + 1 by omega, Nat.pow_succ, Nat.mul_comm]
      omega
    | neg k up h1 h2 h3 h4 h5 =>
      have hk : k ≤ B3 := by omega
      have hup : up ≤ up' := by
        have a1 : 10 ^ k ≤ 10 ^ k' := Nat.pow_le_pow_right (by omega) (by omega)
        have a2 : 2 ^ up < 2 ^ (up' + 1) := by omega
        have := (Nat.pow_lt_pow_iff_right (a := 2) (by omega)).1 a2
        omega
      obtain ⟨d, rfl⟩ : ∃ d, up' = up + d := ⟨up' - up, by omega⟩
      have e1 : (-((up + d + 202 : Nat) : Int) - min (-((up + 202 : Nat) : Int)) (-((up + d + 202 : Nat) : Int))).toNat = 0 := by omega
      have e2 : (-((up + 202 : Nat) : Int) - min (-((up + 202 : Nat) : Int)) (-((up + d + 202 : Nat) : Int))).toNat = d := by omega
      rw [e1, e2, Nat.pow_zero, Nat.mul_one]
      obtain ⟨q, hq⟩ : ∃ q, decN t.digs * 2 ^ (up + 201) / 10 ^ k = q := ⟨_, rfl⟩
      rw [hq]
      have hten : 0 < 10 ^ k := Nat.pow_pos (by omega)
      have b1 : 2 ^ (up + 201) < 10 ^ k * (q + 1) := by
        have a1 := Nat.lt_mul_div_succ (decN t.digs * 2 ^ (up + 201)) hten
        rw [hq] at a1
        have a2 : 1 * 2 ^ (up + 201) ≤ decN t.digs * 2 ^ (up + 201) := Nat.mul_le_mul_right _ hD
        omega
      have b2 : 1 ≤ q := by
        rw [← hq, Nat.le_div_iff_mul_le hten]
        have h7 : 1 * 2 ^ (up + 201) ≤ decN t.digs * 2 ^ (up + 201) := Nat.mul_le_mul_right _ hD
        have h8 : 2 ^ (up + 1) ≤ 2 ^ (up + 201) := Nat.pow_le_pow_right (by omega) (by omega)
        omega
      have b3 : 10 ^ k * (q + 1) ≤ 10 ^ B3 * (2 * q) := Nat.mul_le_mul (Nat.pow_le_pow_right (by omega) hk) (by omega)
      have b4 : q' * 10 ^ B2 < 10 ^ B3 * (2 * q) * 2 ^ d := by
        have c1 : 2 ^ (up + d + 201) = 2 ^ (up + 201) * 2 ^ d := by rw [← Nat.pow_add, Nat.add_right_comm up d 201]
        rw [c1] at hq1
        refine Nat.lt_of_lt_of_le hq1 (Nat.mul_le_mul_right _ ?_)
        omega
      have b5 : q' < q * 2 ^ d := by
        have c2 : q * 2 ^ d * (10 ^ B3 * 2) = 10 ^ B3 * (2 * q) * 2 ^ d := by ac_rfl
        have c3 : (10 : Nat) ^ B3 * 2 ≤ 10 ^ B2 := by
          have c4 : (10 : Nat) ^ (B3 + 1) ≤ 10 ^ B2 := Nat.pow_le_pow_right (by omega) (by omega)
          have c5 : (10 : Nat) ^ (B3 + 1) = 10 ^ B3 * 10 := Nat.pow_succ ..
          have c6 : 10 ^ B3 * 2 ≤ 10 ^ B3 * 10 := Nat.mul_le_mul_left _ (by omega)
          omega
        have c7 : q' * (10 ^ B3 * 2) ≤ q' * 10 ^ B2 := Nat.mul_le_mul_left _ c3
        have c8 : q' * (10 ^ B3 * 2) < q * 2 ^ d * (10 ^ B3 * 2) := by rw [c2]; omega
        exact Nat.lt_of_mul_lt_mul_right c8
      have b6 : (2 * q) * 2 ^ d ≤ (2 * q + (if decN t.digs * 2 ^ (up + 201) % 10 ^ k = 0 then 0 else 1)) * 2 ^ d := Nat.mul_le_mul_right _ (by omega)
      rw [Nat.mul_assoc] at b6
      omega
theorem far_le {t t' : DTxt} (ok : t.Ok) (ok' : t'.Ok) (hs : Sizes t) (hs' : Sizes t') {X X' : Nat} (h : t.Amt X) (h' : t'.Amt X') (hfar : t.expR + 20000 < t'.expR ∨ t'.expR + 20000 < t.expR) {n n' : Nat} {x x' : Int} (hv : RefV t n x) (hv' : RefV t' n' x')
    (hle : sv t.neg (n * 2 ^ (x - min x x').toNat) ≤ sv t'.neg (n' * 2 ^ (x' - min x x').toNat)) : sv t.neg X ≤ sv t'.neg X' := by
  rcases h with ⟨l, rfl⟩ | ⟨l, g, -⟩ <;> rcases h' with ⟨l', rfl⟩ | ⟨l', g', -⟩
  · unfold sv; split <;> split <;> omega
  · have hm := far_mag ok' ok hs' hs l' g' l hfar.symm hv' hv
    rw [Int.min_comm] at hm
    generalize n * 2 ^ (x - min x x').toNat = a at *
    generalize n' * 2 ^ (x' - min x x').toNat = b at *
    unfold sv at *
    cases hn : t.neg <;> cases hn' : t'.neg <;> rw [hn, hn'] at hle <;> simp only [Bool.false_eq_true, if_false, if_true] at hle ⊢ <;> omega
  · have hm := far_mag ok ok' hs hs' l g l' hfar hv hv'
    generalize n * 2 ^ (x - min x x').toNat = a at *
    generalize n' * 2 ^ (x' - min x x').toNat = b at *
    unfold sv at *
    cases hn : t.neg <;> cases hn' : t'.neg <;> rw [hn, hn'] at hle <;> simp only [Bool.false_eq_true, if_false, if_true] at hle ⊢ <;> omega
  · obtain ⟨m1, m2, m3, m4⟩ := mid_exp ok hs l g
    obtain ⟨m1', m2', m3', m4'⟩ := mid_exp ok' hs' l' g'
    have := hs.n
    have := hs'.n
    omega
end Go.Proofs.YtbidlkmagbjllaaGreatDoor.Nb
