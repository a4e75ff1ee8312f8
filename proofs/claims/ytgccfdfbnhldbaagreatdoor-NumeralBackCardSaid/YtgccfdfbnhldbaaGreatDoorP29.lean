/- BN6 RZ2 HD4 HF1 HF2 HD1 HD2 in one text. -/
import Derived.Test.YtgccfdfbnhldbaaGreatDoorP28
import Derived.Test.YtgccfdfbnhldbaaGreatDoorP26
import Derived.Test.YtgccfdfbnhldbaaGreatDoorP16
import Derived.Test.YtgccfdfbnhldbaaGreatDoorP27
import Derived.Test.YtgccfdfbnhldbaaGreatDoorP18
import GoSem.Core.Float

namespace Go.Proofs.YtgccfdfbnhldbaaGreatDoor.Nb
open Go Go.RowKit Nx

/-- the digits without the noughts ahead -/
def DTxt.key (t : DTxt) : List UInt8 := Lib.trimLeftB t.digs 48
/-- a text whose amount is taken for nought -/
def DTxt.low (t : DTxt) : Prop := t.key.length = 0 ∨ t.exp + (t.key.length : Int) - 1 < -400
/-- a text whose amount is beyond all numbers -/
def DTxt.high (t : DTxt) : Prop := ¬ t.low ∧ 400 < t.exp + (t.key.length : Int) - 1
/-- X: the bits of the number that is nearest to what a text says, without its sign -/
def DTxt.Amt (t : DTxt) (X : Nat) : Prop :=
  (t.low ∧ X = 0) ∨ (¬ t.low ∧ ¬ t.high ∧ ∃ p q, 0 < q ∧ p * 10 ^ (-t.exp).toNat = decN t.digs * 10 ^ t.exp.toNat * q ∧ Rnd 53 1074 p q X)
/-- what Parse answers of a decimal text -/
def DTxt.Says (t : DTxt) (f : Nat) (c : Int) : Prop :=
  (c = 5 ∧ f = 0 ∧ (t.high ∨ ∃ X, t.Amt X ∧ 9218868437227405312 ≤ X)) ∨ (c = 0 ∧ ∃ X, t.Amt X ∧ X < 9218868437227405312 ∧ f = X + (if t.neg = true then 9223372036854775808 else 0))
theorem beq_false_of_not {α} [BEq α] [LawfulBEq α] {a b : α} (h : a ≠ b) : (a == b) = false := by simpa using h
theorem dig_cases {l : List UInt8} (h : IsDig l) (hn : l ≠ []) : ∃ a r, l = a :: r ∧ 48 ≤ a.toNat ∧ a.toNat ≤ 57 := by
  cases l with
  | nil => exact absurd rfl hn
  | cons a r => exact ⟨a, r, rfl, h a List.mem_cons_self⟩
theorem text_plain {s : ByteArray} {t : DTxt} (hs : s.data.toList = t.list) (hok : t.Ok) : (s.toList == [110, 97, 110]) = false ∧ (s.toList == [43, 105, 110, 102]) = false ∧ (s.toList == [45, 105, 110, 102]) = false := by
  obtain ⟨a, r, h1, h2, h3⟩ := dig_cases hok.g1 hok.n1
  rw [Lib.toList_data, hs]
  unfold DTxt.list
  rw [h1]
  cases t.neg
  · refine ⟨?_, ?_, ?_⟩ <;> (apply beq_false_of_not; intro e; simp [sgn] at e; obtain ⟨rfl, -⟩ := e; simp at h2 h3)
  · refine ⟨?_, ?_, ?_⟩ <;> (apply beq_false_of_not; intro e; simp [sgn] at e)
    obtain ⟨rfl, -⟩ := e
    simp at h2 h3
theorem expZ_range (x : Option (Bool × List UInt8)) (h : ∀ b l, x = some (b, l) → IsDig l ∧ l ≠ []) : -1000000 ≤ expZ x ∧ expZ x ≤ 1000000 := by
  match x, h with
  | none, _ => simp [expZ]
  | some (b, l), h =>
    have hd := (h b l rfl).1
    have h1 := decN_lt (Lib.trimLeftB l 48) hd.trim
    unfold expZ
    simp only
    generalize decN (Lib.trimLeftB l 48) = n at *
    by_cases hl : (Lib.trimLeftB l 48).length < 6
    · have h2 : 10 ^ (Lib.trimLeftB l 48).length ≤ 10 ^ 6 := Nat.pow_le_pow_right (by omega) (by omega)
      simp only [if_pos hl]
      cases b <;> simp <;> omega
    · simp only [if_neg hl]
      cases b <;> simp
theorem fin_inf {X : Nat} : (finX X = 9218868437227405312 ↔ 9218868437227405312 ≤ X) ∧ finX X ≤ 9218868437227405312 := by
  unfold finX
  split <;> constructor <;> first | constructor <;> omega | omega
/-- from the amount on -/
theorem trim_len (l : List UInt8) : (Lib.trimLeftB l 48).length ≤ l.length := (List.dropWhile_suffix _).length_le
set_option maxRecDepth 8000 in
set_option maxHeartbeats 2000000 in
theorem parse_any (s : ByteArray) (t : DTxt) (w : World) (hs : s.data.toList = t.list) (hok : t.Ok) (hl : s.size ≤ 2000) :
    Calls Tryz.prog 8 #[.string s] w fun e w' => ∃ (f : Nat) (c : Int), e = .returned (.tuple #[.float .f64 f, .int .i64 c]) ∧ t.Says f c ∧ Below w.heap.size w w' := by
  obtain ⟨u1, u2, u3⟩ := text_plain hs hok
  have HS := Lib.hid (fun W => unspecial_no s W u1 u2 u3)
  have HU := Lib.hid (fun W => undecimal_any s t W hs hok (by omega))
  have hxr := expZ_range t.ex hok.g3
  have hlen : t.digs.length ≤ 2000 := by
    have h1 : s.size = t.list.length := by rw [← size_list, hs]
    have h2 : t.digs.length ≤ t.list.length := by
      unfold DTxt.digs DTxt.list fracT
      cases t.d2 <;> simp <;> omega
    omega
  have hd2 : (t.d2.getD []).length ≤ t.digs.length := by unfold DTxt.digs; simp
  have hE : -1002000 ≤ t.exp ∧ t.exp ≤ 1000000 := by unfold DTxt.exp; omega
  have hkey := trim_len t.digs
  obtain ⟨Z, hZ⟩ : ∃ Z : ByteArray, (⟨(Lib.trimLeftB t.digs 48).toArray⟩ : ByteArray) = Z := ⟨_, rfl⟩
  have hZl : Z.data.toList = t.key := by rw [← hZ]; rfl
  have hZs : Z.size = t.key.length := by rw [← size_list, hZl]
  have hZd : ∀ b ∈ Z.data.toList, 48 ≤ b.toNat ∧ b.toNat ≤ 57 := by
    have hd : IsDig t.digs := hok.g1.append (by
      cases h2 : t.d2 with
      | none => simp [IsDig]
      | some l => exact (hok.g2 l h2).1)
    rw [hZl]; exact hd.trim
  have hZD : decN Z.data.toList = decN t.digs := by rw [hZl]; exact decN_trim _
  rw [hZ] at HU
  have hk2 : Z.size ≤ 2000 := by rw [hZs]; unfold DTxt.key; omega
  have HV : Hid (∀ W, Calls Tryz.prog 34 #[.agg #[.bool t.neg, .string Z, .int .i64 t.exp]] W fun e W' => ((t.high ∧ e = .returned (.tuple #[.pointer none, .bool false])) ∨ (¬ t.high ∧ ∃ z, e = .returned (.tuple #[.pointer (some ⟨z, 0, none⟩), .bool true]) ∧ Calls Tryz.prog 35 #[.pointer (some ⟨z, 0, none⟩)] W' fun e' W2 => ∃ (X : Nat) (ex : Bool), e' = .returned (.tuple #[.float .f64 (finX X), .bool ex]) ∧ t.Amt X ∧ Below W'.heap.size W' W2)) ∧ Below W.heap.size W W') := Lib.hid (fun W => by
    by_cases hlo : t.low
    · refine (value_none t.neg Z t.exp W (by omega) (by omega) (by rw [hZs]; exact hlo)).mono ?_
      rintro e W' ⟨z, rfl, hr, hb⟩
      refine ⟨.inr ⟨fun h => h.1 hlo, z, rfl, (float64_nil z W' hr).mono ?_⟩, hb⟩
      rintro e' W2 ⟨rfl, hb2⟩
      exact ⟨0, true, rfl, .inl ⟨hlo, rfl⟩, hb2⟩
    · have h0 : 0 < Z.size := by
        rw [hZs]
        rcases Nat.eq_zero_or_pos t.key.length with q | q
        · exact absurd (.inl q) hlo
        · exact q
      by_cases hhi : 400 < t.exp + (t.key.length : Int) - 1
      · refine (value_over t.neg Z t.exp W h0 (by omega) (by omega) (by rw [hZs]; exact hhi)).mono ?_
        rintro e W' ⟨rfl, hb⟩
        exact ⟨.inl ⟨⟨hlo, hhi⟩, rfl⟩, hb⟩
      · have hnh : ¬ t.high := fun h => hhi h.2
        have h1 : -400 ≤ t.exp + (t.key.length : Int) - 1 := by
          by_cases h : t.exp + (t.key.length : Int) - 1 < -400
          · exact absurd (.inr h) hlo
          · omega
        refine (value_mid t.neg Z t.exp _ _ 10000 W hZd h0 (by omega) (by rw [hZs]; exact h1) (by rw [hZs]; omega) rfl rfl (by omega) (by omega)).mono ?_
        rintro e W' ⟨z, p, q, rfl, hr, he, hb⟩
        have hq0 : 0 < q := hr.2.2
        refine ⟨.inr ⟨hnh, z, rfl, (float64_any z p q 10000 W' hr (by omega) (by omega)).mono ?_⟩, hb⟩
        rintro e' W2 ⟨X, ex, rfl, hX, hb2⟩
        rw [hZD] at he
        exact ⟨X, ex, rfl, .inr ⟨hlo, hnh, p, q, hq0, he, hX⟩, hb2⟩)
  have hs2 : (s.size : Int) ≤ 2000 := by omega
  obtain ⟨E, hEe⟩ : ∃ E, t.exp = E := ⟨_, rfl⟩
  obtain ⟨neg, hneg⟩ : ∃ n, t.neg = n := ⟨_, rfl⟩
  have HN := Lib.hid hneg
  rw [hEe, hneg] at HU HV
  clear hxr hlen hd2 hE hkey hZ hZl hZs hZd hZD hk2 hEe hneg u1 u2 u3 hs hok
  go_enter Tryz.func8, Tryz.ntmps8
  go_wp2_with fail
  refine (HS.out w).mono ?_
  rintro e w1 ⟨rfl, hw⟩
  obtain rfl := hw.symm
  go_wp2_with fail
  refine (HU.out w).mono ?_
  rintro e w1 ⟨rfl, b1⟩
  have hb1 := b1.alloc b1.size (.cells #[.bool neg, .string Z, .int .i64 E] 73)
  have c1 : (w1.alloc (.cells #[.bool neg, .string Z, .int .i64 E] 73)).cell? ⟨w1.heap.size, 0, none⟩ = some (.bool neg) := by simp [go_sem]
  have hl1 : w1.heap.size < (w1.alloc (.cells #[.bool neg, .string Z, .int .i64 E] 73)).heap.size := by simp
  have HB1 := Lib.hid (And.intro hb1 (And.intro c1 hl1))
  clear b1 hb1 c1 hl1
  go_wp2_with fail
  refine (HV.out _).mono ?_
  rintro e w2 ⟨hh, b2⟩
  have HB2 := Lib.hid (And.intro (back_of' HB1.out.1 b2) (And.intro ((b2.cell (p := ⟨w1.heap.size, 0, none⟩) HB1.out.2.2).trans HB1.out.2.1) (Nat.lt_of_lt_of_le HB1.out.2.2 b2.size)))
  clear b2
  rcases hh with ⟨hhi, rfl⟩ | ⟨hnh, z, rfl, hc⟩
  · have HF : Hid (t.Says 0 5) := Lib.hid (.inl ⟨rfl, rfl, .inl hhi⟩)
    clear hhi
    go_wp2_with fail
    go_ret2
    exact ⟨0, 5, rfl, HF.out, HB2.out.1⟩
  · have HC := Lib.hid hc
    clear hc hnh
    go_wp2_with fail
    refine HC.out.mono ?_
    rintro e w3 ⟨X, ex, rfl, ha, b3⟩
    have HB3 := Lib.hid (back_of' HB2.out.1 b3)
    have c3 := (b3.cell (p := ⟨w1.heap.size, 0, none⟩) HB2.out.2.2).trans HB2.out.2.1
    have HA := Lib.hid ha
    obtain ⟨F, hF⟩ : ∃ F, finX X = F := ⟨_, rfl⟩
    have hF1 := fin_inf (X := X)
    rw [hF] at hF1 ⊢
    have HI := Lib.hid (fun W => inf_any F W hF1.2)
    clear b3 ha
    by_cases hov : 9218868437227405312 ≤ X
    · have hd : decide (F = 9218868437227405312) = true := by simpa using hF1.1.2 hov
      rw [hd] at HI
      have HF : Hid (t.Says 0 5) := Lib.hid (.inl ⟨rfl, rfl, .inr ⟨X, HA.out, hov⟩⟩)
      clear hov hd hF hF1
      go_wp2_with fail
      refine (HI.out _).mono ?_
      rintro e w4 ⟨rfl, hw⟩
      obtain rfl := hw.symm
      go_wp2_with fail
      go_ret2
      exact ⟨0, 5, rfl, HF.out, HB3.out⟩
    · have hd : decide (F = 9218868437227405312) = false := by
        apply decide_eq_false
        intro h
        exact hov (hF1.1.1 h)
      rw [hd] at HI
      have hFX : F = X := by rw [← hF]; unfold finX; rw [if_pos (by omega)]
      cases neg
      · have HF : Hid (t.Says F 0) := Lib.hid (.inr ⟨rfl, X, HA.out, by omega, by rw [HN.out, hFX]; rfl⟩)
        clear hov hd hF hF1 hFX
        go_wp2_with fail
        refine (HI.out _).mono ?_
        rintro e w4 ⟨rfl, hw⟩
        obtain rfl := hw.symm
        go_wp2_with fail
        go_ret2
        exact ⟨F, 0, rfl, HF.out, HB3.out⟩
      · obtain ⟨F2, hF2⟩ : ∃ F2, F + 9223372036854775808 = F2 := ⟨_, rfl⟩
        have hneg : ∀ W, (Op.unary .neg (.float .f64 F)).run Tryz.prog W = .ok (.float .f64 F2) W := fun W => by
          have h := neg_flip (f := F) (by omega)
          rw [Nat.mod_eq_of_lt (by omega), hF2] at h
          rw [← h]
          rfl
        have HF : Hid (t.Says F2 0) := Lib.hid (.inr ⟨rfl, X, HA.out, by omega, by rw [HN.out, ← hF2, hFX]; rfl⟩)
        clear hov hd hF hF1 hFX hF2
        go_wp2_with fail
        refine (HI.out _).mono ?_
        rintro e w4 ⟨rfl, hw⟩
        obtain rfl := hw.symm
        go_wp2_with fail
        go_ret2
        exact ⟨F2, 0, rfl, HF.out, HB3.out⟩
end Go.Proofs.YtgccfdfbnhldbaaGreatDoor.Nb

namespace Go.Proofs.YtgccfdfbnhldbaaGreatDoor.Nb
open Go Nx

theorem fold_ge : ∀ (l : List UInt8) (a : Nat), a * 10 ^ l.length ≤ l.foldl (fun n b => n * 10 + (b.toNat - 48)) a
  | [], a => by simp
  | b :: l, a => by
    have h := fold_ge l (a * 10 + (b.toNat - 48))
    rw [List.foldl_cons, List.length_cons, Nat.pow_succ, Nat.mul_comm (10 ^ l.length), ← Nat.mul_assoc]
    exact Nat.le_trans (Nat.mul_le_mul_right _ (by omega)) h
theorem decN_ge {l : List UInt8} (h : IsDig l) (h0 : l.head? ≠ some 48) (hn : l ≠ []) : 10 ^ (l.length - 1) ≤ decN l := by
  cases l with
  | nil => exact absurd rfl hn
  | cons a t =>
    have h1 := h a List.mem_cons_self
    have h2 : a.toNat ≠ 48 := fun e => h0 (by simp; exact UInt8.toNat_inj.1 e)
    have h3 := fold_ge t (a.toNat - 48)
    have e : decN (a :: t) = t.foldl (fun n b => n * 10 + (b.toNat - 48)) (a.toNat - 48) := by simp [decN]
    rw [e, List.length_cons, Nat.add_sub_cancel]
    refine Nat.le_trans ?_ h3
    exact Nat.le_mul_of_pos_left _ (by omega)
theorem trim_head : ∀ l : List UInt8, (Lib.trimLeftB l 48).head? ≠ some 48
  | [] => by simp [Lib.trimLeftB]
  | a :: l => by
    unfold Lib.trimLeftB
    rw [List.dropWhile_cons]
    by_cases h : (a == 48) = true
    · rw [if_pos h]; exact trim_head l
    · rw [if_neg h]; simp; intro e; exact h (by simp [e])
theorem DTxt.Ok.dig {t : DTxt} (hok : t.Ok) : IsDig t.digs := hok.g1.append (by
  cases h2 : t.d2 with
  | none => simp [IsDig]
  | some l => exact (hok.g2 l h2).1)
theorem key_range {t : DTxt} (hok : t.Ok) : (t.key.length = 0 → decN t.digs = 0) ∧ (0 < t.key.length → 10 ^ (t.key.length - 1) ≤ decN t.digs) ∧ decN t.digs < 10 ^ t.key.length := by
  have e : decN t.digs = decN t.key := (decN_trim _).symm
  rw [e]
  have hd : IsDig t.key := hok.dig.trim
  have h3 := decN_lt t.key hd
  refine ⟨fun h => ?_, fun h => decN_ge hd (trim_head _) (by intro c; rw [c] at h; simp at h), h3⟩
  rw [h, Nat.pow_zero] at h3
  omega
end Go.Proofs.YtgccfdfbnhldbaaGreatDoor.Nb

namespace Go.Proofs.YtgccfdfbnhldbaaGreatDoor
open Go Go.RowKit Nb Nx

theorem run_bits32 (f : Nat) (w : World) : Sem.run Tryz.prog (callFunc 55 #[.float .f32 f]) w = .ok (.value (.int .u32 f)) w :=
  (run_callFunc_extern (e := Extern.MathFloatBits.float32bits) Tryz.func55 (by kernel_rfl) (by kernel_rfl) (by kernel_rfl) (by kernel_rfl) _ _).trans rfl
theorem run_frombits32 (n : Int) (w : World) : Sem.run Tryz.prog (callFunc 5 #[.int .u32 n]) w = .ok (.value (.float .f32 n.toNat)) w :=
  (run_callFunc_extern (e := Extern.MathFloatBits.float32frombits) Tryz.func5 (by kernel_rfl) (by kernel_rfl) (by kernel_rfl) (by kernel_rfl) _ _).trans rfl
/-- the bits of a single NaN -/
def nan32 (f : Nat) : Bool := decide (2139095040 < f % 2147483648)
/-- the bits, of any NaN those of the one -/
def cn32 (f : Nat) : Nat := if nan32 f = true then 2143289344 else f
theorem andnot_top32 {f : Nat} (h : f < 4294967296) : bits .andNot .u64 (f : Int) 2147483648 = ((f % 2147483648 : Nat) : Int) := by
  rw [u64_andNot _ _ (by omega) (by omega) (by omega) (by omega)]
  have e : f % 2147483648 = f &&& (18446744073709551615 - (2147483648 : Int).toNat) := by
    have e1 : (18446744073709551615 - (2147483648 : Int).toNat) = 2 ^ 64 - (2 ^ 31 + 1) := by decide
    have e2 : (2147483648 : Nat) = 2 ^ 31 := by decide
    rw [e1, e2]
    apply Nat.eq_of_testBit_eq
    intro i
    rw [Nat.testBit_and, Nat.testBit_two_pow_sub_succ (by decide), Nat.testBit_mod_two_pow, Nat.testBit_two_pow]
    by_cases h1 : i < 31
    · have h2 : i < 64 := by omega
      have h3 : ¬ 31 = i := by omega
      simp [h1, h2, h3]
    · by_cases h2 : i = 31
      · subst h2; simp
      · have h3 : f.testBit i = false := Nat.testBit_lt_two_pow (Nat.lt_of_lt_of_le h (by rw [show (4294967296 : Nat) = 2 ^ 32 by decide]; exact Nat.pow_le_pow_right (by omega) (by omega)))
        rw [h3]; simp [h1]
  rw [e, Int.toNat_natCast]
theorem nan_eq32 {f : Nat} (h : f < 4294967296) : nanS (f : Int) = nan32 f := by
  unfold nanS nan32
  rw [andnot_top32 h]
  apply decide_eq_decide.2
  omega
theorem cn32_lt {f : Nat} (h : f < 4294967296) : cn32 f < 4294967296 := by unfold cn32; split <;> omega
theorem canon_eq32 {f : Nat} (h : f < 4294967296) : canonS (f : Int) = (cn32 f : Int) := by
  unfold canonS cn32
  rw [nan_eq32 h]
  split <;> rfl
theorem and_top32 {f : Nat} (h : f < 4294967296) : (bits .and .u64 (f : Int) 2147483648 != 0) = decide (2147483648 ≤ f) := by
  rw [u64_and _ _ (by omega) (by omega) (by omega) (by omega), Int.toNat_natCast]
  have e : f &&& (2147483648 : Int).toNat = f / 2147483648 % 2 * 2147483648 := by
    apply Nat.eq_of_testBit_eq
    intro i
    have e2 : (2147483648 : Int).toNat = 2 ^ 31 := by decide
    rw [e2, Nat.testBit_and, Nat.testBit_two_pow, show (2147483648 : Nat) = 2 ^ 31 by decide, Nat.testBit_mul_two_pow]
    by_cases hi : i = 31
    · subst hi
      simp [Nat.testBit_eq_decide_div_mod_eq]
    · have h31 : ¬ 31 = i := fun e => hi e.symm
      simp only [h31, decide_false, Bool.and_false]
      by_cases hl : 31 ≤ i
      · have : (f / 2 ^ 31 % 2).testBit (i - 31) = false := by
          apply Nat.testBit_lt_two_pow
          have := Nat.one_lt_two_pow (n := i - 31) (by omega)
          omega
        simp [this]
      · simp [hl]
  rw [e]
  have h1 : f / 2147483648 % 2 = 0 ∨ f / 2147483648 % 2 = 1 := by omega
  rcases h1 with h1 | h1
  · rw [h1]
    have : ¬ 2147483648 ≤ f := by omega
    simp [this]
  · rw [h1]
    have : 2147483648 ≤ f := by omega
    simp [this]
theorem exp_eq32 {f : Nat} (h : f < 4294967296) : expS (f : Int) = ((cn32 f / 8388608 % 256 : Nat) : Int) := by
  have hc := cn32_lt h
  unfold expS
  rw [canon_eq32 h]
  have e : (cn32 f : Int) / 8388608 = ((cn32 f / 8388608 : Nat) : Int) := by omega
  rw [e]
  exact and_mask 8 (by omega) (by omega)
theorem frc_eq32 {f : Nat} (h : f < 4294967296) : frcS (f : Int) = ((cn32 f % 8388608 : Nat) : Int) := by
  have hc := cn32_lt h
  unfold frcS
  rw [canon_eq32 h]
  have := and_mask (a := cn32 f) 23 (by omega) (by omega)
  rw [show ((2 ^ 23 - 1 : Nat) : Int) = 8388607 from rfl, show (2 : Nat) ^ 23 = 8388608 by decide] at this
  rw [this, IntKind.wrap_u32]
  omega
theorem sgn_eq32 {f : Nat} (h : f < 4294967296) : sgnS (f : Int) = decide (2147483648 ≤ cn32 f) := by
  unfold sgnS
  rw [canon_eq32 h]
  exact and_top32 (cn32_lt h)
def Fmt32 (w : World) (b : Nat) : Prop := w.cell? ⟨b, 0, none⟩ = some (.int .u64 23) ∧ w.cell? ⟨b, 1, none⟩ = some (.int .i64 255) ∧ w.cell? ⟨b, 2, none⟩ = some (.int .i64 150) ∧ b < w.heap.size

theorem Fmt32.below {w w' : World} {b : Nat} (h : Fmt32 w b) (k : Below w.heap.size w w') : Fmt32 w' b :=
  ⟨(k.cell (p := ⟨b, 0, none⟩) h.2.2.2).trans h.1, (k.cell (p := ⟨b, 1, none⟩) h.2.2.2).trans h.2.1, (k.cell (p := ⟨b, 2, none⟩) h.2.2.2).trans h.2.2.1, Nat.lt_of_lt_of_le h.2.2.2 k.size⟩

theorem Fmt32.new (w : World) (t : TypeId) : Fmt32 (w.alloc (.cells #[.int .u64 23, .int .i64 255, .int .i64 150] t)) w.heap.size := ⟨by simp [go_sem], by simp [go_sem], by simp [go_sem], by simp⟩


theorem Fmt32.kept {w w' : World} {b c : Nat} (h : Fmt32 w b) (k : Kept w w' c) (hne : b ≠ c) : Fmt32 w' b :=
  ⟨(k.cell (p := ⟨b, 0, none⟩) h.2.2.2 hne).trans h.1, (k.cell (p := ⟨b, 1, none⟩) h.2.2.2 hne).trans h.2.1, (k.cell (p := ⟨b, 2, none⟩) h.2.2.2 hne).trans h.2.2.1, Nat.lt_of_lt_of_le h.2.2.2 k.size⟩

theorem or_first32 {fr : Nat} (h : fr < 8388608) : bits .or .u64 (fr : Int) 8388608 = ((fr + 8388608 : Nat) : Int) := by
  have := or_high (o := fr) (c := 1) (s := 23) (by omega) (by omega)
  simpa using this

structure PartsU32 (w W : World) (dB : Nat) (g : Bool) (v1 v2 : Value) : Prop where
  r : DecAt W (w.heap.size + 1) (.bool false) (.int .u64 0) (.int .i64 0)
  d : DecAt W dB (.bool g) v1 v2
  f : Fmt32 W w.heap.size
  b : Below w.heap.size w W
  h : w.heap.size + 1 < dB

theorem PartsU32.below {w W W' : World} {dB : Nat} {g : Bool} {v1 v2 : Value} (h : PartsU32 w W dB g v1 v2) (k : Below W.heap.size W W') : PartsU32 w W' dB g v1 v2 :=
  ⟨h.r.kept (c := W.heap.size) (Kept.of_below k) (Nat.ne_of_lt h.r.1), h.d.kept (c := W.heap.size) (Kept.of_below k) (Nat.ne_of_lt h.d.1), h.f.below k, back_of' h.b k, h.h⟩

theorem PartsU32.set1 {w W : World} {dB : Nat} {g : Bool} {v1 v2 : Value} (h : PartsU32 w W dB g v1 v2) (v : Value) : PartsU32 w (W.setCell ⟨dB, 1, none⟩ v) dB g v v2 := by
  have q := h.h
  exact ⟨h.r.kept ((Kept.refl W dB).setCell (o := 1) v) (by omega), h.d.set1 v, h.f.kept ((Kept.refl W dB).setCell (o := 1) v) (by omega), h.b.setCell (p := ⟨dB, 1, none⟩) (by show w.heap.size ≤ dB; omega) v, h.h⟩

theorem PartsU32.set2 {w W : World} {dB : Nat} {g : Bool} {v1 v2 : Value} (h : PartsU32 w W dB g v1 v2) (v : Value) : PartsU32 w (W.setCell ⟨dB, 2, none⟩ v) dB g v1 v := by
  have q := h.h
  exact ⟨h.r.kept ((Kept.refl W dB).setCell (o := 2) v) (by omega), h.d.set2 v, h.f.kept ((Kept.refl W dB).setCell (o := 2) v) (by omega), h.b.setCell (p := ⟨dB, 2, none⟩) (by show w.heap.size ≤ dB; omega) v, h.h⟩

structure Fields32 (f : Nat) (g : Bool) (e0 fr : Nat) : Prop where
  f32 : f < 4294967296
  sg : sgnS (f : Int) = g
  ex : IntKind.i64.wrap (expS (f : Int)) = (e0 : Int)
  fc : frcS (f : Int) = (fr : Int)
  fl : fr < 8388608
  el : e0 < 255



set_option maxRecDepth 8000 in
set_option maxHeartbeats 2000000 in
theorem parts_norm32 (f e0 fr M m t : Nat) (g : Bool) (X0 X : Int) (w : World) (hT : Tab64 w) (hf : Fields32 f g e0 fr) (he : e0 ≠ 0) (hM : fr + 8388608 = M) (hmt : M = m * 2 ^ t) (hct : Lib.ctz 64 M = t) (ht : t < 64) (hx0 : (e0 : Int) - 150 = X0) (hx : X0 + (t : Int) = X) :
    Calls Tryz.prog 114 #[.int .u32 (f : Int), fmt32] w fun e w' => e = .returned (.tuple #[.agg #[.bool g, .int .u64 (m : Int), .int .i64 X], .int .i64 0]) ∧ Below w.heap.size w w' := by
  have hA1 := (Below.refl w.heap.size w).alloc (Nat.le_refl _) (.cells #[.int .u64 23, .int .i64 255, .int .i64 150] 131)
  have hA2 := hA1.alloc hA1.size (.cells #[.bool false, .int .u64 0, .int .i64 0] 60)
  have hF := (Fmt32.new w 131).below ((Below.refl _ _).alloc (Nat.le_refl _) (.cells #[.bool false, .int .u64 0, .int .i64 0] 60))
  have hR : DecAt ((w.alloc (.cells #[.int .u64 23, .int .i64 255, .int .i64 150] 131)).alloc (.cells #[.bool false, .int .u64 0, .int .i64 0] 60)) (w.heap.size + 1) (.bool false) (.int .u64 0) (.int .i64 0) := by
    have := DecAt.new (w.alloc (.cells #[.int .u64 23, .int .i64 255, .int .i64 150] 131)) (.bool false) (.int .u64 0) (.int .i64 0) 60
    simpa using this
  have HSp := Lib.hid (fun W => split_sgl f W hf.f32)
  rw [hf.sg, hf.ex, hf.fc] at HSp
  have hcl : clsS (f : Int) = 5 := by
    unfold clsS clsES
    rw [hf.ex, if_neg (by have := hf.el; omega), if_neg (by omega)]
  have HCl := Lib.hid (fun W => class_sgl f W hf.f32)
  rw [hcl] at HCl
  have HA := Lib.hid (And.intro hA2 (And.intro hF hR))
  have HT := Lib.hid hT
  have hor : bits .or .u64 (fr : Int) 8388608 = (M : Int) := by rw [or_first32 hf.fl, hM]
  have hw0 : wrap64 ((e0 : Int) - 150) = X0 := by have := hf.el; unfold wrap64; omega
  have hw1 : wrap64 (X0 + (t : Int)) = X := by have := hf.el; unfold wrap64; omega
  have hw64 : IntKind.u64.wrap (fr : Int) = (fr : Int) := by have := hf.fl; rw [IntKind.wrap_u64]; omega
  have hdv : (M : Int) / 2 ^ t = (m : Int) := by
    have e : (M / 2 ^ t : Nat) = m := by rw [hmt]; exact Nat.mul_div_cancel _ (Nat.pow_pos (by omega))
    rw [← e, Int.natCast_ediv, Int.natCast_pow]; rfl
  have HM : Hid (fr + 8388608 = M ∧ M = m * 2 ^ t ∧ Lib.ctz 64 M = t ∧ t < 64 ∧ fr < 8388608) := Lib.hid ⟨hM, hmt, hct, ht, hf.fl⟩
  clear hA1 hA2 hF hR hT hf hmt hct hcl hx hM hx0 he
  go_enter Tryz.func114, Tryz.ntmps114
  go_wp2_with fail
  refine (HSp.out _).mono ?_
  rintro e W1 ⟨rfl, b1⟩
  have hs1 := HA.out.2.2.1
  have hl1 : w.heap.size + 1 < W1.heap.size := Nat.lt_of_lt_of_le hs1 b1.size
  have HP : Hid (PartsU32 w (W1.alloc (.cells #[.bool g, .int .u64 (fr : Int), .int .i64 X0] 60)) W1.heap.size g (.int .u64 (fr : Int)) (.int .i64 X0)) := Lib.hid (by
    have k1 := b1
    have hk : Below W1.heap.size W1 (W1.alloc (.cells #[.bool g, .int .u64 (fr : Int), .int .i64 X0] 60)) := (Below.refl _ _).alloc (Nat.le_refl _) _
    have k := back_of' k1 hk
    exact ⟨HA.out.2.2.kept (c := (w.alloc (.cells #[.int .u64 23, .int .i64 255, .int .i64 150] 131)).heap.size + 1) (Kept.of_below k) (by simp), DecAt.new W1 _ _ _ _, HA.out.2.1.below k, back_of' HA.out.1 k, hl1⟩)
  obtain ⟨f0, f1, f2, fl⟩ := HA.out.2.1.below b1
  clear b1 HA HSp hs1
  go_wp2_with fail
  refine (HCl.out _).mono ?_
  rintro e W3 ⟨rfl, b3⟩
  have HP := Lib.hid (HP.out.below b3)
  clear b3 f0 f1 f2 fl HCl
  obtain ⟨-, d0, d1, d2, q0, q1, q2⟩ := id HP.out.d
  obtain ⟨f0, f1, f2, fl⟩ := HP.out.f
  go_upto_block 0 with (fail)
  have hcur : Below W3.heap.size W3 W3.drew := (Below.refl _ _).drew
  go_cut [5] from 28 to 47 (fun v wx => v = .int .i64 0 ∧ Hid (PartsU32 w wx W1.heap.size g (.int .u64 (M : Int)) (.int .i64 X0)))
  case first =>
    go_wp2_with fail
    go_region_with (first | (go_at_call 128; refine (hidden_sgl _).mono ?_; rintro e W4 ⟨rfl, b4⟩; have HP4 := Lib.hid (HP.out.below (back_of' hcur b4)); obtain ⟨-, y0, y1, y2, p0, p1, p2⟩ := id HP4.out.d; clear b4) | fail)
    all_goals go_wp2_with fail
    all_goals go_meet
    all_goals exact ⟨rfl, Lib.hid (HP4.out.set1 _)⟩
  case rest =>
    obtain ⟨rfl, HP5⟩ := hcut
    clear d0 d1 d2 q0 q1 q2 f0 f1 f2 fl HP hcur
    obtain ⟨-, d0, d1, d2, q0, q1, q2⟩ := id HP5.out.d
    go_wp2_with fail
    refine (tz64_any M t _ (by have := HM.out; omega) (by have := HM.out; omega) (HT.out.below ⟨HP5.out.b.os, HP5.out.b.tape, HP5.out.b.output, HP5.out.b.size, HP5.out.b.block⟩) HM.out.2.2.1).mono ?_
    rintro e W6 ⟨rfl, hw⟩
    obtain rfl := hw
    go_upto_region 15 with (fail)
    have HP8 := Lib.hid ((HP5.out.set1 (.int .u64 (m : Int))).set2 (.int .i64 X))
    clear d0 d1 d2 q0 q1 q2 HP5
    generalize (wc.setCell ⟨W1.heap.size, 1, none⟩ (.int .u64 (m : Int))).setCell ⟨W1.heap.size, 2, none⟩ (.int .i64 X) = W8 at *
    obtain ⟨-, d0, d1, d2, q0, q1, q2⟩ := id HP8.out.d
    obtain ⟨-, r0, r1, r2, g0, g1, g2⟩ := id HP8.out.r
    go_wp2_with fail
    exact bodyPost_ret (by simp [results, Tryz.results114, go_sem, r0, r1, r2]) rfl ⟨rfl, ((HP8.out.b.setCell (p := ⟨w.heap.size + 1, 0, none⟩) (Nat.le_succ _) _).setCell (p := ⟨w.heap.size + 1, 1, none⟩) (Nat.le_succ _) _).setCell (p := ⟨w.heap.size + 1, 2, none⟩) (Nat.le_succ _) _⟩


set_option maxRecDepth 8000 in
set_option maxHeartbeats 2000000 in
theorem parts_sub32 (f fr m t : Nat) (g : Bool) (X : Int) (w : World) (hT : Tab64 w) (hf : Fields32 f g 0 fr) (hfr : fr ≠ 0) (hmt : fr = m * 2 ^ t) (hct : Lib.ctz 64 fr = t) (ht : t < 64) (hx : (-149) + (t : Int) = X) :
    Calls Tryz.prog 114 #[.int .u32 (f : Int), fmt32] w fun e w' => e = .returned (.tuple #[.agg #[.bool g, .int .u64 (m : Int), .int .i64 X], .int .i64 0]) ∧ Below w.heap.size w w' := by
  have hA1 := (Below.refl w.heap.size w).alloc (Nat.le_refl _) (.cells #[.int .u64 23, .int .i64 255, .int .i64 150] 131)
  have hA2 := hA1.alloc hA1.size (.cells #[.bool false, .int .u64 0, .int .i64 0] 60)
  have hF := (Fmt32.new w 131).below ((Below.refl _ _).alloc (Nat.le_refl _) (.cells #[.bool false, .int .u64 0, .int .i64 0] 60))
  have hR : DecAt ((w.alloc (.cells #[.int .u64 23, .int .i64 255, .int .i64 150] 131)).alloc (.cells #[.bool false, .int .u64 0, .int .i64 0] 60)) (w.heap.size + 1) (.bool false) (.int .u64 0) (.int .i64 0) := by
    have := DecAt.new (w.alloc (.cells #[.int .u64 23, .int .i64 255, .int .i64 150] 131)) (.bool false) (.int .u64 0) (.int .i64 0) 60
    simpa using this
  have HSp := Lib.hid (fun W => split_sgl f W hf.f32)
  rw [hf.sg, hf.ex, hf.fc] at HSp
  have hcl : clsS (f : Int) = 4 := by
    unfold clsS clsES
    rw [hf.ex, hf.fc, if_neg (by have := hf.el; omega), if_pos (by omega), if_neg (by omega)]
  have HCl := Lib.hid (fun W => class_sgl f W hf.f32)
  rw [hcl] at HCl
  have HA := Lib.hid (And.intro hA2 (And.intro hF hR))
  have HT := Lib.hid hT
  have hw0 : wrap64 ((0 : Int) - 150) = -150 := by unfold wrap64; omega
  have hw1 : wrap64 ((-149) + (t : Int)) = X := by have := hf.el; unfold wrap64; omega
  have hw64 : IntKind.u64.wrap (fr : Int) = (fr : Int) := by have := hf.fl; rw [IntKind.wrap_u64]; omega
  have hdv : (fr : Int) / 2 ^ t = (m : Int) := by
    have e : (fr / 2 ^ t : Nat) = m := by rw [hmt]; exact Nat.mul_div_cancel _ (Nat.pow_pos (by omega))
    rw [← e, Int.natCast_ediv, Int.natCast_pow]; rfl
  have HM : Hid (fr = fr ∧ fr = m * 2 ^ t ∧ Lib.ctz 64 fr = t ∧ t < 64 ∧ fr < 8388608 ∧ fr ≠ 0) := Lib.hid ⟨rfl, hmt, hct, ht, hf.fl, hfr⟩
  clear hA1 hA2 hF hR hT hf hmt hct hcl
  go_enter Tryz.func114, Tryz.ntmps114
  go_wp2_with fail
  refine (HSp.out _).mono ?_
  rintro e W1 ⟨rfl, b1⟩
  have hs1 := HA.out.2.2.1
  have hl1 : w.heap.size + 1 < W1.heap.size := Nat.lt_of_lt_of_le hs1 b1.size
  have HP : Hid (PartsU32 w (W1.alloc (.cells #[.bool g, .int .u64 (fr : Int), .int .i64 (-150)] 60)) W1.heap.size g (.int .u64 (fr : Int)) (.int .i64 (-150))) := Lib.hid (by
    have k1 := b1
    have hk : Below W1.heap.size W1 (W1.alloc (.cells #[.bool g, .int .u64 (fr : Int), .int .i64 (-150)] 60)) := (Below.refl _ _).alloc (Nat.le_refl _) _
    have k := back_of' k1 hk
    exact ⟨HA.out.2.2.kept (c := (w.alloc (.cells #[.int .u64 23, .int .i64 255, .int .i64 150] 131)).heap.size + 1) (Kept.of_below k) (by simp), DecAt.new W1 _ _ _ _, HA.out.2.1.below k, back_of' HA.out.1 k, hl1⟩)
  obtain ⟨f0, f1, f2, fl⟩ := HA.out.2.1.below b1
  clear b1 HA HSp hs1
  go_wp2_with fail
  refine (HCl.out _).mono ?_
  rintro e W3 ⟨rfl, b3⟩
  have HP := Lib.hid (HP.out.below b3)
  clear b3 f0 f1 f2 fl HCl
  obtain ⟨-, d0, d1, d2, q0, q1, q2⟩ := id HP.out.d
  obtain ⟨f0, f1, f2, fl⟩ := HP.out.f
  go_upto_region 12 with (fail)
  have HP5 := Lib.hid (HP.out.set2 (.int .i64 (-149)))
  clear d0 d1 d2 q0 q1 q2 f0 f1 f2 fl HP
  generalize W3.setCell ⟨W1.heap.size, 2, none⟩ (.int .i64 (-149)) = wc at *
  obtain ⟨-, d0, d1, d2, q0, q1, q2⟩ := id HP5.out.d
  go_wp2_with fail
  refine (tz64_any fr t _ (by have := HM.out; omega) (by have := HM.out; omega) (HT.out.below ⟨HP5.out.b.os, HP5.out.b.tape, HP5.out.b.output, HP5.out.b.size, HP5.out.b.block⟩) HM.out.2.2.1).mono ?_
  rintro e W6 ⟨rfl, hw⟩
  obtain rfl := hw
  go_upto_region 15 with (fail)
  have HP8 := Lib.hid ((HP5.out.set1 (.int .u64 (m : Int))).set2 (.int .i64 X))
  clear d0 d1 d2 q0 q1 q2 HP5
  generalize (wc.setCell ⟨W1.heap.size, 1, none⟩ (.int .u64 (m : Int))).setCell ⟨W1.heap.size, 2, none⟩ (.int .i64 X) = W8 at *
  obtain ⟨-, d0, d1, d2, q0, q1, q2⟩ := id HP8.out.d
  obtain ⟨-, r0, r1, r2, g0, g1, g2⟩ := id HP8.out.r
  go_wp2_with fail
  exact bodyPost_ret (by simp [results, Tryz.results114, go_sem, r0, r1, r2]) rfl ⟨rfl, ((HP8.out.b.setCell (p := ⟨w.heap.size + 1, 0, none⟩) (Nat.le_succ _) _).setCell (p := ⟨w.heap.size + 1, 1, none⟩) (Nat.le_succ _) _).setCell (p := ⟨w.heap.size + 1, 2, none⟩) (Nat.le_succ _) _⟩


set_option maxRecDepth 8000 in
set_option maxHeartbeats 2000000 in
theorem parts_zero32 (f : Nat) (g : Bool) (w : World) (hf : Fields32 f g 0 0) :
    Calls Tryz.prog 114 #[.int .u32 (f : Int), fmt32] w fun e w' => e = .returned (.tuple #[.agg #[.bool g, .int .u64 0, .int .i64 0], .int .i64 0]) ∧ Below w.heap.size w w' := by
  have hA1 := (Below.refl w.heap.size w).alloc (Nat.le_refl _) (.cells #[.int .u64 23, .int .i64 255, .int .i64 150] 131)
  have hA2 := hA1.alloc hA1.size (.cells #[.bool false, .int .u64 0, .int .i64 0] 60)
  have hF := (Fmt32.new w 131).below ((Below.refl _ _).alloc (Nat.le_refl _) (.cells #[.bool false, .int .u64 0, .int .i64 0] 60))
  have hR : DecAt ((w.alloc (.cells #[.int .u64 23, .int .i64 255, .int .i64 150] 131)).alloc (.cells #[.bool false, .int .u64 0, .int .i64 0] 60)) (w.heap.size + 1) (.bool false) (.int .u64 0) (.int .i64 0) := by
    have := DecAt.new (w.alloc (.cells #[.int .u64 23, .int .i64 255, .int .i64 150] 131)) (.bool false) (.int .u64 0) (.int .i64 0) 60
    simpa using this
  have HSp := Lib.hid (fun W => split_sgl f W hf.f32)
  rw [hf.sg, hf.ex, hf.fc] at HSp
  have hcl : clsS (f : Int) = 3 := by
    unfold clsS clsES
    rw [hf.ex, hf.fc]
    rfl
  have HCl := Lib.hid (fun W => class_sgl f W hf.f32)
  rw [hcl] at HCl
  have HA := Lib.hid (And.intro hA2 (And.intro hF hR))
  have hw0 : wrap64 ((0 : Int) - 150) = -150 := by unfold wrap64; omega
  clear hA1 hA2 hF hR hf hcl
  go_enter Tryz.func114, Tryz.ntmps114
  go_wp2_with fail
  refine (HSp.out _).mono ?_
  rintro e W1 ⟨rfl, b1⟩
  have hs1 := HA.out.2.2.1
  have hl1 : w.heap.size + 1 < W1.heap.size := Nat.lt_of_lt_of_le hs1 b1.size
  have HP : Hid (PartsU32 w (W1.alloc (.cells #[.bool g, .int .u64 0, .int .i64 (-150)] 60)) W1.heap.size g (.int .u64 0) (.int .i64 (-150))) := Lib.hid (by
    have k1 := b1
    have hk : Below W1.heap.size W1 (W1.alloc (.cells #[.bool g, .int .u64 0, .int .i64 (-150)] 60)) := (Below.refl _ _).alloc (Nat.le_refl _) _
    have k := back_of' k1 hk
    exact ⟨HA.out.2.2.kept (c := (w.alloc (.cells #[.int .u64 23, .int .i64 255, .int .i64 150] 131)).heap.size + 1) (Kept.of_below k) (by simp), DecAt.new W1 _ _ _ _, HA.out.2.1.below k, back_of' HA.out.1 k, hl1⟩)
  obtain ⟨f0, f1, f2, fl⟩ := HA.out.2.1.below b1
  clear b1 HA HSp hs1
  go_wp2_with fail
  refine (HCl.out _).mono ?_
  rintro e W3 ⟨rfl, b3⟩
  have HP8 := Lib.hid (HP.out.below b3)
  clear b3 f0 f1 f2 fl HCl HP
  obtain ⟨-, r0, r1, r2, g0, g1, g2⟩ := id HP8.out.r
  go_wp2_with fail
  exact bodyPost_ret (by simp [results, Tryz.results114, go_sem, r0, r1, r2]) rfl ⟨rfl, ((HP8.out.b.setCell (p := ⟨w.heap.size + 1, 0, none⟩) (Nat.le_succ _) _).setCell (p := ⟨w.heap.size + 1, 1, none⟩) (Nat.le_succ _) _).setCell (p := ⟨w.heap.size + 1, 2, none⟩) (Nat.le_succ _) _⟩


theorem Parts_of32 (f : Nat) (g : Bool) (m : Nat) (X : Int) (w : World) (hT : Tab64 w)
    (hp : ∀ W, Tab64 W → Calls Tryz.prog 114 #[.int .u32 (f : Int), fmt32] W fun e w' => e = .returned (.tuple #[.agg #[.bool g, .int .u64 (m : Int), .int .i64 X], .int .i64 0]) ∧ Below W.heap.size W w') :
    Calls Tryz.prog 51 #[.float .f32 f] w fun e w' => e = .returned (.tuple #[.agg #[.bool g, .int .u64 (m : Int), .int .i64 X], .int .i64 0]) ∧ Below w.heap.size w w' := by
  have hA := (Below.refl w.heap.size w).alloc (Nat.le_refl _) (.cells #[.bool false, .int .u64 0, .int .i64 0] 60)
  have HA := Lib.hid (And.intro hA (DecAt.new w (.bool false) (.int .u64 0) (.int .i64 0) 60))
  have HT := Lib.hid hT
  have HQ := Lib.hid hp
  have hbits := run_bits32 f
  clear hA hT hp
  go_enter Tryz.func51, Tryz.ntmps51
  go_wp2_with fail
  refine (of_sgl _).mono ?_
  rintro e W1 ⟨rfl, b1⟩
  have H1 := Lib.hid (And.intro (back_of' HA.out.1 b1) (HA.out.2.kept (c := w.heap.size + 1) (Kept.of_below b1) (by omega)))
  clear b1 HA
  go_wp2_with fail
  refine (HQ.out W1 (HT.out.below H1.out.1)).mono ?_
  rintro e W2 ⟨rfl, b2⟩
  have H2 := Lib.hid (And.intro (back_of' H1.out.1 b2) (H1.out.2.kept (c := W1.heap.size) (Kept.of_below b2) (Nat.ne_of_lt H1.out.2.1)))
  clear b2 H1
  obtain ⟨-, r0, r1, r2, g0, g1, g2⟩ := id H2.out.2
  go_wp2_with fail
  exact bodyPost_ret (by simp [results, Tryz.results51, go_sem, r0, r1, r2]) rfl ⟨rfl, by
    repeat' (first | exact H2.out.1 | apply Below.setCell)
    all_goals (show w.heap.size ≤ w.heap.size; omega)⟩

def bigM32 (f : Nat) : Nat := if f / 8388608 % 256 = 0 then f % 8388608 else f % 8388608 + 8388608

def bigX32 (f : Nat) : Int := if f / 8388608 % 256 = 0 then -149 else (f / 8388608 % 256 : Nat) - 150

def oddM32 (f : Nat) : Nat := bigM32 f / 2 ^ Lib.ctz 64 (bigM32 f)

def oddX32 (f : Nat) : Int := bigX32 f + (Lib.ctz 64 (bigM32 f) : Nat)

structure FinN32 (f : Nat) (t : Nat) : Prop where
  fl : Fields32 f (decide (2147483648 ≤ f)) (f / 8388608 % 256) (f % 8388608)
  m0 : bigM32 f = oddM32 f * 2 ^ t
  ct : Lib.ctz 64 (bigM32 f) = t
  t6 : t < 64
  od : oddM32 f % 2 = 1
  up : oddM32 f < 16777216
  x0 : -149 ≤ oddX32 f
  x1 : oddX32 f ≤ 1024
  xt : oddX32 f = bigX32 f + (t : Int)

theorem fields_of32 {f : Nat} (hf : f < 4294967296) (h : f % 2147483648 < 2139095040) :
    Fields32 f (decide (2147483648 ≤ f)) (f / 8388608 % 256) (f % 8388608) := by
  have hc : cn32 f = f := by
    unfold cn32 nan32
    rw [if_neg (by simp; omega)]
  refine ⟨hf, by rw [sgn_eq32 hf, hc], ?_, by rw [frc_eq32 hf, hc], Nat.mod_lt _ (by omega), by omega⟩
  rw [exp_eq32 hf, hc]
  rw [IntKind.wrap_i64]
  omega

theorem finN32 {f : Nat} (hf : f < 4294967296) (h : f % 2147483648 < 2139095040) (h0 : f % 2147483648 ≠ 0) : ∃ t, FinN32 f t := by
  have hM0 : 0 < bigM32 f := by unfold bigM32; split <;> omega
  have hM1 : bigM32 f < 16777216 := by unfold bigM32; split <;> omega
  obtain ⟨m, t, e1, e2, e3, e4⟩ := odd_part (bigM32 f) hM0 (by omega)
  have hm : oddM32 f = m := by
    unfold oddM32
    rw [e3, e1]
    exact Nat.mul_div_cancel _ (Nat.pow_pos (by omega))
  have ht : t ≤ 53 := by
    rcases Nat.lt_or_ge 53 t with q | q
    · exfalso
      have h1 : 2 ^ 54 ≤ 2 ^ t := Nat.pow_le_pow_right (by omega) q
      have h2 : 1 * 2 ^ t ≤ m * 2 ^ t := Nat.mul_le_mul_right _ (by omega)
      have h3 : (2 : Nat) ^ 54 = 18014398509481984 := by decide
      omega
    · exact q
  have hm1 : m ≤ bigM32 f := by
    have h2 : m * 1 ≤ m * 2 ^ t := Nat.mul_le_mul_left _ (Nat.pow_pos (by omega))
    omega
  refine ⟨t, fields_of32 hf h, by rw [hm]; exact e1, e3, e4, by rw [hm]; exact e2, by rw [hm]; omega, ?_, ?_, by unfold oddX32; rw [e3]⟩
  · unfold oddX32 bigX32; rw [e3]; split <;> omega
  · unfold oddX32 bigX32; rw [e3]; split <;> omega


theorem Parts32_any (f t : Nat) (w : World) (hT : Tab64 w) (h : FinN32 f t) :
    Calls Tryz.prog 51 #[.float .f32 f] w fun e w' => e = .returned (.tuple #[.agg #[.bool (decide (2147483648 ≤ f)), .int .u64 (oddM32 f : Int), .int .i64 (oddX32 f)], .int .i64 0]) ∧ Below w.heap.size w w' := by
  refine Parts_of32 f _ _ _ w hT ?_
  intro W hW
  have hx := h.xt
  have hm := h.m0
  have hc := h.ct
  have hM := h.od
  by_cases c : f / 8388608 % 256 = 0
  · have hfl := h.fl
    rw [c] at hfl
    have e : bigM32 f = f % 8388608 := by unfold bigM32; rw [if_pos c]
    have e2 : bigX32 f = -149 := by unfold bigX32; rw [if_pos c]
    rw [e] at hm hc
    rw [e2] at hx
    have hne : f % 8388608 ≠ 0 := by
      intro h0
      rw [h0] at hm
      have : 0 < 2 ^ t := Nat.pow_pos (by omega)
      rcases Nat.mul_eq_zero.1 hm.symm with q | q <;> omega
    exact parts_sub32 f _ (oddM32 f) t _ (oddX32 f) W hW hfl hne hm hc h.t6 hx.symm
  · have e : bigM32 f = f % 8388608 + 8388608 := by unfold bigM32; rw [if_neg c]
    have e2 : bigX32 f = (f / 8388608 % 256 : Nat) - 150 := by unfold bigX32; rw [if_neg c]
    exact parts_norm32 f _ _ (bigM32 f) (oddM32 f) t _ _ (oddX32 f) W hW h.fl c e.symm hm hc h.t6 e2.symm hx.symm

theorem Parts32_zero (f : Nat) (w : World) (hT : Tab64 w) (hf : f < 4294967296) (h0 : f % 2147483648 = 0) :
    Calls Tryz.prog 51 #[.float .f32 f] w fun e w' => e = .returned (.tuple #[.agg #[.bool (decide (2147483648 ≤ f)), .int .u64 0, .int .i64 0], .int .i64 0]) ∧ Below w.heap.size w w' := by
  refine Parts_of32 f _ 0 0 w hT ?_
  intro W _
  have hfl := fields_of32 hf (by omega)
  rw [show f / 8388608 % 256 = 0 by omega, show f % 8388608 = 0 by omega] at hfl
  exact parts_zero32 f _ W hfl

end Go.Proofs.YtgccfdfbnhldbaaGreatDoor

namespace Go.Proofs.YtgccfdfbnhldbaaGreatDoor.Nb
open Go Go.RowKit Nx

theorem read_nan32f (f : Nat) : (Ieee.single.read f).isNaN = nan32 f := by
  have e1 : Ieee.single.signWeight = 2147483648 := by decide
  have e2 : Ieee.single.binade = 8388608 := by decide
  have e3 : Ieee.single.infRung = 2139095040 := by decide
  unfold Ieee.Format.read nan32
  simp only [e1, e2, e3]
  split
  · rename_i h
    simp [Ieee.Datum.isNaN]; omega
  · split
    · rename_i h
      simp [Ieee.Datum.isNaN]; omega
    · split
      · rename_i h
        simp [Ieee.Datum.isNaN]; omega
      · simp [Ieee.Datum.isNaN]; omega
theorem neq_self32 (f : Nat) : (FloatKind.f32.format.order f f != some Ordering.eq) = nan32 f := by
  have h : (Ieee.single.order f f == some Ordering.eq) = !nan32 f := by rw [Ieee.Format.order, cmp_self, read_nan32f]
  show (!(Ieee.single.order f f == some Ordering.eq)) = nan32 f
  rw [h, Bool.not_not]
set_option maxRecDepth 8000 in
theorem rbits32_any (f : Nat) (w : World) : Calls Tryz.prog 56 #[.float .f32 f] w fun e w' => e = .returned (.int .u32 (cn32 f : Int)) ∧ w' = w := by
  have hn := neq_self32 f
  have hb := run_bits32 f
  unfold cn32
  cases hh : nan32 f
  · rw [hh] at hn
    go_enter Tryz.func56, Tryz.ntmps56
    go_wp2_with fail
    go_ret
    exact ⟨rfl, rfl⟩
  · rw [hh] at hn
    go_enter Tryz.func56, Tryz.ntmps56
    go_wp2_with fail
    go_ret
    exact ⟨rfl, rfl⟩
set_option maxRecDepth 8000 in
theorem same_any (f : Nat) (w : World) (hf : f < 18446744073709551616) : Calls Tryz.prog 13 #[.float .f64 (cnN f), .float .f64 f] w fun e w' => e = .returned (.bool true) ∧ w' = w := by
  have HB := Lib.hid (fun W => rbits_any f W hf)
  generalize cnN f = c at HB ⊢
  have hb := run_bits c
  clear hf
  go_enter Tryz.func13, Tryz.ntmps13
  go_wp2_with fail
  refine (HB.out _).mono ?_
  rintro e w1 ⟨rfl, hw⟩
  obtain rfl := hw.symm
  go_wp2_with fail
  go_ret
  exact ⟨rfl, rfl⟩
set_option maxRecDepth 8000 in
theorem same32_any (f : Nat) (w : World) : Calls Tryz.prog 14 #[.float .f32 (cn32 f), .float .f32 f] w fun e w' => e = .returned (.bool true) ∧ w' = w := by
  have HB := Lib.hid (fun W => rbits32_any f W)
  generalize cn32 f = c at HB ⊢
  have hb := run_bits32 c
  go_enter Tryz.func14, Tryz.ntmps14
  go_wp2_with fail
  refine (HB.out _).mono ?_
  rintro e w1 ⟨rfl, hw⟩
  obtain rfl := hw.symm
  go_wp2_with fail
  go_ret
  exact ⟨rfl, rfl⟩
set_option maxRecDepth 8000 in
set_option maxHeartbeats 2000000 in
/-- the list that was read is the list that was written -/
theorem lsame_any (A B : Option Addr) (n c d : Nat) (bs : List Nat) (w : World) (hA : FlAt w A n (bs.map cnN)) (hB : FlAt w B n bs) (hb : ∀ x ∈ bs, x < 18446744073709551616) (hn : n ≤ 5000) :
    Calls Tryz.prog 19 #[.slice A n c, .slice B n d] w fun e w' => e = .returned (.bool true) ∧ Below w.heap.size w w' := by
  have HA := Lib.hid hA
  have HB := Lib.hid hB
  have HX := Lib.hid hb
  clear hA hB hb
  go_enter Tryz.func19, Tryz.ntmps19
  go_wp2_with fail
  go_loopw [13] (fun iv wr => ∃ (k : Nat), k ≤ n ∧ iv = .int .i64 (k : Int) ∧ Hid (Below w.heap.size w wr)) (fun iv _ => n - (intOf iv).toNat)
  case atStart => exact ⟨0, by omega, rfl, Lib.hid (Below.refl _ _)⟩
  case round =>
    obtain ⟨k, hk, rfl, hh⟩ := hrel
    by_cases hlt : k < n
    · obtain ⟨a, ao, rfl, ha, hca⟩ := (HA.out.below hh.out).at hlt
      obtain ⟨b, bo, rfl, hb, hcb⟩ := (HB.out.below hh.out).at hlt
      have hkl : k < bs.length := by have := HB.out.1; omega
      obtain ⟨y, hy⟩ : ∃ y, bs.getD k 0 = y := ⟨_, rfl⟩
      have hyk : bs[k] = y := by rw [List.getD_eq_getElem?_getD, List.getElem?_eq_getElem hkl] at hy; exact hy
      have hya : (bs.map cnN).getD k 0 = cnN y := by
        rw [List.getD_eq_getElem?_getD, List.getElem?_map, List.getElem?_eq_getElem hkl, hyk]
        rfl
      have HY := Lib.hid (show y < 18446744073709551616 from by rw [← hyk]; exact HX.out _ (List.getElem_mem hkl))
      rw [hy] at hcb
      rw [hya] at hca
      have HS := Lib.hid (fun W => same_any y W HY.out)
      generalize cnN y = z at *
      have hki : (k : Int) < (n : Int) := by omega
      clear hy hya hyk hkl
      have hcur : Below wr.heap.size wr wr.drew := (Below.refl _ _).drew
      have hca' := (hcur.cell (p := ⟨a, ao + k, none⟩) ha).trans hca
      have hcb' := (hcur.cell (p := ⟨b, bo + k, none⟩) hb).trans hcb
      go_upto_region 6 with (fail)
      go_region_with (go_at_call 13; refine (HS.out _).mono ?_; rintro e w1 ⟨rfl, hw⟩; obtain rfl := hw)
      all_goals go_wp2_with fail
      all_goals go_roundw
      all_goals first | exact ⟨k + 1, by omega, by go_num, Lib.hid (back_of' hh.out hcur)⟩ | (simp [intOf]; omega) | skip
    · have hkn : k = n := by omega
      subst hkn
      go_wp2_with fail
      go_ret
      exact ⟨rfl, hh.out⟩
end Go.Proofs.YtgccfdfbnhldbaaGreatDoor.Nb

namespace Go.Proofs.YtgccfdfbnhldbaaGreatDoor.Nb
open Go Go.RowKit Nx

set_option maxRecDepth 8000 in
set_option maxHeartbeats 2000000 in
theorem msame_any (r q : Int) (A B : Option Addr) (n c d : Nat) (bs : List Nat) (w : World) (hA : FlAt w A n (bs.map cnN)) (hB : FlAt w B n bs) (hb : ∀ x ∈ bs, x < 18446744073709551616) (hn : n ≤ 5000) :
    Calls Tryz.prog 22 #[.agg #[.int .i64 r, .int .i64 q, .slice A n c], .agg #[.int .i64 r, .int .i64 q, .slice B n d]] w fun e w' => e = .returned (.bool true) ∧ Below w.heap.size w w' := by
  have h1 := (Below.refl w.heap.size w).alloc (Nat.le_refl _) (.cells #[.int .i64 r, .int .i64 q, .slice A n c] 47)
  have g1 := mat_new w r q (.slice A n c) 47
  obtain ⟨W1, hW1⟩ : ∃ W1, w.alloc (.cells #[.int .i64 r, .int .i64 q, .slice A n c] 47) = W1 := ⟨_, rfl⟩
  have hs1 : W1.heap.size = w.heap.size + 1 := by rw [← hW1]; simp
  rw [hW1] at h1 g1
  have h2 := (Below.refl W1.heap.size W1).alloc (Nat.le_refl _) (.cells #[.int .i64 r, .int .i64 q, .slice B n d] 47)
  have g2 := mat_new W1 r q (.slice B n d) 47
  have g1' := g1.below h2 (by omega)
  obtain ⟨W2, hW2⟩ : ∃ W2, W1.alloc (.cells #[.int .i64 r, .int .i64 q, .slice B n d] 47) = W2 := ⟨_, rfl⟩
  rw [hW2] at h2 g2 g1'
  have hb2 := back_of' h1 h2
  rw [hs1] at g2
  have HL := Lib.hid (And.intro (lsame_any A B n c d bs W2 (hA.below hb2) (hB.below hb2) hb hn) hb2)
  obtain ⟨a0, a1, a2⟩ := g1'
  obtain ⟨b0, b1, b2⟩ := g2
  clear hA hB hb hn h1 g1 h2 hb2
  go_enter Tryz.func22, Tryz.ntmps22
  go_wp2_with fail
  refine HL.out.1.mono ?_
  rintro e w3 ⟨rfl, b3⟩
  have H3 := Lib.hid (back_of' HL.out.2 b3)
  clear b3 a0 a1 a2 b0 b1 b2
  go_wp2_with fail
  go_ret
  exact ⟨rfl, H3.out⟩
end Go.Proofs.YtgccfdfbnhldbaaGreatDoor.Nb

namespace Go.Proofs.YtgccfdfbnhldbaaGreatDoor.Nb
open Nx

def mag32 (X : Nat) : Nat := if X < 8388608 then X else 8388608 + X % 8388608

def plc32 (X : Nat) : Nat := X / 8388608 - 1

def amt32 (X : Nat) : Nat := mag32 X * 2 ^ plc32 X

theorem amt_lt32 {X Y : Nat} (h : X < Y) : amt32 X < amt32 Y := by
  unfold amt32 mag32 plc32
  by_cases h1 : X < 8388608
  · rw [if_pos h1]
    have e : X / 8388608 - 1 = 0 := by omega
    rw [e, Nat.pow_zero, Nat.mul_one]
    by_cases h2 : Y < 8388608
    · rw [if_pos h2]
      have e : Y / 8388608 - 1 = 0 := by omega
      rw [e, Nat.pow_zero, Nat.mul_one]
      exact h
    · rw [if_neg h2]
      have h3 : 1 ≤ 2 ^ (Y / 8388608 - 1) := Nat.pow_pos (by omega)
      have h4 := Nat.mul_le_mul_left (8388608 + Y % 8388608) h3
      omega
  · have h2 : ¬ Y < 8388608 := by omega
    rw [if_neg h1, if_neg h2]
    obtain ⟨a, ha⟩ : ∃ a, X / 8388608 = a + 1 := ⟨X / 8388608 - 1, by omega⟩
    obtain ⟨b, hb⟩ : ∃ b, Y / 8388608 = b + 1 := ⟨Y / 8388608 - 1, by omega⟩
    rw [ha, hb, Nat.add_sub_cancel, Nat.add_sub_cancel]
    have hab : a ≤ b := by omega
    obtain ⟨k, rfl⟩ : ∃ k, b = a + k := ⟨b - a, by omega⟩
    rw [Nat.pow_add, Nat.mul_comm (2 ^ a), ← Nat.mul_assoc]
    refine Nat.mul_lt_mul_of_pos_right ?_ (Nat.pow_pos (by omega))
    by_cases hk : k = 0
    · subst hk
      rw [Nat.pow_zero, Nat.mul_one]
      omega
    · have h3 : 2 ^ 1 ≤ 2 ^ k := Nat.pow_le_pow_right (by omega) (by omega)
      have h4 : (8388608 + Y % 8388608) * 2 ^ 1 ≤ (8388608 + Y % 8388608) * 2 ^ k := Nat.mul_le_mul_left _ h3
      omega

theorem amt_lt_iff32 {X Y : Nat} : amt32 X < amt32 Y ↔ X < Y := by
  constructor
  · intro h
    rcases Nat.lt_or_ge X Y with q | q
    · exact q
    · rcases Nat.lt_or_ge Y X with r | r
      · have := amt_lt32 r; omega
      · have : X = Y := by omega
        subst this; omega
  · exact amt_lt32

theorem rnd_near32 {a b X : Nat} (hb : 0 < b) (h0 : 0 < X) (h1 : a * 2 ^ 149 * 33554432 < amt32 X * b * 33554433) (h2 : amt32 X * b * 33554431 < a * 2 ^ 149 * 33554432) : Rnd 24 149 a b X := by
  obtain ⟨T, hT⟩ : ∃ T : Nat, T = 149 := ⟨_, rfl⟩
  rw [← hT] at h1 h2 ⊢
  have e23 : (2 : Nat) ^ (24 - 1) = 8388608 := by decide
  have e24 : (2 : Nat) ^ 24 = 16777216 := by decide
  have hm1 : mag32 X < 16777216 := by unfold mag32; split <;> omega
  have hm2 : plc32 X = 0 ∨ 8388608 ≤ mag32 X := by unfold plc32 mag32; split <;> omega
  have hx : X = plc32 X * 8388608 + mag32 X := by unfold plc32 mag32; split <;> omega
  have hA : amt32 X * b = mag32 X * (b * 2 ^ plc32 X) := by unfold amt32; rw [Nat.mul_assoc, Nat.mul_comm (2 ^ plc32 X)]
  rw [hA] at h1 h2
  revert h1 h2 hm1 hm2 hx
  generalize mag32 X = m
  generalize plc32 X = k
  intro h1 h2 hm1 hm2 hx
  unfold Rnd
  rw [e23, e24]
  obtain ⟨A, hAe⟩ : ∃ A, a * 2 ^ T = A := ⟨_, rfl⟩
  rw [hAe] at h1 h2 ⊢
  obtain ⟨D, hDe⟩ : ∃ D, b * 2 ^ k = D := ⟨_, rfl⟩
  have hD0 : 0 < D := hDe ▸ Nat.mul_pos hb (Nat.two_pow_pos k)
  rw [hDe] at h1 h2
  have hM1 : m * D ≤ 16777215 * D := Nat.mul_le_mul_right _ (by omega)
  have hM2 : 8388608 ≤ m → 8388608 * D ≤ m * D := fun h => Nat.mul_le_mul_right _ h
  have hM3 : 8388609 ≤ m → 8388609 * D ≤ m * D := fun h => Nat.mul_le_mul_right _ h
  have f1 : (2 * m + 1) * D = 2 * (m * D) + D := by rw [Nat.add_mul, Nat.one_mul, Nat.mul_assoc]
  have f2 : 2 * m * D = 2 * (m * D) := Nat.mul_assoc _ _ _
  by_cases hc : 0 < k ∧ m = 8388608 ∧ A < 8388608 * D
  · obtain ⟨c1, rfl, c3⟩ := hc
    obtain ⟨j, rfl⟩ : ∃ j, k = j + 1 := ⟨k - 1, by omega⟩
    obtain ⟨G, hG⟩ : ∃ G, b * 2 ^ j = G := ⟨_, rfl⟩
    have hDG : D = 2 * G := by rw [← hDe, Nat.pow_succ, ← Nat.mul_assoc, hG, Nat.mul_comm]
    subst hDG
    refine ⟨j, 16777216, ?_, ?_, ?_, ?_⟩
    · right; rw [hG]; omega
    · rw [hG]; omega
    · rw [hG]; exact ⟨by omega, fun _ => by decide, by omega, fun _ => by decide⟩
    · omega
  · refine ⟨k, m, ?_, ?_, ?_, hx⟩
    · rw [hDe]
      rcases hm2 with q | q
      · exact .inl q
      · rcases Nat.eq_zero_or_pos k with z | z
        · exact .inl z
        · right
          have g2 := hM2 q
          rcases Nat.eq_or_lt_of_le q with y | y
          · rcases Nat.lt_or_ge A (8388608 * D) with t | t
            · exact absurd ⟨z, y.symm, t⟩ hc
            · exact t
          · have g3 := hM3 y
            omega
    · rw [hDe]; omega
    · rw [hDe]
      exact ⟨by rw [f1]; omega, fun h => by rw [f1] at h; omega, by rw [f2]; omega, fun h => by rw [f2] at h; omega⟩

def Hits32 (d : Nat) (k : Int) (X : Nat) : Prop := Rnd 24 149 (d * 10 ^ k.toNat) (10 ^ (-k).toNat) X

theorem hits_last32 {p q X : Nat} {E k : Int} (hq : 0 < q) (h0 : 0 < X) (hv : p * 2 ^ 149 = amt32 X * q) (hE : AtM p q E) (hk : k = E - 8) {low : Nat} (hl : low = p * 10 ^ (-k).toNat / (q * 10 ^ k.toNat)) : Hits32 low k X ∨ Hits32 (low + 1) k X := by
  have h1 := (atm_shift (k := k) (by omega)).1 hE
  rw [show (E - k).toNat = 8 by omega] at h1
  unfold Hits32
  have u1 : 0 < 10 ^ k.toNat := Nat.pow_pos (by omega)
  have u2 : 0 < 10 ^ (-k).toNat := Nat.pow_pos (by omega)
  have hM : 0 < q * 10 ^ k.toNat := Nat.mul_pos hq u1
  have hd := Nat.div_add_mod (p * 10 ^ (-k).toNat) (q * 10 ^ k.toNat)
  have hr := Nat.mod_lt (p * 10 ^ (-k).toNat) hM
  rw [← hl] at hd
  clear hl
  revert h1 u1 u2 hM hd hr
  generalize hU : 10 ^ k.toNat = U
  generalize hV : 10 ^ (-k).toNat = V
  intro h1 u1 u2 hM hd hr
  have near : ∀ d, d * (q * U) * 33554432 < p * V * 33554433 → p * V * 33554431 < d * (q * U) * 33554432 → Rnd 24 149 (d * U) V X := by
    intro d n1 n2
    obtain ⟨T, hT⟩ : ∃ T : Nat, T = 2 ^ 149 := ⟨_, rfl⟩
    have hT0 : 0 < T := hT ▸ Nat.two_pow_pos 149
    have i1 : d * U * T * q = d * (q * U) * T := by ac_rfl
    have i2 : amt32 X * V * q = p * V * T := by rw [Nat.mul_right_comm, ← hv, ← hT]; ac_rfl
    refine rnd_near32 u2 h0 ?_ ?_
    · rw [← hT]
      refine Nat.lt_of_mul_lt_mul_right (a := q) ?_
      rw [Nat.mul_right_comm, i1, Nat.mul_right_comm (amt32 X * V), i2, Nat.mul_right_comm, Nat.mul_right_comm (p * V)]
      exact Nat.mul_lt_mul_of_pos_right n1 hT0
    · rw [← hT]
      refine Nat.lt_of_mul_lt_mul_right (a := q) ?_
      rw [Nat.mul_right_comm, i2, Nat.mul_right_comm (d * U * T), i1, Nat.mul_right_comm, Nat.mul_right_comm (d * (q * U))]
      exact Nat.mul_lt_mul_of_pos_right n2 hT0
  have e16 : (10 : Nat) ^ 8 = 100000000 := by decide
  rw [e16] at h1
  have n1 := near low
  have n2 := near (low + 1)
  rw [Nat.mul_comm (q * U) low] at hd
  rw [Nat.add_mul, Nat.one_mul] at n2
  revert h1 hM hd hr n1 n2
  generalize p * V % (q * U) = r
  generalize low * (q * U) = W
  generalize q * U = M
  generalize p * V = N
  intro h1 hM hd hr n1 n2
  rcases Nat.lt_or_ge M (2 * r) with c | c
  · right; exact n2 (by omega) (by omega)
  · left; exact n1 (by omega) (by omega)

theorem hits_next32 {d X : Nat} {K : Int} (h : Hits32 (10 * d) K X) : Hits32 d (K + 1) X := by
  unfold Hits32 at *
  refine rnd_move (Nat.pow_pos (by omega)) (Nat.pow_pos (by omega)) ?_ h
  rcases Int.lt_or_le K 0 with c | c
  · obtain ⟨j, hj⟩ : ∃ j : Nat, (-K).toNat = j + 1 := ⟨(-K).toNat - 1, by omega⟩
    rw [show (K + 1).toNat = 0 by omega, show (-(K + 1)).toNat = j by omega, show K.toNat = 0 by omega, hj, Nat.pow_succ]
    ac_rfl
  · rw [show (K + 1).toNat = K.toNat + 1 by omega, show (-(K + 1)).toNat = 0 by omega, show (-K).toNat = 0 by omega, Nat.pow_succ]
    ac_rfl
end Go.Proofs.YtgccfdfbnhldbaaGreatDoor.Nb

namespace Go.Proofs.YtgccfdfbnhldbaaGreatDoor.Nb
open Go Nx

/-- the double of a finite single's magnitude -/
def wideN (X : Nat) : Nat := if X = 0 then 0 else (plc32 X + (mag32 X).log2 + 873) * 4503599627370496 + mag32 X * 2 ^ (52 - (mag32 X).log2)
theorem log_of {m : Nat} (h0 : m ≠ 0) (h : m < 16777216) : m.log2 ≤ 23 ∧ 2 ^ m.log2 ≤ m ∧ m < 2 ^ (m.log2 + 1) := by
  have h1 := (Nat.le_log2 h0 (k := m.log2)).1 (Nat.le_refl _)
  have h2 := (Nat.log2_lt h0 (k := m.log2 + 1)).1 (by omega)
  have h3 := (Nat.log2_lt h0 (k := 24)).2 (by have e : (2 : Nat) ^ 24 = 16777216 := by decide
                                              omega)
  exact ⟨by omega, h1, h2⟩
theorem mag32_in {X : Nat} (h0 : X ≠ 0) : mag32 X ≠ 0 ∧ mag32 X < 16777216 := by
  unfold mag32
  split <;> omega
theorem wide_parts {X : Nat} (h0 : X ≠ 0) : mag64 (wideN X) = mag32 X * 2 ^ (52 - (mag32 X).log2) ∧ plc64 (wideN X) = plc32 X + (mag32 X).log2 + 873 ∧ 4503599627370496 ≤ mag32 X * 2 ^ (52 - (mag32 X).log2) ∧ mag32 X * 2 ^ (52 - (mag32 X).log2) < 9007199254740992 := by
  obtain ⟨m0, m1⟩ := mag32_in h0
  obtain ⟨l1, l2, l3⟩ := log_of m0 m1
  have hw : wideN X = (plc32 X + (mag32 X).log2 + 873) * 4503599627370496 + mag32 X * 2 ^ (52 - (mag32 X).log2) := by unfold wideN; rw [if_neg h0]
  rw [hw]
  generalize mag32 X = m at *
  generalize plc32 X = p at *
  generalize m.log2 = l at *
  have hp : 0 < 2 ^ (52 - l) := Nat.two_pow_pos _
  have a1 : 2 ^ l * 2 ^ (52 - l) ≤ m * 2 ^ (52 - l) := Nat.mul_le_mul_right _ l2
  have a2 : m * 2 ^ (52 - l) < 2 ^ (l + 1) * 2 ^ (52 - l) := Nat.mul_lt_mul_of_pos_right l3 hp
  rw [← Nat.pow_add] at a1 a2
  rw [show l + (52 - l) = 52 by omega] at a1
  rw [show l + 1 + (52 - l) = 53 by omega] at a2
  have e52 : (2 : Nat) ^ 52 = 4503599627370496 := by decide
  have e53 : (2 : Nat) ^ 53 = 9007199254740992 := by decide
  rw [e52] at a1
  rw [e53] at a2
  generalize m * 2 ^ (52 - l) = M at *
  unfold mag64 plc64
  refine ⟨?_, ?_, a1, a2⟩
  · rw [if_neg (by omega)]; omega
  · omega
theorem wide_amtT (X T : Nat) (hT : T = 925) : amt64 (wideN X) = amt32 X * 2 ^ T := by
  by_cases h0 : X = 0
  · subst h0
    have e1 : amt64 (wideN 0) = 0 := by simp [wideN, amt64, mag64]
    have e2 : amt32 0 = 0 := by simp [amt32, mag32]
    rw [e1, e2, Nat.zero_mul]
  · obtain ⟨m0, m1⟩ := mag32_in h0
    obtain ⟨l1, -, -⟩ := log_of m0 m1
    obtain ⟨h1, h2, -, -⟩ := wide_parts h0
    unfold amt64 amt32
    rw [h1, h2, Nat.mul_assoc, ← Nat.pow_add, Nat.mul_assoc, ← Nat.pow_add]
    congr 2
    omega
theorem wide_lt {X : Nat} (h : X < 2139095040) : wideN X < 9218868437227405312 := by
  by_cases h0 : X = 0
  · subst h0; decide
  · obtain ⟨m0, m1⟩ := mag32_in h0
    obtain ⟨l1, -, -⟩ := log_of m0 m1
    obtain ⟨-, -, -, h4⟩ := wide_parts h0
    unfold wideN
    rw [if_neg h0]
    have hp : plc32 X ≤ 253 := by unfold plc32; omega
    omega
theorem wide_inj {X Y : Nat} (h : wideN X = wideN Y) : X = Y := by
  obtain ⟨T, hT⟩ : ∃ T : Nat, T = 925 := ⟨_, rfl⟩
  have h1 := wide_amtT X T hT
  rw [h, wide_amtT Y T hT] at h1
  have h2 := Nat.eq_of_mul_eq_mul_right (Nat.two_pow_pos T) h1
  rcases Nat.lt_trichotomy X Y with c | c | c
  · have := amt_lt32 c; omega
  · exact c
  · have := amt_lt32 c; omega
end Go.Proofs.YtgccfdfbnhldbaaGreatDoor.Nb
