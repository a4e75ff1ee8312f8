/- BN6 in one text. -/
import Derived.Test.YtmecnlgndaeidaaGreatDoorP40
import Derived.Test.YtmecnlgndaeidaaGreatDoorP36

namespace Go.Proofs.YtmecnlgndaeidaaGreatDoor.Nb
open Go Go.RowKit Nx

/-- the digits without the noughts ahead -/
def DTxt.key (t : DTxt) : List UInt8 := Lib.trimLeftB t.digs 48
/-- a text whose amount is taken for nought -/
def DTxt.low (t : DTxt) : Prop := t.key.length = 0 ∨ t.exp + (t.key.length : Int) - 1 < -400
/-- a text whose amount is beyond all numbers -/
def DTxt.high (t : DTxt) : Prop := ¬ t.low ∧ 400 < t.exp + (t.key.length : Int) - 1
/-- X: the bits of the number that is nearest to what a text says, without its sign -/
def DTxt.Amt (t : DTxt) (X : Nat) : Prop :=
  (t.low ∧ X = 0) ∨ (¬ t.low ∧ ¬ t.high ∧ ∃ p q, 0 < q ∧ p * 10 ^ (-t.exp).toNat = decN t.digs * 10 ^ t.exp.toNat * q ∧ Rnd 53 1074 p q X)
/-- what Parse answers of a decimal text -/
def DTxt.Says (t : DTxt) (f : Nat) (c : Int) : Prop :=
  (c = 5 ∧ f = 0 ∧ (t.high ∨ ∃ X, t.Amt X ∧ 9218868437227405312 ≤ X)) ∨ (c = 0 ∧ ∃ X, t.Amt X ∧ X < 9218868437227405312 ∧ f = X + (if t.neg = true then 9223372036854775808 else 0))
theorem beq_false_of_not {α} [BEq α] [LawfulBEq α] {a b : α} (h : a ≠ b) : (a == b) = false := by simpa using h
theorem dig_cases {l : List UInt8} (h : IsDig l) (hn : l ≠ []) : ∃ a r, l = a :: r ∧ 48 ≤ a.toNat ∧ a.toNat ≤ 57 := by
  cases l with
  | nil => exact absurd rfl hn
  | cons a r => exact ⟨a, r, rfl, h a List.mem_cons_self⟩
theorem text_plain {s : ByteArray} {t : DTxt} (hs : s.data.toList = t.list) (hok : t.Ok) : (s.toList == [110, 97, 110]) = false ∧ (s.toList == [43, 105, 110, 102]) = false ∧ (s.toList == [45, 105, 110, 102]) = false := by
  obtain ⟨a, r, h1, h2, h3⟩ := dig_cases hok.g1 hok.n1
  rw [Lib.toList_data, hs]
  unfold DTxt.list
  rw [h1]
  cases t.neg
  · refine ⟨?_, ?_, ?_⟩ <;> (apply beq_false_of_not; intro e; simp [sgn] at e; obtain ⟨rfl, -⟩ := e; simp at h2 h3)
  · refine ⟨?_, ?_, ?_⟩ <;> (apply beq_false_of_not; intro e; simp [sgn] at e)
    obtain ⟨rfl, -⟩ := e
    simp at h2 h3
theorem expZ_range (x : Option (Bool × List UInt8)) (h : ∀ b l, x = some (b, l) → IsDig l ∧ l ≠ []) : -1000000 ≤ expZ x ∧ expZ x ≤ 1000000 := by
  match x, h with
  | none, _ => simp [expZ]
  | some (b, l), h =>
    have hd := (h b l rfl).1
    have h1 := decN_lt (Lib.trimLeftB l 48) hd.trim
    unfold expZ
    simp only
    generalize decN (Lib.trimLeftB l 48) = n at *
    by_cases hl : (Lib.trimLeftB l 48).length < 6
    · have h2 : 10 ^ (Lib.trimLeftB l 48).length ≤ 10 ^ 6 := Nat.pow_le_pow_right (by omega) (by omega)
      simp only [if_pos hl]
      cases b <;> simp <;> omega
    · simp only [if_neg hl]
      cases b <;> simp
theorem fin_inf {X : Nat} : (finX X = 9218868437227405312 ↔ 9218868437227405312 ≤ X) ∧ finX X ≤ 9218868437227405312 := by
  unfold finX
  split <;> constructor <;> first | constructor <;> omega | omega
/-- from the amount on -/
theorem trim_len (l : List UInt8) : (Lib.trimLeftB l 48).length ≤ l.length := (List.dropWhile_suffix _).length_le
set_option maxRecDepth 8000 in
set_option maxHeartbeats 2000000 in
theorem parse_any (s : ByteArray) (t : DTxt) (w : World) (hs : s.data.toList = t.list) (hok : t.Ok) (hl : s.size ≤ 2000) :
    Calls Tryz.prog 11 #[.string s] w fun e w' => ∃ (f : Nat) (c : Int), e = .returned (.tuple #[.float .f64 f, .int .i64 c]) ∧ t.Says f c ∧ Below w.heap.size w w' := by
  obtain ⟨u1, u2, u3⟩ := text_plain hs hok
  have HS := Lib.hid (fun W => unspecial_no s W u1 u2 u3)
  have HU := Lib.hid (fun W => undecimal_any s t W hs hok (by omega))
  have hxr := expZ_range t.ex hok.g3
  have hlen : t.digs.length ≤ 2000 := by
    have h1 : s.size = t.list.length := by rw [← size_list, hs]
    have h2 : t.digs.length ≤ t.list.length := by
      unfold DTxt.digs DTxt.list fracT
      cases t.d2 <;> simp <;> omega
    omega
  have hd2 : (t.d2.getD []).length ≤ t.digs.length := by unfold DTxt.digs; simp
  have hE : -1002000 ≤ t.exp ∧ t.exp ≤ 1000000 := by unfold DTxt.exp; omega
  have hkey := trim_len t.digs
  obtain ⟨Z, hZ⟩ : ∃ Z : ByteArray, (⟨(Lib.trimLeftB t.digs 48).toArray⟩ : ByteArray) = Z := ⟨_, rfl⟩
  have hZl : Z.data.toList = t.key := by rw [← hZ]; rfl
  have hZs : Z.size = t.key.length := by rw [← size_list, hZl]
  have hZd : ∀ b ∈ Z.data.toList, 48 ≤ b.toNat ∧ b.toNat ≤ 57 := by
    have hd : IsDig t.digs := hok.g1.append (by
      cases h2 : t.d2 with
      | none => simp [IsDig]
      | some l => exact (hok.g2 l h2).1)
    rw [hZl]; exact hd.trim
  have hZD : decN Z.data.toList = decN t.digs := by rw [hZl]; exact decN_trim _
  rw [hZ] at HU
  have hk2 : Z.size ≤ 2000 := by rw [hZs]; unfold DTxt.key; omega
  have HV : Hid (∀ W, Calls Tryz.prog 41 #[.agg #[.bool t.neg, .string Z, .int .i64 t.exp]] W fun e W' => ((t.high ∧ e = .returned (.tuple #[.pointer none, .bool false])) ∨ (¬ t.high ∧ ∃ z, e = .returned (.tuple #[.pointer (some ⟨z, 0, none⟩), .bool true]) ∧ Calls Tryz.prog 23 #[.pointer (some ⟨z, 0, none⟩)] W' fun e' W2 => ∃ (X : Nat) (ex : Bool), e' = .returned (.tuple #[.float .f64 (finX X), .bool ex]) ∧ t.Amt X ∧ Below W'.heap.size W' W2)) ∧ Below W.heap.size W W') := Lib.hid (fun W => by
    by_cases hlo : t.low
    · refine (value_none t.neg Z t.exp W (by omega) (by omega) (by rw [hZs]; exact hlo)).mono ?_
      rintro e W' ⟨z, rfl, hr, hb⟩
      refine ⟨.inr ⟨fun h => h.1 hlo, z, rfl, (float64_nil z W' hr).mono ?_⟩, hb⟩
      rintro e' W2 ⟨rfl, hb2⟩
      exact ⟨0, true, rfl, .inl ⟨hlo, rfl⟩, hb2⟩
    · have h0 : 0 < Z.size := by
        rw [hZs]
        rcases Nat.eq_zero_or_pos t.key.length with q | q
        · exact absurd (.inl q) hlo
        · exact q
      by_cases hhi : 400 < t.exp + (t.key.length : Int) - 1
      · refine (value_over t.neg Z t.exp W h0 (by omega) (by omega) (by rw [hZs]; exact hhi)).mono ?_
        rintro e W' ⟨rfl, hb⟩
        exact ⟨.inl ⟨⟨hlo, hhi⟩, rfl⟩, hb⟩
      · have hnh : ¬ t.high := fun h => hhi h.2
        have h1 : -400 ≤ t.exp + (t.key.length : Int) - 1 := by
          by_cases h : t.exp + (t.key.length : Int) - 1 < -400
          · exact absurd (.inr h) hlo
          · omega
        refine (value_mid t.neg Z t.exp _ _ 10000 W hZd h0 (by omega) (by rw [hZs]; exact h1) (by rw [hZs]; omega) rfl rfl (by omega) (by omega)).mono ?_
        rintro e W' ⟨z, p, q, rfl, hr, he, hb⟩
        have hq0 : 0 < q := hr.2.2
        refine ⟨.inr ⟨hnh, z, rfl, (float64_any z p q 10000 W' hr (by omega) (by omega)).mono ?_⟩, hb⟩
        rintro e' W2 ⟨X, ex, rfl, hX, hb2⟩
        rw [hZD] at he
        exact ⟨X, ex, rfl, .inr ⟨hlo, hnh, p, q, hq0, he, hX⟩, hb2⟩)
  have hs2 : (s.size : Int) ≤ 2000 := by omega
  obtain ⟨E, hEe⟩ : ∃ E, t.exp = E := ⟨_, rfl⟩
  obtain ⟨neg, hneg⟩ : ∃ n, t.neg = n := ⟨_, rfl⟩
  have HN := Lib.hid hneg
  rw [hEe, hneg] at HU HV
  clear hxr hlen hd2 hE hkey hZ hZl hZs hZd hZD hk2 hEe hneg u1 u2 u3 hs hok
  go_enter Tryz.func11, Tryz.ntmps11
  go_wp2_with fail
  refine (HS.out w).mono ?_
  rintro e w1 ⟨rfl, hw⟩
  obtain rfl := hw.symm
  go_wp2_with fail
  refine (HU.out w).mono ?_
  rintro e w1 ⟨rfl, b1⟩
  have hb1 := b1.alloc b1.size (.cells #[.bool neg, .string Z, .int .i64 E] 79)
  have c1 : (w1.alloc (.cells #[.bool neg, .string Z, .int .i64 E] 79)).cell? ⟨w1.heap.size, 0, none⟩ = some (.bool neg) := by simp [go_sem]
  have hl1 : w1.heap.size < (w1.alloc (.cells #[.bool neg, .string Z, .int .i64 E] 79)).heap.size := by simp
  have HB1 := Lib.hid (And.intro hb1 (And.intro c1 hl1))
  clear b1 hb1 c1 hl1
  go_wp2_with fail
  refine (HV.out _).mono ?_
  rintro e w2 ⟨hh, b2⟩
  have HB2 := Lib.hid (And.intro (back_of' HB1.out.1 b2) (And.intro ((b2.cell (p := ⟨w1.heap.size, 0, none⟩) HB1.out.2.2).trans HB1.out.2.1) (Nat.lt_of_lt_of_le HB1.out.2.2 b2.size)))
  clear b2
  rcases hh with ⟨hhi, rfl⟩ | ⟨hnh, z, rfl, hc⟩
  · have HF : Hid (t.Says 0 5) := Lib.hid (.inl ⟨rfl, rfl, .inl hhi⟩)
    clear hhi
    go_wp2_with fail
    go_ret2
    exact ⟨0, 5, rfl, HF.out, HB2.out.1⟩
  · have HC := Lib.hid hc
    clear hc hnh
    go_wp2_with fail
    refine HC.out.mono ?_
    rintro e w3 ⟨X, ex, rfl, ha, b3⟩
    have HB3 := Lib.hid (back_of' HB2.out.1 b3)
    have c3 := (b3.cell (p := ⟨w1.heap.size, 0, none⟩) HB2.out.2.2).trans HB2.out.2.1
    have HA := Lib.hid ha
    obtain ⟨F, hF⟩ : ∃ F, finX X = F := ⟨_, rfl⟩
    have hF1 := fin_inf (X := X)
    rw [hF] at hF1 ⊢
    have HI := Lib.hid (fun W => inf_any F W hF1.2)
    clear b3 ha
    by_cases hov : 9218868437227405312 ≤ X
    · have hd : decide (F = 9218868437227405312) = true := by simpa using hF1.1.2 hov
      rw [hd] at HI
      have HF : Hid (t.Says 0 5) := Lib.hid (.inl ⟨rfl, rfl, .inr ⟨X, HA.out, hov⟩⟩)
      clear hov hd hF hF1
      go_wp2_with fail
      refine (HI.out _).mono ?_
      rintro e w4 ⟨rfl, hw⟩
      obtain rfl := hw.symm
      go_wp2_with fail
      go_ret2
      exact ⟨0, 5, rfl, HF.out, HB3.out⟩
    · have hd : decide (F = 9218868437227405312) = false := by
        apply decide_eq_false
        intro h
        exact hov (hF1.1.1 h)
      rw [hd] at HI
      have hFX : F = X := by rw [← hF]; unfold finX; rw [if_pos (by omega)]
      cases neg
      · have HF : Hid (t.Says F 0) := Lib.hid (.inr ⟨rfl, X, HA.out, by omega, by rw [HN.out, hFX]; rfl⟩)
        clear hov hd hF hF1 hFX
        go_wp2_with fail
        refine (HI.out _).mono ?_
        rintro e w4 ⟨rfl, hw⟩
        obtain rfl := hw.symm
        go_wp2_with fail
        go_ret2
        exact ⟨F, 0, rfl, HF.out, HB3.out⟩
      · obtain ⟨F2, hF2⟩ : ∃ F2, F + 9223372036854775808 = F2 := ⟨_, rfl⟩
        have hneg : ∀ W, (Op.unary .neg (.float .f64 F)).run Tryz.prog W = .ok (.float .f64 F2) W := fun W => by
          have h := neg_flip (f := F) (by omega)
          rw [Nat.mod_eq_of_lt (by omega), hF2] at h
          rw [← h]
          rfl
        have HF : Hid (t.Says F2 0) := Lib.hid (.inr ⟨rfl, X, HA.out, by omega, by rw [HN.out, ← hF2, hFX]; rfl⟩)
        clear hov hd hF hF1 hFX hF2
        go_wp2_with fail
        refine (HI.out _).mono ?_
        rintro e w4 ⟨rfl, hw⟩
        obtain rfl := hw.symm
        go_wp2_with fail
        go_ret2
        exact ⟨F2, 0, rfl, HF.out, HB3.out⟩
end Go.Proofs.YtmecnlgndaeidaaGreatDoor.Nb
