/- BN3 in one text. -/
import Derived.Test.YtbidlkmagbjllaaGreatDoorP13

namespace Go.Proofs.YtbidlkmagbjllaaGreatDoor.Nb
open Go Go.RowKit

theorem dig_head {l : List UInt8} (h : IsDig l) : l.head? ≠ some 45 := by
  cases l with
  | nil => simp
  | cons a t =>
    intro e
    simp at e
    have := h a List.mem_cons_self
    rw [e] at this
    simp at this
theorem dig_head2 {l r : List UInt8} (h : IsDig l) (hn : l ≠ []) : (l ++ r).head? ≠ some 45 := by
  cases l with
  | nil => exact absurd rfl hn
  | cons a t => exact dig_head (l := a :: t) h
theorem exp_head {x : Option (Bool × List UInt8)} : ∀ c, (expT x).head? = some c → c.toNat < 48 ∨ (57 < c.toNat ∧ c.toNat < 128) := by
  intro c h
  match x with
  | none => simp [expT] at h
  | some (b, l) => simp [expT] at h; subst h; decide
theorem frac_head {d : Option (List UInt8)} {x : Option (Bool × List UInt8)} : ∀ c, (fracT d ++ expT x).head? = some c → c.toNat < 48 ∨ (57 < c.toNat ∧ c.toNat < 128) := by
  intro c h
  match d with
  | none => exact exp_head c h
  | some l => simp [fracT] at h; subst h; decide
theorem exp_no_dot {x : Option (Bool × List UInt8)} : (expT x).head? ≠ some 46 := by
  match x with
  | none => simp [expT]
  | some (b, l) => simp [expT]
theorem not_empty {l : List UInt8} (h : l ≠ []) : (⟨l.toArray⟩ : ByteArray).toList.isEmpty = false := by
  rw [Lib.toList_data]
  cases l with
  | nil => exact absurd rfl h
  | cons a t => rfl
theorem last_at {w : World} {b : Nat} {s : ByteArray} {l : List UInt8} (h : CurR w b s []) (hd : IsDig l) (hn : l ≠ []) (hp : ∃ pre, s.data.toList = pre ++ l) :
    ∃ (j : Nat) (ch : UInt8), w.cell? ⟨b, 0, none⟩ = some (.string s) ∧ w.cell? ⟨b, 1, none⟩ = some (.int .i64 ((j : Int) + 1)) ∧ (∀ W, (Instr.index 9 (.string s) (.int .i64 (j : Int))).run Tryz.prog W = .ok (.int .u8 (ch.toNat : Int)) W) ∧ 48 ≤ ch.toNat ∧ ch.toNat ≤ 57 ∧ j + 1 = s.size := by
  obtain ⟨k, ⟨h1, h2, h3, h4⟩, hk, hr⟩ := h
  obtain ⟨pre, hpre⟩ := hp
  have hks : k = s.size := by
    have h5 := congrArg List.length hr
    rw [List.length_drop, size_list] at h5
    simp at h5
    omega
  have hl : 0 < l.length := List.length_pos_iff.2 hn
  have hsl : s.size = pre.length + l.length := by rw [← size_list, hpre, List.length_append]
  obtain ⟨j, hj⟩ : ∃ j, s.size = j + 1 := ⟨s.size - 1, by omega⟩
  have hjs : j < s.size := by omega
  refine ⟨j, s[j], h2, ?_, ?_, ?_, ?_, hj.symm⟩
  · rw [h3, hks, hj]; rfl
  · intro W
    rw [run_index_string W 9 s .i64 j (by kernel_rfl), dif_pos (by omega)]
    simp only [Int.toNat_natCast]
  all_goals
    have hm : s[j] ∈ l := by
      have e : s[j] = s.data.toList[j]'(by simpa using hjs) := rfl
      rw [e]
      simp only [hpre]
      rw [List.getElem_append_right (by omega)]
      exact List.getElem_mem _
    have := hd _ hm
    omega
set_option maxRecDepth 8000 in
set_option maxHeartbeats 8000000 in
theorem undecimal_any (s : ByteArray) (t : DTxt) (w : World) (hs : s.data.toList = t.list) (hok : t.Ok) (hl : s.size ≤ 1000000000) :
    Calls Tryz.prog 14 #[.string s] w fun e w' => e = .returned (.tuple #[.agg #[.bool t.neg, .string ⟨(Lib.trimLeftB t.digs 48).toArray⟩, .int .i64 t.exp], .bool true]) ∧ Below w.heap.size w w' := by
  obtain ⟨neg, l1, td2, tex⟩ := t
  obtain ⟨g1, n1, g2, g3⟩ := hok
  simp only at g1 n1 g2 g3
  have HOK2 := Lib.hid g2
  have HOK3 := Lib.hid g3
  have HSZ : Hid (s.size ≤ 4611686018427387904) := Lib.hid (by omega)
  have hlen : s.size = (sgn neg).length + (l1.length + ((fracT td2).length + (expT tex).length)) := by rw [← size_list, hs]; simp [DTxt.list]
  obtain ⟨Z, hZ⟩ : ∃ Z : ByteArray, (⟨(Lib.trimLeftB (DTxt.digs ⟨neg, l1, td2, tex⟩) 48).toArray⟩ : ByteArray) = Z := ⟨_, rfl⟩
  obtain ⟨E, hE⟩ : ∃ E : Int, DTxt.exp ⟨neg, l1, td2, tex⟩ = E := ⟨_, rfl⟩
  rw [hZ, hE]
  have HZ0 := Lib.hid hZ
  have HE0 := Lib.hid hE
  have HPRE : Hid (∀ b l, tex = some (b, l) → ∃ pre, s.data.toList = pre ++ l) := Lib.hid (by
    rintro b l rfl
    refine ⟨sgn neg ++ (l1 ++ (fracT td2 ++ (101 :: sgn b))), ?_⟩
    rw [hs]
    simp [DTxt.list, expT])
  have HC0 := Lib.hid (show CurR ((w.alloc (.cells #[.bool false, .string ⟨#[]⟩, .int .i64 0] 46)).alloc (.cells #[.string s, .int .i64 0] 96)) (w.heap.size + 1) s (sgn neg ++ (l1 ++ (fracT td2 ++ expT tex))) ∧ DecAt ((w.alloc (.cells #[.bool false, .string ⟨#[]⟩, .int .i64 0] 46)).alloc (.cells #[.string s, .int .i64 0] 96)) w.heap.size (.bool false) (.string ⟨#[]⟩) (.int .i64 0) ∧ Below w.heap.size w ((w.alloc (.cells #[.bool false, .string ⟨#[]⟩, .int .i64 0] 46)).alloc (.cells #[.string s, .int .i64 0] 96)) ∧ ((w.alloc (.cells #[.bool false, .string ⟨#[]⟩, .int .i64 0] 46)).alloc (.cells #[.string s, .int .i64 0] 96)).heap.size = w.heap.size + 2 from by
    refine ⟨⟨0, ⟨by simp, by simp [go_sem], by simp [go_sem], by simp [go_sem]⟩, Nat.zero_le _, hs⟩, ⟨by simp; omega, by simp [go_sem], by simp [go_sem], by simp [go_sem], by simp [go_sem], by simp [go_sem], by simp [go_sem]⟩, ?_, by simp⟩
    have h1 := (Below.refl w.heap.size w).alloc (Nat.le_refl _) (.cells #[.bool false, .string ⟨#[]⟩, .int .i64 0] 46)
    exact h1.alloc h1.size _)
  have HL1 : Hid (IsDig l1 ∧ l1 ≠ []) := Lib.hid ⟨g1, n1⟩
  have hne1 := not_empty n1
  obtain ⟨S1, hS1⟩ : ∃ S : ByteArray, (⟨l1.toArray⟩ : ByteArray) = S := ⟨_, rfl⟩
  have hs1l : S1.size ≤ 1000000000 := by rw [← hS1]; simp [ByteArray.size]; omega
  have HS1 := Lib.hid hS1
  rw [hS1] at hne1
  have hlen2 : (fracT td2).length ≤ 1000000000 := by omega
  have HLEN2 := Lib.hid hlen2
  clear hs hZ hE g1 n1 g2 g3 hl hlen hS1 hlen2
  go_enter Tryz.func14, Tryz.ntmps14
  go_wp2_with fail
  obtain ⟨W0, hW0⟩ : ∃ W0, (w.alloc (.cells #[.bool false, .string ⟨#[]⟩, .int .i64 0] 46)).alloc (.cells #[.string s, .int .i64 0] 96) = W0 := ⟨_, rfl⟩
  rw [hW0] at HC0
  rw [hW0]
  clear hW0
  refine (takeS (w.heap.size + 1) s neg _ W0 HC0.out.1 HSZ.out (dig_head2 HL1.out.1 HL1.out.2)).mono ?_
  rintro e w1 ⟨rfl, c1, b1, k1⟩
  have HU0 : Hid (UndR w (w1.alloc (.cells #[.bool neg, .string ⟨#[]⟩, .int .i64 0] 46)) w1.heap.size s (l1 ++ (fracT td2 ++ expT tex)) neg (.string ⟨#[]⟩) (.int .i64 0)) := Lib.hid (by
    have hb : Below w1.heap.size w1 (w1.alloc (.cells #[.bool neg, .string ⟨#[]⟩, .int .i64 0] 46)) := (Below.refl _ _).alloc (Nat.le_refl _) _
    have hd := DecAt.new w1 (.bool neg) (.string ⟨#[]⟩) (.int .i64 0) 46
    have hsz := HC0.out.2.2.2
    have hle := k1.size
    exact ⟨c1.below hb (Nat.le_refl _), (HC0.out.2.1.kept k1 (by omega)).kept (c := w1.heap.size) (Kept.of_below hb) (by have := HC0.out.2.1.1; omega), hd, by omega, HC0.out.2.2.1.trans ((b1.trans (hb.mono (by omega))).mono (by omega))⟩)
  clear HC0 c1 b1 k1
  go_wp2_with fail
  generalize w1.alloc (.cells #[.bool neg, .string ⟨#[]⟩, .int .i64 0] 46) = W1 at *
  generalize w1.heap.size = g at *
  refine (digitsR (w.heap.size + 1) s l1 _ W1 HU0.out.c HSZ.out HL1.out.1 frac_head).mono ?_
  rw [HS1.out]
  rintro e W2 ⟨rfl, c2, b2, k2⟩
  have HU := Lib.hid (HU0.out.move k2 c2 b2)
  clear HU0 c2 b2 k2
  obtain ⟨-, d0, d1, d2, f0, f1, f2⟩ := id HU.out.d
  go_wp2_with fail
  replace HU := Lib.hid (HU.out.set1 (.string S1))
  clear d0 d1 d2 f0 f1 f2
  generalize World.setCell _ ⟨g, 1, none⟩ (.string S1) = W3 at *
  rcases hd2 : td2 with _ | l2
  · subst hd2
    have HZ : Hid ((⟨(Lib.trimLeftB S1.data.toList 48).toArray⟩ : ByteArray) = Z) := Lib.hid (by rw [← HZ0.out, ← HS1.out]; simp [DTxt.digs])
    have HE : Hid ((0 : Int) + expZ tex = E) := Lib.hid (by rw [← HE0.out]; simp [DTxt.exp])
    clear HZ0 HE0 HS1 HOK2
    refine (takeR_no (w.heap.size + 1) s 46 (expT tex) W3 HU.out.c exp_no_dot).mono ?_
    rintro e w1 ⟨rfl, n3, hw3⟩
    replace HU : Hid (UndR w w1 g s (expT tex) neg (.string S1) (.int .i64 0)) := Lib.hid (by rw [hw3]; exact HU.out.quiet (below_dr (Below.refl _ _) n3))
    clear hw3
    go_wp2_with fail
    rcases hex : tex with _ | ⟨neg3, l3⟩
    · subst hex
      have HX : Hid (0 = E) := Lib.hid (by rw [← HE.out]; simp [expZ])
      refine (takeR_no (w.heap.size + 1) s 101 [] _ HU.out.c (by simp)).mono ?_
      rintro e w1 ⟨rfl, n8, hw8⟩
      replace HU : Hid (UndR w w1 g s [] neg (.string S1) (.int .i64 (0))) := Lib.hid (by rw [hw8]; exact HU.out.quiet (below_dr (Below.refl _ _) n8))
      clear hw8
      obtain ⟨-, d0, d1, d2, f0, f1, f2⟩ := id HU.out.d
      clear HE
      go_wp2_with fail
      clear d0 d1 d2 f0 f1 f2
      refine (Tryz.strings_TrimLeft_one S1 48 (by decide) _).mono ?_
      rw [HZ.out]
      rintro e w1 ⟨rfl, hw⟩
      obtain rfl := hw.symm
      obtain ⟨-, d0, d1, d2, f0, f1, f2⟩ := id HU.out.d
      go_wp2_with fail
      replace HU := Lib.hid (HU.out.set1 (.string Z))
      clear d0 d1 d2 f0 f1 f2
      generalize World.setCell _ ⟨g, 1, none⟩ (.string Z) = W13 at *
      obtain ⟨-, d0, d1, d2, -, -, -⟩ := id HU.out.d
      obtain ⟨-, r0, r1, r2, q0, q1, q2⟩ := id HU.out.r
      go_region_with (first | (go_at_call 47; refine (endR (w.heap.size + 1) s [] _ (show CurR W13.drew (w.heap.size + 1) s [] from HU.out.c)).mono ?_; rintro e w5 ⟨rfl, n5, rfl⟩) | fail)
      all_goals go_wp2_with fail
      all_goals exact bodyPost_ret (by simp [results, Tryz.results14, go_sem, r0, r1, r2]) rfl ⟨congrArg (fun z : Int => Ending.returned (.tuple #[.agg #[.bool neg, .string Z, .int .i64 z], .bool true])) HX.out, (((below_dr HU.out.b _).setCell (p := ⟨w.heap.size, 0, none⟩) (Nat.le_refl _) _).setCell (p := ⟨w.heap.size, 1, none⟩) (Nat.le_refl _) _).setCell (p := ⟨w.heap.size, 2, none⟩) (Nat.le_refl _) _⟩
    · subst hex
      obtain ⟨hd3, hn3⟩ := HOK3.out neg3 l3 rfl
      refine (takeR_yes (w.heap.size + 1) s 101 (sgn neg3 ++ l3) _ HU.out.c HSZ.out).mono ?_
      rintro e W7 ⟨rfl, c7, b7, k7⟩
      replace HU := Lib.hid (HU.out.move k7 c7 b7)
      clear c7 b7 k7
      go_wp2_with fail
      refine (takeS (w.heap.size + 1) s neg3 l3 W7 HU.out.c HSZ.out (dig_head hd3)).mono ?_
      rintro e W8 ⟨rfl, c8, b8, k8⟩
      replace HU := Lib.hid (HU.out.move k8 c8 b8)
      clear c8 b8 k8
      go_wp2_with fail
      refine (digitsR (w.heap.size + 1) s l3 [] W8 (by have h := HU.out.c; rwa [List.append_nil]) HSZ.out hd3 (by simp)).mono ?_
      rintro e W9 ⟨rfl, c9, b9, k9⟩
      replace HU := Lib.hid (HU.out.move k9 c9 b9)
      clear b9 k9
      obtain ⟨T3, hT3⟩ : ∃ T : ByteArray, (⟨(Lib.trimLeftB (⟨l3.toArray⟩ : ByteArray).data.toList 48).toArray⟩ : ByteArray) = T := ⟨_, rfl⟩
      obtain ⟨n3, hn3d⟩ : ∃ n, decN (Lib.trimLeftB l3 48) = n := ⟨_, rfl⟩
      have hsz3e : T3.size = (Lib.trimLeftB l3 48).length := by rw [← hT3]; simp [ByteArray.size]
      have HAT0 : Hid (Lib.atoi ((⟨#[48]⟩ : ByteArray) ++ T3).data.toList = some (n3 : Int)) := Lib.hid (by
        have : ((⟨#[48]⟩ : ByteArray) ++ T3).data.toList = 48 :: Lib.trimLeftB l3 48 := by rw [← hT3]; simp
        rw [this, atoi_dig hd3.trim, hn3d])
      have hn5 : (Lib.trimLeftB l3 48).length < 6 → n3 < 1000000 := fun h => by
        rw [← hn3d]
        have h1 := decN_lt (Lib.trimLeftB l3 48) hd3.trim
        have h2 : 10 ^ (Lib.trimLeftB l3 48).length ≤ 10 ^ 6 := Nat.pow_le_pow_right (by omega) (by omega)
        omega
      obtain ⟨j, ch, hcell0, hcell1, hidx, hc0, hc1, hjl⟩ := last_at c9 hd3 hn3 (HPRE.out neg3 l3 rfl)
      have HEX : Hid (∀ x : Int, (if (Lib.trimLeftB l3 48).length < 6 then (n3 : Int) else 100000) = x → (0) + (if neg3 = true then -x else x) = E) := Lib.hid (fun x hx => by
        rw [← HE.out, expZ, hn3d, hx])
      clear c9 HE
      go_wp2_with fail
      refine (Tryz.strings_TrimLeft_one ⟨l3.toArray⟩ 48 (by decide) W9).mono ?_
      rw [hT3]
      rintro e w1 ⟨rfl, hw⟩
      obtain rfl := hw.symm
      have h101 : ((ch.toNat : Int) != 101) = true := by simp; omega
      have h45 : ((ch.toNat : Int) != 45) = true := by simp; omega
      have hj0 : (j : Int) ≤ 4611686018427387904 := by have := HSZ.out; omega
      clear hT3
      go_wp2_with fail
      go_quiet (fail)
      replace HU := Lib.hid (HU.out.quiet (below_dr (Below.refl _ _) nq))
      generalize World.drewN W9 nq = W10 at *
      clear hcell0 hcell1 hidx hc0 hc1 h101 h45 hjl hj0
      by_cases hsm : (Lib.trimLeftB l3 48).length < 6
      · have hx := HEX.out (n3 : Int) (if_pos hsm)
        have hn5' := hn5 hsm
        have hT6 : (T3.size : Int) < 6 := by omega
        have hsz3 : T3.size < 6 := by omega
        have HX1 := Lib.hid hx
        clear hn5 hsm HEX hx hsz3e hn3d
        cases neg3
        · have HX : Hid ((n3 : Int) = E) := Lib.hid (by have h := HX1.out; simp at h; omega)
          clear HX1
          go_wp2_with fail
          refine (Tryz.strconv_Atoi ((⟨#[48]⟩ : ByteArray) ++ T3) (n3 : Int) (by rw [ByteArray.size_append]; have : (⟨#[48]⟩ : ByteArray).size = 1 := rfl; omega) HAT0.out _).mono ?_
          rintro e W11 ⟨rfl, tt, hw⟩
          replace HU : Hid (UndR w W11 g s [] neg (.string S1) (.int .i64 (0))) := Lib.hid (by rw [hw]; exact HU.out.quiet (below_bytes _ _ _))
          clear hw
          obtain ⟨-, d0, d1, d2, f0, f1, f2⟩ := id HU.out.d
          go_wp2_with fail
          replace HU := Lib.hid (HU.out.set2 (.int .i64 ((n3 : Int))))
          clear d0 d1 d2 f0 f1 f2
          generalize World.setCell _ ⟨g, 2, none⟩ (.int .i64 ((n3 : Int))) = W12 at *
          refine (Tryz.strings_TrimLeft_one S1 48 (by decide) _).mono ?_
          rw [HZ.out]
          rintro e w1 ⟨rfl, hw⟩
          obtain rfl := hw.symm
          obtain ⟨-, d0, d1, d2, f0, f1, f2⟩ := id HU.out.d
          go_wp2_with fail
          replace HU := Lib.hid (HU.out.set1 (.string Z))
          clear d0 d1 d2 f0 f1 f2
          generalize World.setCell _ ⟨g, 1, none⟩ (.string Z) = W13 at *
          obtain ⟨-, d0, d1, d2, -, -, -⟩ := id HU.out.d
          obtain ⟨-, r0, r1, r2, q0, q1, q2⟩ := id HU.out.r
          go_region_with (first | (go_at_call 47; refine (endR (w.heap.size + 1) s [] _ (show CurR W13.drew (w.heap.size + 1) s [] from HU.out.c)).mono ?_; rintro e w5 ⟨rfl, n5, rfl⟩) | fail)
          all_goals go_wp2_with fail
          all_goals exact bodyPost_ret (by simp [results, Tryz.results14, go_sem, r0, r1, r2]) rfl ⟨congrArg (fun z : Int => Ending.returned (.tuple #[.agg #[.bool neg, .string Z, .int .i64 z], .bool true])) HX.out, (((below_dr HU.out.b _).setCell (p := ⟨w.heap.size, 0, none⟩) (Nat.le_refl _) _).setCell (p := ⟨w.heap.size, 1, none⟩) (Nat.le_refl _) _).setCell (p := ⟨w.heap.size, 2, none⟩) (Nat.le_refl _) _⟩
        · have HX : Hid (-(n3 : Int) = E) := Lib.hid (by have h := HX1.out; simp at h; omega)
          clear HX1
          go_wp2_with fail
          refine (Tryz.strconv_Atoi ((⟨#[48]⟩ : ByteArray) ++ T3) (n3 : Int) (by rw [ByteArray.size_append]; have : (⟨#[48]⟩ : ByteArray).size = 1 := rfl; omega) HAT0.out _).mono ?_
          rintro e W11 ⟨rfl, tt, hw⟩
          replace HU : Hid (UndR w W11 g s [] neg (.string S1) (.int .i64 (0))) := Lib.hid (by rw [hw]; exact HU.out.quiet (below_bytes _ _ _))
          clear hw
          obtain ⟨-, d0, d1, d2, f0, f1, f2⟩ := id HU.out.d
          go_wp2_with fail
          replace HU := Lib.hid (HU.out.set2 (.int .i64 (-(n3 : Int))))
          clear d0 d1 d2 f0 f1 f2
          generalize World.setCell _ ⟨g, 2, none⟩ (.int .i64 (-(n3 : Int))) = W12 at *
          refine (Tryz.strings_TrimLeft_one S1 48 (by decide) _).mono ?_
          rw [HZ.out]
          rintro e w1 ⟨rfl, hw⟩
          obtain rfl := hw.symm
          obtain ⟨-, d0, d1, d2, f0, f1, f2⟩ := id HU.out.d
          go_wp2_with fail
          replace HU := Lib.hid (HU.out.set1 (.string Z))
          clear d0 d1 d2 f0 f1 f2
          generalize World.setCell _ ⟨g, 1, none⟩ (.string Z) = W13 at *
          obtain ⟨-, d0, d1, d2, -, -, -⟩ := id HU.out.d
          obtain ⟨-, r0, r1, r2, q0, q1, q2⟩ := id HU.out.r
          go_region_with (first | (go_at_call 47; refine (endR (w.heap.size + 1) s [] _ (show CurR W13.drew (w.heap.size + 1) s [] from HU.out.c)).mono ?_; rintro e w5 ⟨rfl, n5, rfl⟩) | fail)
          all_goals go_wp2_with fail
          all_goals exact bodyPost_ret (by simp [results, Tryz.results14, go_sem, r0, r1, r2]) rfl ⟨congrArg (fun z : Int => Ending.returned (.tuple #[.agg #[.bool neg, .string Z, .int .i64 z], .bool true])) HX.out, (((below_dr HU.out.b _).setCell (p := ⟨w.heap.size, 0, none⟩) (Nat.le_refl _) _).setCell (p := ⟨w.heap.size, 1, none⟩) (Nat.le_refl _) _).setCell (p := ⟨w.heap.size, 2, none⟩) (Nat.le_refl _) _⟩
      · have hx := HEX.out 100000 (if_neg hsm)
        have hT6 : ¬ (T3.size : Int) < 6 := by omega
        have HX1 := Lib.hid hx
        clear hn5 hsm HEX hx hsz3e hn3d HAT0
        cases neg3
        · have HX : Hid (100000 = E) := Lib.hid (by have h := HX1.out; simp at h; omega)
          clear HX1
          obtain ⟨-, d0, d1, d2, f0, f1, f2⟩ := id HU.out.d
          go_wp2_with fail
          replace HU := Lib.hid (HU.out.set2 (.int .i64 (100000)))
          clear d0 d1 d2 f0 f1 f2
          generalize World.setCell _ ⟨g, 2, none⟩ (.int .i64 (100000)) = W12 at *
          refine (Tryz.strings_TrimLeft_one S1 48 (by decide) _).mono ?_
          rw [HZ.out]
          rintro e w1 ⟨rfl, hw⟩
          obtain rfl := hw.symm
          obtain ⟨-, d0, d1, d2, f0, f1, f2⟩ := id HU.out.d
          go_wp2_with fail
          replace HU := Lib.hid (HU.out.set1 (.string Z))
          clear d0 d1 d2 f0 f1 f2
          generalize World.setCell _ ⟨g, 1, none⟩ (.string Z) = W13 at *
          obtain ⟨-, d0, d1, d2, -, -, -⟩ := id HU.out.d
          obtain ⟨-, r0, r1, r2, q0, q1, q2⟩ := id HU.out.r
          go_region_with (first | (go_at_call 47; refine (endR (w.heap.size + 1) s [] _ (show CurR W13.drew (w.heap.size + 1) s [] from HU.out.c)).mono ?_; rintro e w5 ⟨rfl, n5, rfl⟩) | fail)
          all_goals go_wp2_with fail
          all_goals exact bodyPost_ret (by simp [results, Tryz.results14, go_sem, r0, r1, r2]) rfl ⟨congrArg (fun z : Int => Ending.returned (.tuple #[.agg #[.bool neg, .string Z, .int .i64 z], .bool true])) HX.out, (((below_dr HU.out.b _).setCell (p := ⟨w.heap.size, 0, none⟩) (Nat.le_refl _) _).setCell (p := ⟨w.heap.size, 1, none⟩) (Nat.le_refl _) _).setCell (p := ⟨w.heap.size, 2, none⟩) (Nat.le_refl _) _⟩
        · have HX : Hid (-100000 = E) := Lib.hid (by have h := HX1.out; simp at h; omega)
          clear HX1
          obtain ⟨-, d0, d1, d2, f0, f1, f2⟩ := id HU.out.d
          go_wp2_with fail
          replace HU := Lib.hid (HU.out.set2 (.int .i64 (-100000)))
          clear d0 d1 d2 f0 f1 f2
          generalize World.setCell _ ⟨g, 2, none⟩ (.int .i64 (-100000)) = W12 at *
          refine (Tryz.strings_TrimLeft_one S1 48 (by decide) _).mono ?_
          rw [HZ.out]
          rintro e w1 ⟨rfl, hw⟩
          obtain rfl := hw.symm
          obtain ⟨-, d0, d1, d2, f0, f1, f2⟩ := id HU.out.d
          go_wp2_with fail
          replace HU := Lib.hid (HU.out.set1 (.string Z))
          clear d0 d1 d2 f0 f1 f2
          generalize World.setCell _ ⟨g, 1, none⟩ (.string Z) = W13 at *
          obtain ⟨-, d0, d1, d2, -, -, -⟩ := id HU.out.d
          obtain ⟨-, r0, r1, r2, q0, q1, q2⟩ := id HU.out.r
          go_region_with (first | (go_at_call 47; refine (endR (w.heap.size + 1) s [] _ (show CurR W13.drew (w.heap.size + 1) s [] from HU.out.c)).mono ?_; rintro e w5 ⟨rfl, n5, rfl⟩) | fail)
          all_goals go_wp2_with fail
          all_goals exact bodyPost_ret (by simp [results, Tryz.results14, go_sem, r0, r1, r2]) rfl ⟨congrArg (fun z : Int => Ending.returned (.tuple #[.agg #[.bool neg, .string Z, .int .i64 z], .bool true])) HX.out, (((below_dr HU.out.b _).setCell (p := ⟨w.heap.size, 0, none⟩) (Nat.le_refl _) _).setCell (p := ⟨w.heap.size, 1, none⟩) (Nat.le_refl _) _).setCell (p := ⟨w.heap.size, 2, none⟩) (Nat.le_refl _) _⟩
  · subst hd2
    obtain ⟨hdd2, hnn2⟩ := HOK2.out l2 rfl
    have HZ : Hid ((⟨(Lib.trimLeftB (S1 ++ (⟨l2.toArray⟩ : ByteArray)).data.toList 48).toArray⟩ : ByteArray) = Z) := Lib.hid (by rw [← HZ0.out, ← HS1.out]; simp [DTxt.digs])
    have HE : Hid ((-(l2.length : Int)) + expZ tex = E) := Lib.hid (by rw [← HE0.out]; simp [DTxt.exp])
    have HD2 := Lib.hid hdd2
    have hne2 := not_empty hnn2
    obtain ⟨S2, hS2⟩ : ∃ S : ByteArray, (⟨l2.toArray⟩ : ByteArray) = S := ⟨_, rfl⟩
    have hs2l : S2.size = l2.length := by rw [← hS2]; simp [ByteArray.size]
    have hl2l : l2.length ≤ 1000000000 := by have := HLEN2.out; simp [fracT] at this; omega
    have HS2 := Lib.hid hS2
    rw [hS2] at hne2 HZ
    rw [← hs2l] at HE
    have hs2b : S2.size ≤ 1000000000 := by omega
    clear HZ0 HE0 HS1 HOK2 hdd2 hnn2 hS2 hs2l hl2l HLEN2
    refine (takeR_yes (w.heap.size + 1) s 46 (l2 ++ expT tex) W3 HU.out.c HSZ.out).mono ?_
    rintro e W4 ⟨rfl, c4, b4, k4⟩
    replace HU := Lib.hid (HU.out.move k4 c4 b4)
    clear c4 b4 k4
    go_wp2_with fail
    refine (digitsR (w.heap.size + 1) s l2 _ W4 HU.out.c HSZ.out HD2.out exp_head).mono ?_
    rw [HS2.out]
    rintro e W5 ⟨rfl, c5, b5, k5⟩
    replace HU := Lib.hid (HU.out.move k5 c5 b5)
    clear c5 b5 k5 HS2
    obtain ⟨-, d0, d1, d2, f0, f1, f2⟩ := id HU.out.d
    go_wp2_with fail
    replace HU := Lib.hid ((HU.out.set1 (.string (S1 ++ S2))).set2 (.int .i64 (-(S2.size : Int))))
    clear d0 d1 d2 f0 f1 f2
    generalize World.setCell (World.setCell _ ⟨g, 1, none⟩ (.string (S1 ++ S2))) ⟨g, 2, none⟩ (.int .i64 (-(S2.size : Int))) = W6 at *
    rcases hex : tex with _ | ⟨neg3, l3⟩
    · subst hex
      have HX : Hid (-(S2.size : Int) = E) := Lib.hid (by rw [← HE.out]; simp [expZ])
      refine (takeR_no (w.heap.size + 1) s 101 [] _ HU.out.c (by simp)).mono ?_
      rintro e w1 ⟨rfl, n8, hw8⟩
      replace HU : Hid (UndR w w1 g s [] neg (.string (S1 ++ S2)) (.int .i64 (-(S2.size : Int)))) := Lib.hid (by rw [hw8]; exact HU.out.quiet (below_dr (Below.refl _ _) n8))
      clear hw8
      obtain ⟨-, d0, d1, d2, f0, f1, f2⟩ := id HU.out.d
      clear HE
      go_wp2_with fail
      clear d0 d1 d2 f0 f1 f2
      refine (Tryz.strings_TrimLeft_one (S1 ++ S2) 48 (by decide) _).mono ?_
      rw [HZ.out]
      rintro e w1 ⟨rfl, hw⟩
      obtain rfl := hw.symm
      obtain ⟨-, d0, d1, d2, f0, f1, f2⟩ := id HU.out.d
      go_wp2_with fail
      replace HU := Lib.hid (HU.out.set1 (.string Z))
      clear d0 d1 d2 f0 f1 f2
      generalize World.setCell _ ⟨g, 1, none⟩ (.string Z) = W13 at *
      obtain ⟨-, d0, d1, d2, -, -, -⟩ := id HU.out.d
      obtain ⟨-, r0, r1, r2, q0, q1, q2⟩ := id HU.out.r
      go_region_with (first | (go_at_call 47; refine (endR (w.heap.size + 1) s [] _ (show CurR W13.drew (w.heap.size + 1) s [] from HU.out.c)).mono ?_; rintro e w5 ⟨rfl, n5, rfl⟩) | fail)
      all_goals go_wp2_with fail
      all_goals exact bodyPost_ret (by simp [results, Tryz.results14, go_sem, r0, r1, r2]) rfl ⟨congrArg (fun z : Int => Ending.returned (.tuple #[.agg #[.bool neg, .string Z, .int .i64 z], .bool true])) HX.out, (((below_dr HU.out.b _).setCell (p := ⟨w.heap.size, 0, none⟩) (Nat.le_refl _) _).setCell (p := ⟨w.heap.size, 1, none⟩) (Nat.le_refl _) _).setCell (p := ⟨w.heap.size, 2, none⟩) (Nat.le_refl _) _⟩
    · subst hex
      obtain ⟨hd3, hn3⟩ := HOK3.out neg3 l3 rfl
      refine (takeR_yes (w.heap.size + 1) s 101 (sgn neg3 ++ l3) _ HU.out.c HSZ.out).mono ?_
      rintro e W7 ⟨rfl, c7, b7, k7⟩
      replace HU := Lib.hid (HU.out.move k7 c7 b7)
      clear c7 b7 k7
      go_wp2_with fail
      refine (takeS (w.heap.size + 1) s neg3 l3 W7 HU.out.c HSZ.out (dig_head hd3)).mono ?_
      rintro e W8 ⟨rfl, c8, b8, k8⟩
      replace HU := Lib.hid (HU.out.move k8 c8 b8)
      clear c8 b8 k8
      go_wp2_with fail
      refine (digitsR (w.heap.size + 1) s l3 [] W8 (by have h := HU.out.c; rwa [List.append_nil]) HSZ.out hd3 (by simp)).mono ?_
      rintro e W9 ⟨rfl, c9, b9, k9⟩
      replace HU := Lib.hid (HU.out.move k9 c9 b9)
      clear b9 k9
      obtain ⟨T3, hT3⟩ : ∃ T : ByteArray, (⟨(Lib.trimLeftB (⟨l3.toArray⟩ : ByteArray).data.toList 48).toArray⟩ : ByteArray) = T := ⟨_, rfl⟩
      obtain ⟨n3, hn3d⟩ : ∃ n, decN (Lib.trimLeftB l3 48) = n := ⟨_, rfl⟩
      have hsz3e : T3.size = (Lib.trimLeftB l3 48).length := by rw [← hT3]; simp [ByteArray.size]
      have HAT0 : Hid (Lib.atoi ((⟨#[48]⟩ : ByteArray) ++ T3).data.toList = some (n3 : Int)) := Lib.hid (by
        have : ((⟨#[48]⟩ : ByteArray) ++ T3).data.toList = 48 :: Lib.trimLeftB l3 48 := by rw [← hT3]; simp
        rw [this, atoi_dig hd3.trim, hn3d])
      have hn5 : (Lib.trimLeftB l3 48).length < 6 → n3 < 1000000 := fun h => by
        rw [← hn3d]
        have h1 := decN_lt (Lib.trimLeftB l3 48) hd3.trim
        have h2 : 10 ^ (Lib.trimLeftB l3 48).length ≤ 10 ^ 6 := Nat.pow_le_pow_right (by omega) (by omega)
        omega
      obtain ⟨j, ch, hcell0, hcell1, hidx, hc0, hc1, hjl⟩ := last_at c9 hd3 hn3 (HPRE.out neg3 l3 rfl)
      have HEX : Hid (∀ x : Int, (if (Lib.trimLeftB l3 48).length < 6 then (n3 : Int) else 100000) = x → (-(S2.size : Int)) + (if neg3 = true then -x else x) = E) := Lib.hid (fun x hx => by
        rw [← HE.out, expZ, hn3d, hx])
      clear c9 HE
      go_wp2_with fail
      refine (Tryz.strings_TrimLeft_one ⟨l3.toArray⟩ 48 (by decide) W9).mono ?_
      rw [hT3]
      rintro e w1 ⟨rfl, hw⟩
      obtain rfl := hw.symm
      have h101 : ((ch.toNat : Int) != 101) = true := by simp; omega
      have h45 : ((ch.toNat : Int) != 45) = true := by simp; omega
      have hj0 : (j : Int) ≤ 4611686018427387904 := by have := HSZ.out; omega
      clear hT3
      go_wp2_with fail
      go_quiet (fail)
      replace HU := Lib.hid (HU.out.quiet (below_dr (Below.refl _ _) nq))
      generalize World.drewN W9 nq = W10 at *
      clear hcell0 hcell1 hidx hc0 hc1 h101 h45 hjl hj0
      by_cases hsm : (Lib.trimLeftB l3 48).length < 6
      · have hx := HEX.out (n3 : Int) (if_pos hsm)
        have hn5' := hn5 hsm
        have hT6 : (T3.size : Int) < 6 := by omega
        have hsz3 : T3.size < 6 := by omega
        have HX1 := Lib.hid hx
        clear hn5 hsm HEX hx hsz3e hn3d
        cases neg3
        · have HX : Hid (-(S2.size : Int) + (n3 : Int) = E) := Lib.hid (by have h := HX1.out; simp at h; omega)
          clear HX1
          go_wp2_with fail
          refine (Tryz.strconv_Atoi ((⟨#[48]⟩ : ByteArray) ++ T3) (n3 : Int) (by rw [ByteArray.size_append]; have : (⟨#[48]⟩ : ByteArray).size = 1 := rfl; omega) HAT0.out _).mono ?_
          rintro e W11 ⟨rfl, tt, hw⟩
          replace HU : Hid (UndR w W11 g s [] neg (.string (S1 ++ S2)) (.int .i64 (-(S2.size : Int)))) := Lib.hid (by rw [hw]; exact HU.out.quiet (below_bytes _ _ _))
          clear hw
          obtain ⟨-, d0, d1, d2, f0, f1, f2⟩ := id HU.out.d
          go_wp2_with fail
          replace HU := Lib.hid (HU.out.set2 (.int .i64 (-(S2.size : Int) + (n3 : Int))))
          clear d0 d1 d2 f0 f1 f2
          generalize World.setCell _ ⟨g, 2, none⟩ (.int .i64 (-(S2.size : Int) + (n3 : Int))) = W12 at *
          refine (Tryz.strings_TrimLeft_one (S1 ++ S2) 48 (by decide) _).mono ?_
          rw [HZ.out]
          rintro e w1 ⟨rfl, hw⟩
          obtain rfl := hw.symm
          obtain ⟨-, d0, d1, d2, f0, f1, f2⟩ := id HU.out.d
          go_wp2_with fail
          replace HU := Lib.hid (HU.out.set1 (.string Z))
          clear d0 d1 d2 f0 f1 f2
          generalize World.setCell _ ⟨g, 1, none⟩ (.string Z) = W13 at *
          obtain ⟨-, d0, d1, d2, -, -, -⟩ := id HU.out.d
          obtain ⟨-, r0, r1, r2, q0, q1, q2⟩ := id HU.out.r
          go_region_with (first | (go_at_call 47; refine (endR (w.heap.size + 1) s [] _ (show CurR W13.drew (w.heap.size + 1) s [] from HU.out.c)).mono ?_; rintro e w5 ⟨rfl, n5, rfl⟩) | fail)
          all_goals go_wp2_with fail
          all_goals exact bodyPost_ret (by simp [results, Tryz.results14, go_sem, r0, r1, r2]) rfl ⟨congrArg (fun z : Int => Ending.returned (.tuple #[.agg #[.bool neg, .string Z, .int .i64 z], .bool true])) HX.out, (((below_dr HU.out.b _).setCell (p := ⟨w.heap.size, 0, none⟩) (Nat.le_refl _) _).setCell (p := ⟨w.heap.size, 1, none⟩) (Nat.le_refl _) _).setCell (p := ⟨w.heap.size, 2, none⟩) (Nat.le_refl _) _⟩
        · have HX : Hid (-(S2.size : Int) + -(n3 : Int) = E) := Lib.hid (by have h := HX1.out; simp at h; omega)
          clear HX1
          go_wp2_with fail
          refine (Tryz.strconv_Atoi ((⟨#[48]⟩ : ByteArray) ++ T3) (n3 : Int) (by rw [ByteArray.size_append]; have : (⟨#[48]⟩ : ByteArray).size = 1 := rfl; omega) HAT0.out _).mono ?_
          rintro e W11 ⟨rfl, tt, hw⟩
          replace HU : Hid (UndR w W11 g s [] neg (.string (S1 ++ S2)) (.int .i64 (-(S2.size : Int)))) := Lib.hid (by rw [hw]; exact HU.out.quiet (below_bytes _ _ _))
          clear hw
          obtain ⟨-, d0, d1, d2, f0, f1, f2⟩ := id HU.out.d
          go_wp2_with fail
          replace HU := Lib.hid (HU.out.set2 (.int .i64 (-(S2.size : Int) + -(n3 : Int))))
          clear d0 d1 d2 f0 f1 f2
          generalize World.setCell _ ⟨g, 2, none⟩ (.int .i64 (-(S2.size : Int) + -(n3 : Int))) = W12 at *
          refine (Tryz.strings_TrimLeft_one (S1 ++ S2) 48 (by decide) _).mono ?_
          rw [HZ.out]
          rintro e w1 ⟨rfl, hw⟩
          obtain rfl := hw.symm
          obtain ⟨-, d0, d1, d2, f0, f1, f2⟩ := id HU.out.d
          go_wp2_with fail
          replace HU := Lib.hid (HU.out.set1 (.string Z))
          clear d0 d1 d2 f0 f1 f2
          generalize World.setCell _ ⟨g, 1, none⟩ (.string Z) = W13 at *
          obtain ⟨-, d0, d1, d2, -, -, -⟩ := id HU.out.d
          obtain ⟨-, r0, r1, r2, q0, q1, q2⟩ := id HU.out.r
          go_region_with (first | (go_at_call 47; refine (endR (w.heap.size + 1) s [] _ (show CurR W13.drew (w.heap.size + 1) s [] from HU.out.c)).mono ?_; rintro e w5 ⟨rfl, n5, rfl⟩) | fail)
          all_goals go_wp2_with fail
          all_goals exact bodyPost_ret (by simp [results, Tryz.results14, go_sem, r0, r1, r2]) rfl ⟨congrArg (fun z : Int => Ending.returned (.tuple #[.agg #[.bool neg, .string Z, .int .i64 z], .bool true])) HX.out, (((below_dr HU.out.b _).setCell (p := ⟨w.heap.size, 0, none⟩) (Nat.le_refl _) _).setCell (p := ⟨w.heap.size, 1, none⟩) (Nat.le_refl _) _).setCell (p := ⟨w.heap.size, 2, none⟩) (Nat.le_refl _) _⟩
      · have hx := HEX.out 100000 (if_neg hsm)
        have hT6 : ¬ (T3.size : Int) < 6 := by omega
        have HX1 := Lib.hid hx
        clear hn5 hsm HEX hx hsz3e hn3d HAT0
        cases neg3
        · have HX : Hid (-(S2.size : Int) + 100000 = E) := Lib.hid (by have h := HX1.out; simp at h; omega)
          clear HX1
          obtain ⟨-, d0, d1, d2, f0, f1, f2⟩ := id HU.out.d
          go_wp2_with fail
          replace HU := Lib.hid (HU.out.set2 (.int .i64 (-(S2.size : Int) + 100000)))
          clear d0 d1 d2 f0 f1 f2
          generalize World.setCell _ ⟨g, 2, none⟩ (.int .i64 (-(S2.size : Int) + 100000)) = W12 at *
          refine (Tryz.strings_TrimLeft_one (S1 ++ S2) 48 (by decide) _).mono ?_
          rw [HZ.out]
          rintro e w1 ⟨rfl, hw⟩
          obtain rfl := hw.symm
          obtain ⟨-, d0, d1, d2, f0, f1, f2⟩ := id HU.out.d
          go_wp2_with fail
          replace HU := Lib.hid (HU.out.set1 (.string Z))
          clear d0 d1 d2 f0 f1 f2
          generalize World.setCell _ ⟨g, 1, none⟩ (.string Z) = W13 at *
          obtain ⟨-, d0, d1, d2, -, -, -⟩ := id HU.out.d
          obtain ⟨-, r0, r1, r2, q0, q1, q2⟩ := id HU.out.r
          go_region_with (first | (go_at_call 47; refine (endR (w.heap.size + 1) s [] _ (show CurR W13.drew (w.heap.size + 1) s [] from HU.out.c)).mono ?_; rintro e w5 ⟨rfl, n5, rfl⟩) | fail)
          all_goals go_wp2_with fail
          all_goals exact bodyPost_ret (by simp [results, Tryz.results14, go_sem, r0, r1, r2]) rfl ⟨congrArg (fun z : Int => Ending.returned (.tuple #[.agg #[.bool neg, .string Z, .int .i64 z], .bool true])) HX.out, (((below_dr HU.out.b _).setCell (p := ⟨w.heap.size, 0, none⟩) (Nat.le_refl _) _).setCell (p := ⟨w.heap.size, 1, none⟩) (Nat.le_refl _) _).setCell (p := ⟨w.heap.size, 2, none⟩) (Nat.le_refl _) _⟩
        · have HX : Hid (-(S2.size : Int) + -100000 = E) := Lib.hid (by have h := HX1.out; simp at h; omega)
          clear HX1
          obtain ⟨-, d0, d1, d2, f0, f1, f2⟩ := id HU.out.d
          go_wp2_with fail
          replace HU := Lib.hid (HU.out.set2 (.int .i64 (-(S2.size : Int) + -100000)))
          clear d0 d1 d2 f0 f1 f2
          generalize World.setCell _ ⟨g, 2, none⟩ (.int .i64 (-(S2.size : Int) + -100000)) = W12 at *
          refine (Tryz.strings_TrimLeft_one (S1 ++ S2) 48 (by decide) _).mono ?_
          rw [HZ.out]
          rintro e w1 ⟨rfl, hw⟩
          obtain rfl := hw.symm
          obtain ⟨-, d0, d1, d2, f0, f1, f2⟩ := id HU.out.d
          go_wp2_with fail
          replace HU := Lib.hid (HU.out.set1 (.string Z))
          clear d0 d1 d2 f0 f1 f2
          generalize World.setCell _ ⟨g, 1, none⟩ (.string Z) = W13 at *
          obtain ⟨-, d0, d1, d2, -, -, -⟩ := id HU.out.d
          obtain ⟨-, r0, r1, r2, q0, q1, q2⟩ := id HU.out.r
          go_region_with (first | (go_at_call 47; refine (endR (w.heap.size + 1) s [] _ (show CurR W13.drew (w.heap.size + 1) s [] from HU.out.c)).mono ?_; rintro e w5 ⟨rfl, n5, rfl⟩) | fail)
          all_goals go_wp2_with fail
          all_goals exact bodyPost_ret (by simp [results, Tryz.results14, go_sem, r0, r1, r2]) rfl ⟨congrArg (fun z : Int => Ending.returned (.tuple #[.agg #[.bool neg, .string Z, .int .i64 z], .bool true])) HX.out, (((below_dr HU.out.b _).setCell (p := ⟨w.heap.size, 0, none⟩) (Nat.le_refl _) _).setCell (p := ⟨w.heap.size, 1, none⟩) (Nat.le_refl _) _).setCell (p := ⟨w.heap.size, 2, none⟩) (Nat.le_refl _) _⟩
end Go.Proofs.YtbidlkmagbjllaaGreatDoor.Nb
