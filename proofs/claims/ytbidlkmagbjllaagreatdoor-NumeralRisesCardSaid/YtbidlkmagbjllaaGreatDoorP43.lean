/- RE6 RE7 RE8 in one text. -/
import Derived.Test.YtbidlkmagbjllaaGreatDoorP42
import Derived.IntWalk
import Derived.Test.YtbidlkmagbjllaaGreatDoorP17

namespace Go.Proofs.YtbidlkmagbjllaaGreatDoor.Bg
open Go Go.RowKit

/-- the boxed decimal -/
def BoxD (W : World) (b : Nat) (neg : Bool) (p : Addr) (E : Int) : Prop := W.cell? ⟨b, 0, none⟩ = some (.bool neg) ∧ W.cell? ⟨b, 1, none⟩ = some (.pointer (some p)) ∧ W.cell? ⟨b, 2, none⟩ = some (.int .i64 E)
theorem BoxD.below {W1 W : World} {b B : Nat} {neg : Bool} {p : Addr} {E : Int} (h : BoxD W1 b neg p E) (hb : b < B) (k : Below B W1 W) : BoxD W b neg p E := by
  have hc : ∀ o, W.cell? ⟨b, o, none⟩ = W1.cell? ⟨b, o, none⟩ := fun o => World.cell?_of_block (k.block b hb)
  exact ⟨(hc _).trans h.1, (hc _).trans h.2.1, (hc _).trans h.2.2⟩
/-- what scaled answers -/
def ScaG (w : World) (x : Int) (en : Ending) (w' : World) : Prop := ∃ z : Addr, en = .returned (.pointer (some z)) ∧ IntAt w' z x 30000 ∧ Below w.heap.size w w'

set_option maxRecDepth 8000 in
set_option maxHeartbeats 4000000 in
theorem scaled_any (neg : Bool) (p : Addr) (D k : Nat) (E e : Int) (w : World) (hp : IntAt w p (D : Int) 2001) (hk : E - e = (k : Int)) (hk2 : k ≤ 20000) :
    Calls Tryz.prog 20 #[.agg #[.bool neg, .pointer (some p), .int .i64 E], .int .i64 e] w (ScaG w (Nx.sv neg (D * 10 ^ k))) := by
  obtain ⟨W1, hW1⟩ : ∃ W1, w.alloc (.cells #[.bool neg, .pointer (some p), .int .i64 E] 25) = W1 := ⟨_, rfl⟩
  have hB1 : Below w.heap.size w W1 := by rw [← hW1]; exact (Below.refl w.heap.size w).alloc (Nat.le_refl _) _
  have hs1 : W1.heap.size = w.heap.size + 1 := by rw [← hW1]; simp
  have hT : BoxD W1 w.heap.size neg p E := by
    rw [← hW1]
    refine ⟨?_, ?_, ?_⟩ <;> simp [go_sem]
  have HT := Lib.hid (fun W (hW : Below W1.heap.size W1 W) => hT.below (W := W) (by omega) hW)
  have HTE := Lib.hid (fun W (hW : Below W1.heap.size W1 W) => (hT.below (W := W) (by omega) hW).2.2)
  have HS1 := Lib.hid hs1
  have HB1 := Lib.hid hB1
  have HP1 := Lib.hid (hp.below hB1)
  obtain ⟨T, hTe⟩ : ∃ T, 10 ^ k = T := ⟨_, rfl⟩
  rw [hTe]
  have hcur : Below W1.heap.size W1 W1.drew := (Below.refl _ _).drew
  have hal : Below W1.heap.size W1 (W1.alloc (.cells #[.bool false, .slice none 0 0] 41)).drew := ((Below.refl _ _).alloc (Nat.le_refl _) _).drew
  have hsl := Lib.hid (show Slot (W1.alloc (.cells #[.bool false, .slice none 0 0] 41)).drew ⟨W1.heap.size, 0, none⟩ from Slot.new W1 false none 0 0 41)
  obtain ⟨L8, hL8, hL8'⟩ : ∃ L8 : Nat, 20001 ≤ L8 ∧ L8 ≤ 20001 := ⟨20001, by omega, by omega⟩
  have HI10 := Lib.hid (fun W => newInt_any 10 W (by omega) (by omega))
  have HIK := Lib.hid (fun W => newInt_any (k : Int) W (by omega) (by omega))
  have HEXP := Lib.hid (fun (W : World) (z z1 z2 : Addr) (h1 : Slot W z) (h2 : IntAt W z1 (10 : Int) 2) (h3 : IntAt W z2 (k : Int) 2) => (Exp_any z z1 z2 10 k L8 W h1 (h2.more (by omega)) h3 (by omega) (Nat.lt_of_lt_of_le (ten_words (Nat.le_refl k)) (Nat.pow_le_pow_right (by omega) (by omega))) (by omega) (by omega)).mono fun e w' hg => (And.intro hg (hg.2.1.slot h1 h1)))
  rw [hTe] at HEXP
  have HTT := Lib.hid hTe
  clear hB1 hs1 hT hp hTe
  go_enter Tryz.func20, Tryz.ntmps20
  go_upto_region 1 with (fail)
  clear hW1
  have hki : (k : Int) ≤ 20000 := by omega
  have hkw : IntKind.i64.wrap (E - e) = (k : Int) := by rw [hk]; exact IntWalk.i64_in _ ⟨by omega, by omega⟩
  have HK := Lib.hid hk
  clear hk
  go_region_held3 (fun w' => w'.cell? ⟨w.heap.size, 2, none⟩ = some (.int .i64 E))
    (first | exact HTE.out _ (by first | exact hcur | exact hb4 | exact hb3 | exact hb2 | exact hal | exact hb3.alloc hb3.size _ | exact hb2.alloc hb2.size _))
    (first | (go_at_call_of 58 (Value.int .i64 10); refine (HI10.out _).mono ?_; rintro en w2 ⟨z1, rfl, hz1, s1, i1, b1⟩; have hb2 : Below W1.heap.size W1 w2 := (by first | exact hal.trans (b1.mono hal.size) | exact hcur.trans (b1.mono hcur.size)); clear hz1 s1) | (go_at_call_of 58 (Value.int .i64 (k : Int)); refine (HIK.out _).mono ?_; rintro en w3 ⟨z2, rfl, hz2, s2, i2, b2⟩; have hb3 : Below W1.heap.size W1 w3 := (by first | exact hb2.trans (b2.mono hb2.size) | exact (hb2.alloc hb2.size _).trans (b2.mono (hb2.alloc hb2.size _).size)); have i13 : IntAt w3 z1 10 2 := (by first | exact i1.below b2 | exact (i1.below ((Below.refl _ _).alloc (Nat.le_refl _) _)).below b2); clear hz2 s2) | (go_at_call 57; refine (HEXP.out _ _ z1 z2 (by first | exact (hsl.out.below b1).below b2 | exact (Slot.new w2 false none 0 0 41).below b2 | exact Slot.new w3 false none 0 0 41) (by first | exact i13 | exact i13.below ((Below.refl _ _).alloc (Nat.le_refl _) _)) (by first | exact i2 | exact i2.below ((Below.refl _ _).alloc (Nat.le_refl _) _))).mono ?_; rintro en w4 ⟨hg, hsz⟩; have hb4 : Below W1.heap.size W1 w4 := (by first | exact hb3.trans (hg.2.1.below (by first | exact Nat.le_refl _ | exact hb2.size) hb3.size) | exact (hb3.alloc hb3.size _).trans (hg.2.1.below (by exact hb3.size) (hb3.alloc hb3.size _).size)); obtain ⟨zz, rfl, HZZ⟩ : ∃ zz : Addr, en = .returned (.pointer (some zz)) ∧ Hid (IntAt w4 zz (T : Int) L8 ∧ Slot w4 zz ∧ W1.heap.size ≤ zz.block) := ⟨_, hg.1, Lib.hid ⟨hg.2.2, hsz, (by first | exact Nat.le_refl _ | exact hb2.size | exact hb3.size)⟩⟩))
  all_goals (clear hg hsz; go_upto_region 2 with (fail))
  all_goals
    have hpz : p ≠ zz := fun h => by
      have h1 := HP1.out.lt
      have h2 := HZZ.out.2.2
      rw [h] at h1
      omega
    have HMS := Lib.hid (Mul_self zz p T D L8 2001 w4 HZZ.out.2.1 HZZ.out.1 (HP1.out.below hb4) hpz (by omega) (by omega))
    obtain ⟨c0, c1, c2⟩ := HT.out _ hb4
    clear HI10 HIK HEXP hsl i13 i1 i2 b1 b2
    go_wp2_with fail
    refine HMS.out.mono ?_
    rintro en w5 hg
    have HK5 := Lib.hid (KeepG.of_gives hg HZZ.out.2.1)
    have HZ5 := Lib.hid (And.intro (hg.2.2.more (show L8 + 2001 ≤ 29000 by omega)) (hg.2.1.slot HZZ.out.2.1 HZZ.out.2.1))
    have HB5 : Hid (Below W1.heap.size W1 w5) := Lib.hid (hb4.trans (HK5.out.below _ HZZ.out.2.2 hb4.size))
    obtain ⟨rfl, -⟩ := id hg
    clear c0 c1 c2 hg HMS
    obtain ⟨c0, c1, c2⟩ := HT.out _ HB5.out
    rcases hng : neg with _ | _
    · subst hng
      go_wp2_with fail
      go_ret
      exact ⟨zz, rfl, (by
        have h := HZ5.out.1.more (show 29000 ≤ 30000 by omega)
        rw [Nat.mul_comm] at h
        exact h), HB1.out.trans (HB5.out.mono HB1.out.size)⟩
    · subst hng
      have HNG := Lib.hid (Neg_any zz zz ((T * D : Nat) : Int) 29000 w5 HZ5.out.2 HZ5.out.1 (by omega))
      go_wp2_with fail
      refine HNG.out.mono ?_
      rintro en w6 hg
      have HK6 := Lib.hid (KeepG.of_gives hg HZ5.out.2)
      have HZ6 := Lib.hid (hg.2.2.more (show 29000 ≤ 30000 by omega))
      have HB6 : Hid (Below W1.heap.size W1 w6) := Lib.hid (HB5.out.trans (HK6.out.below _ HZZ.out.2.2 HB5.out.size))
      obtain ⟨rfl, -⟩ := id hg
      clear hg HNG
      go_wp2_with fail
      go_ret
      exact ⟨zz, rfl, (by
        have h := HZ6.out
        rw [Nat.mul_comm] at h
        exact h), HB1.out.trans (HB6.out.mono HB1.out.size)⟩
end Go.Proofs.YtbidlkmagbjllaaGreatDoor.Bg

namespace Go.Proofs.YtbidlkmagbjllaaGreatDoor.Bg
open Go Go.RowKit

/-- two boxed decimals -/
def TwoD (W : World) (b : Nat) (n n' : Bool) (p q : Addr) (E F : Int) : Prop := BoxD W b n p E ∧ BoxD W (b + 1) n' q F
/-- what an answer of Compare says of the numbers that the texts are read as -/
def CmpSays (t t' : Nb.DTxt) (c : Int) : Prop := ∀ X X', t.Amt X → t'.Amt X' → (c ≤ 0 → Nx.sv t.neg X ≤ Nx.sv t'.neg X') ∧ (0 ≤ c → Nx.sv t'.neg X' ≤ Nx.sv t.neg X)
theorem sv_pow (b : Bool) (n k : Nat) : Nx.sv b n * ((2 ^ k : Nat) : Int) = Nx.sv b (n * 2 ^ k) := by
  unfold Nx.sv
  cases b
  · simp only [Bool.false_eq_true, if_false]; rw [Int.natCast_mul]
  · simp only [if_true]; rw [Int.natCast_mul, Int.neg_mul]
theorem sv_powI (b : Bool) (n k : Nat) : Nx.sv b n * (2 : Int) ^ k = Nx.sv b (n * 2 ^ k) := by
  rw [← sv_pow, Int.natCast_pow]; rfl
theorem signI_le {S : Int} : (signI S ≤ 0 → S ≤ 0) ∧ (0 ≤ signI S → 0 ≤ S) := by
  unfold signI
  split
  · omega
  · split <;> omega
theorem cmpI_le {x y : Int} : (cmpI x y ≤ 0 → x ≤ y) ∧ (0 ≤ cmpI x y → y ≤ x) := by
  unfold cmpI
  split
  · omega
  · split <;> omega

set_option maxRecDepth 8000 in
set_option maxHeartbeats 4000000 in
theorem compareD_any (t t' : Nb.DTxt) (p q : Addr) (w : World) (ok : t.Ok) (ok' : t'.Ok) (hs : Nb.Sizes t) (hs' : Nb.Sizes t') (hp : IntAt w p (Nb.decN t.digs : Int) 2001) (hq : IntAt w q (Nb.decN t'.digs : Int) 2001)
    (a0 : -22000 ≤ t.expR) (a1 : t.expR ≤ 22000) (b0 : -22000 ≤ t'.expR) (b1 : t'.expR ≤ 22000) :
    Calls Tryz.prog 7 #[.agg #[.bool t.neg, .pointer (some p), .int .i64 t.expR], .agg #[.bool t'.neg, .pointer (some q), .int .i64 t'.expR]] w fun en w' => ∃ c : Int, en = .returned (.int .i64 c) ∧ CmpSays t t' c ∧ Below w.heap.size w w' := by
  have HV := Lib.hid (fun (W : World) (h : IntAt W p (Nb.decN t.digs : Int) 2001) => value_any t p W h a0 a1)
  have HV' := Lib.hid (fun (W : World) (h : IntAt W q (Nb.decN t'.digs : Int) 2001) => value_any t' q W h b0 b1)
  have HSC := Lib.hid (fun (W : World) (e : Int) (k : Nat) (h : IntAt W p (Nb.decN t.digs : Int) 2001) (hk : t.expR - e = (k : Int)) (hk2 : k ≤ 20000) => scaled_any t.neg p (Nb.decN t.digs) k t.expR e W h hk hk2)
  have HSC' := Lib.hid (fun (W : World) (e : Int) (k : Nat) (h : IntAt W q (Nb.decN t'.digs : Int) 2001) (hk : t'.expR - e = (k : Int)) (hk2 : k ≤ 20000) => scaled_any t'.neg q (Nb.decN t'.digs) k t'.expR e W h hk hk2)
  have HOK := Lib.hid (And.intro (And.intro ok ok') (And.intro hs hs'))
  obtain ⟨n, hn⟩ : ∃ n, t.neg = n := ⟨_, rfl⟩
  obtain ⟨n', hn'⟩ : ∃ n, t'.neg = n := ⟨_, rfl⟩
  obtain ⟨E, hE⟩ : ∃ E, t.expR = E := ⟨_, rfl⟩
  obtain ⟨F, hF⟩ : ∃ F, t'.expR = F := ⟨_, rfl⟩
  rw [hn, hE] at HV HSC
  rw [hn', hF] at HV' HSC'
  rw [hn, hn', hE, hF]
  rw [hE] at a0 a1
  rw [hF] at b0 b1
  have HEF := Lib.hid (And.intro (And.intro hn hn') (And.intro hE hF))
  obtain ⟨W1, hW1⟩ : ∃ W1, (w.alloc (.cells #[.bool n, .pointer (some p), .int .i64 E] 25)).alloc (.cells #[.bool n', .pointer (some q), .int .i64 F] 25) = W1 := ⟨_, rfl⟩
  have h1 := (Below.refl w.heap.size w).alloc (Nat.le_refl _) (.cells #[.bool n, .pointer (some p), .int .i64 E] 25)
  have hB1 : Below w.heap.size w W1 := by rw [← hW1]; exact h1.alloc h1.size _
  have hs1 : W1.heap.size = w.heap.size + 2 := by rw [← hW1]; simp
  have hT : TwoD W1 w.heap.size n n' p q E F := by
    rw [← hW1]
    refine ⟨⟨?_, ?_, ?_⟩, ?_, ?_, ?_⟩ <;> simp [go_sem]
  have HT := Lib.hid (fun W (hW : Below W1.heap.size W1 W) => (And.intro (hT.1.below (W := W) (by omega) hW) (hT.2.below (W := W) (by omega) hW)))
  have HB1 := Lib.hid hB1
  have HPQ := Lib.hid (fun W (hW : Below W1.heap.size W1 W) => (And.intro ((hp.below hB1).below hW) ((hq.below hB1).below hW)))
  have hcur : Below W1.heap.size W1 W1.drew := (Below.refl _ _).drew
  obtain ⟨⟨c0, c1, c2⟩, c3, c4, c5⟩ := hT
  obtain ⟨e, he⟩ : ∃ e, min E F = e := ⟨_, rfl⟩
  have he1 : -22000 ≤ e := by omega
  have he2 : e ≤ 22000 := by omega
  clear ok ok' hs hs' hp hq hn hn' hE hF h1 hB1 hs1
  by_cases hfar : E - e ≤ 20000 ∧ F - e ≤ 20000
  · obtain ⟨f1, f2⟩ := hfar
    obtain ⟨k, hk⟩ : ∃ k : Nat, E - e = (k : Int) := ⟨(E - e).toNat, by omega⟩
    obtain ⟨k', hk'⟩ : ∃ k : Nat, F - e = (k : Int) := ⟨(F - e).toNat, by omega⟩
    have HKK := Lib.hid (And.intro he (And.intro hk hk'))
    have HS1 := Lib.hid (fun W h => HSC.out W e k h hk (by omega))
    have HS2 := Lib.hid (fun W h => HSC'.out W e k' h hk' (by omega))
    obtain ⟨X, hX⟩ : ∃ X, Nx.sv n (Nb.decN t.digs * 10 ^ k) = X := ⟨_, rfl⟩
    obtain ⟨Y, hY⟩ : ∃ Y, Nx.sv n' (Nb.decN t'.digs * 10 ^ k') = Y := ⟨_, rfl⟩
    rw [hX] at HS1
    rw [hY] at HS2
    have HXY := Lib.hid (And.intro hX hY)
    clear hX hY hk hk' HSC HSC' HV HV'
    go_enter Tryz.func7, Tryz.ntmps7
    go_upto_region 4 with (fail)
    clear hW1 c0 c1 c2 c3 c4 c5 he f1 f2
    go_region_held3 (fun w' => (w'.cell? ⟨w.heap.size, 0, none⟩ = some (.bool n) ∧ w'.cell? ⟨w.heap.size, 1, none⟩ = some (.pointer (some p)) ∧ w'.cell? ⟨w.heap.size, 2, none⟩ = some (.int .i64 E)) ∧ w'.cell? ⟨w.heap.size + 1, 0, none⟩ = some (.bool n') ∧ w'.cell? ⟨w.heap.size + 1, 1, none⟩ = some (.pointer (some q)) ∧ w'.cell? ⟨w.heap.size + 1, 2, none⟩ = some (.int .i64 F))
      (exact HT.out _ (by first | exact hcur | exact hb3 | exact hb2))
      (first | (go_at_call_of 20 (Value.pointer (some p)); refine (HS1.out _ (HPQ.out _ hcur).1).mono ?_; rintro en w2 ⟨z, rfl, iz, bz⟩; have HZ2 := Lib.hid iz; have hb2 : Below W1.heap.size W1 w2 := hcur.trans bz; clear iz bz) | (go_at_call_of 20 (Value.pointer (some q)); refine (HS2.out _ (HPQ.out _ hb2).2).mono ?_; rintro en w3 ⟨z', rfl, iz, bz⟩; have HZ3 := Lib.hid iz; have HZ23 := Lib.hid (HZ2.out.below bz); have hb3 : Below W1.heap.size W1 w3 := hb2.trans (bz.mono hb2.size); clear iz bz))
    have HC := Lib.hid (Cmp_any z z' X Y 30000 w3 HZ23.out HZ3.out (by omega))
    go_wp2_with fail
    refine HC.out.mono ?_
    rintro en w4 ⟨rfl, j, rfl⟩
    go_wp2_with fail
    go_ret
    refine ⟨_, rfl, ?_, HB1.out.trans ((hb3.trans (below_dN (Below.refl _ _) j)).mono HB1.out.size)⟩
    obtain ⟨⟨ok, ok'⟩, hs, hs'⟩ := HOK.out
    obtain ⟨⟨e1, e2⟩, e3, e4⟩ := HEF.out
    obtain ⟨m1, m2, m3⟩ := HKK.out
    have x1 : t.num e = X := by unfold Nb.DTxt.num; rw [e1, e3, m2, Int.toNat_natCast]; exact HXY.out.1
    have x2 : t'.num e = Y := by unfold Nb.DTxt.num; rw [e2, e4, m3, Int.toNat_natCast]; exact HXY.out.2
    intro A A' hA hA'
    refine ⟨fun hc => Nb.near_le2 ok ok' hs hs' hA hA' (e := e) (by rw [e3, e4]; exact m1.symm) (by rw [x1, x2]; exact cmpI_le.1 hc), fun hc => Nb.near_le2 ok' ok hs' hs hA' hA (e := e) (by rw [e3, e4, Int.min_comm]; exact m1.symm) (by rw [x1, x2]; exact cmpI_le.2 hc)⟩
  · have hfar2 : E + 20000 < F ∨ F + 20000 < E := by omega
    have HFAR := Lib.hid hfar2
    have HE := Lib.hid he
    have HEC := Lib.hid (fun (W : World) (z z' : Addr) (x y xe ye : Int) (N M : Nat) (h1 : IntAt W z x 20000) (h2 : IntAt W z' y 20000) (hN : xe - min xe ye = (N : Int)) (hM : ye - min xe ye = (M : Int)) (b1 : N ≤ 1000000) (b2 : M ≤ 1000000) => ecmp_any z z' x y xe ye 20000 N M W h1 h2 hN hM (by omega) b1 b2)
    clear HSC HSC'
    by_cases hg1 : 20000 < E - e
    all_goals
      have hg2 : 20000 < E - e ∨ 20000 < F - e := by omega
      go_enter Tryz.func7, Tryz.ntmps7
      first
      | (have hg3 : 20000 < F - e := by omega
         go_upto_region 3 with (fail))
      | go_upto_region 3 with (fail)
      clear hW1 c0 c1 c2 c3 c4 c5 he hfar hfar2
      go_region_held3 (fun w' => (w'.cell? ⟨w.heap.size, 0, none⟩ = some (.bool n) ∧ w'.cell? ⟨w.heap.size, 1, none⟩ = some (.pointer (some p)) ∧ w'.cell? ⟨w.heap.size, 2, none⟩ = some (.int .i64 E)) ∧ w'.cell? ⟨w.heap.size + 1, 0, none⟩ = some (.bool n') ∧ w'.cell? ⟨w.heap.size + 1, 1, none⟩ = some (.pointer (some q)) ∧ w'.cell? ⟨w.heap.size + 1, 2, none⟩ = some (.int .i64 F))
        (exact HT.out _ (by first | exact hcur | exact hb4 | exact hb3 | exact hb2))
        (first | (go_at_call_of 18 (Value.pointer (some p)); refine (HV.out _ (HPQ.out _ hcur).1).mono ?_; rintro en w2 ⟨z, m, xe, rfl, rv, iz, bz, x0, x1⟩; have HR2 := Lib.hid rv; have HZ2 := Lib.hid iz; have hb2 : Below W1.heap.size W1 w2 := hcur.trans bz; clear rv iz bz) | (go_at_call_of 18 (Value.pointer (some q)); refine (HV'.out _ (HPQ.out _ hb2).2).mono ?_; rintro en w3 ⟨z', m', xe', rfl, rv, iz, bz, y0, y1⟩; have HR3 := Lib.hid rv; have HZ3 := Lib.hid iz; have HZ23 := Lib.hid (HZ2.out.below bz); have hb3 : Below W1.heap.size W1 w3 := hb2.trans (bz.mono hb2.size); clear rv iz bz) | (go_at_call 19; refine (HEC.out _ z z' _ _ xe xe' (xe - min xe xe').toNat (xe' - min xe xe').toNat HZ23.out HZ3.out (by omega) (by omega) (by omega) (by omega)).mono ?_; rintro en w4 ⟨rfl, bc⟩; have hb4 : Below W1.heap.size W1 w4 := hb3.trans (bc.mono hb3.size); clear bc))
      go_wp2_with fail
      go_ret
      refine ⟨_, rfl, ?_, HB1.out.trans (hb4.mono HB1.out.size)⟩
      obtain ⟨⟨ok, ok'⟩, hs, hs'⟩ := HOK.out
      obtain ⟨⟨e1, e2⟩, e3, e4⟩ := HEF.out
      intro A A' hA hA'
      have hf := HFAR.out
      rw [← e3, ← e4] at hf
      refine ⟨fun hc => Nb.far_le ok ok' hs hs' hA hA' hf HR2.out HR3.out ?_, fun hc => Nb.far_le ok' ok hs' hs hA' hA hf.symm HR3.out HR2.out ?_⟩
      · have h := signI_le.1 hc
        rw [sv_powI, sv_powI] at h
        omega
      · have h := signI_le.2 hc
        rw [sv_powI, sv_powI] at h
        rw [Int.min_comm xe' xe]
        omega
end Go.Proofs.YtbidlkmagbjllaaGreatDoor.Bg

namespace Go.Proofs.YtbidlkmagbjllaaGreatDoor.Rs
open Go Go.RowKit

theorem dec_bounds {t : Nb.DTxt} (hs : Nb.Sizes t) : -22000 ≤ t.expR ∧ t.expR ≤ 22000 := by
  have h1 := hs.f
  unfold Nb.DTxt.expR
  have h2 : -20000 ≤ Nb.expRZ t.ex ∧ Nb.expRZ t.ex ≤ 20000 := by
    rcases t.ex with _ | ⟨b, l⟩
    · simp [Nb.expRZ]
    · cases b <;> simp [Nb.expRZ] <;> omega
  omega
theorem tabs_below {w W : World} (hT : Nb.Tab64 w) (hP : Nb.TabP w) (hb : Below w.heap.size w W) : Nb.Tab64 W ∧ Nb.TabP W := ⟨hT.below hb, hP.below hb hP.2⟩
/-- the law's answer -/
def Yes (w : World) (e : Ending) (w' : World) : Prop := e = .returned (.bool true) ∧ Below w.heap.size w w'

set_option maxRecDepth 8000 in
theorem rises_far (s u : ByteArray) (w : World) (hT : Nb.Tab64 w) (hP : Nb.TabP w) (h : 2000 < s.size ∨ 2000 < u.size) (hs : s.size ≤ 9223372036854775807) (hu : u.size ≤ 9223372036854775807) :
    Calls Tryz.prog 3 #[.string s, .string u] w (Yes w) := by
  have HA := Lib.hid (Nb.awake_any w hT hP)
  clear hT hP
  by_cases h1 : 2000 < s.size
  · have h1i : (2000 : Int) < (s.size : Int) := by omega
    clear h
    go_enter Tryz.func3, Tryz.ntmps3
    go_wp2_with fail
    refine HA.out.mono ?_
    rintro e w1 ⟨rfl, b1⟩
    have HB := Lib.hid b1
    clear b1
    go_wp2_with fail
    go_ret
    exact ⟨rfl, HB.out⟩
  · have h1i : ¬ (2000 : Int) < (s.size : Int) := by omega
    have h2i : (2000 : Int) < (u.size : Int) := by omega
    clear h
    go_enter Tryz.func3, Tryz.ntmps3
    go_wp2_with fail
    refine HA.out.mono ?_
    rintro e w1 ⟨rfl, b1⟩
    have HB := Lib.hid b1
    clear b1
    go_wp2_with fail
    go_ret
    exact ⟨rfl, HB.out⟩

set_option maxRecDepth 8000 in
set_option maxHeartbeats 4000000 in
theorem rises_walk (s u : ByteArray) (w : World) (hT : Nb.Tab64 w) (hP : Nb.TabP w) (hs : s.size ≤ 2000) (hu : u.size ≤ 2000) :
    Calls Tryz.prog 3 #[.string s, .string u] w (Yes w) := by
  have HA := Lib.hid (fun W (hW : Below w.heap.size w W) => Nb.awake_any W (tabs_below hT hP hW).1 (tabs_below hT hP hW).2)
  have HR1 := Lib.hid (Bg.read_any s w hs)
  have HR2 := Lib.hid (fun W => Bg.read_any u W hu)
  have HL := Lib.hid (And.intro hs hu)
  have h1i : ¬ (2000 : Int) < (s.size : Int) := by omega
  have h2i : ¬ (2000 : Int) < (u.size : Int) := by omega
  clear hT hP hs hu
  go_enter Tryz.func3, Tryz.ntmps3
  go_wp2_with fail
  refine HR1.out.mono ?_
  rintro e w1 ⟨neg, pa, x, ok, rfl, b1, hok⟩
  have HOK := Lib.hid hok
  obtain ⟨Wa, hWa⟩ : ∃ Wa, w1.alloc (.cells #[.bool neg, .pointer pa, .int .i64 x] 25) = Wa := ⟨_, rfl⟩
  have hal : Below w1.heap.size w1 Wa := by rw [← hWa]; exact (Below.refl _ _).alloc (Nat.le_refl _) _
  have hsa : w1.heap.size < Wa.heap.size := by rw [← hWa]; simp
  have hca : Wa.cell? ⟨w1.heap.size, 0, none⟩ = some (.bool neg) ∧ Wa.cell? ⟨w1.heap.size, 1, none⟩ = some (.pointer pa) ∧ Wa.cell? ⟨w1.heap.size, 2, none⟩ = some (.int .i64 x) := by
    rw [← hWa]
    refine ⟨?_, ?_, ?_⟩ <;> simp [go_sem]
  have HCA := Lib.hid (fun W (hW : Below Wa.heap.size Wa W) => (And.intro ((hW.cell (p := ⟨w1.heap.size, 0, none⟩) hsa).trans hca.1) (And.intro ((hW.cell (p := ⟨w1.heap.size, 1, none⟩) hsa).trans hca.2.1) ((hW.cell (p := ⟨w1.heap.size, 2, none⟩) hsa).trans hca.2.2))))
  have HBa : Hid (Below w.heap.size w Wa) := Lib.hid (b1.trans (hal.mono b1.size))
  have HAL := Lib.hid hal
  clear hca hok b1 HR1 hal
  go_wp2_with fail
  refine (HR2.out _).mono ?_
  rintro e w2 ⟨neg', pa', x', ok', rfl, b2, hok'⟩
  have HOK' := Lib.hid hok'
  obtain ⟨Wb, hWb⟩ : ∃ Wb, w2.alloc (.cells #[.bool neg', .pointer pa', .int .i64 x'] 25) = Wb := ⟨_, rfl⟩
  have hbl : Below w2.heap.size w2 Wb := by rw [← hWb]; exact (Below.refl _ _).alloc (Nat.le_refl _) _
  have hsb : w2.heap.size < Wb.heap.size := by rw [← hWb]; simp
  have hcb : Wb.cell? ⟨w2.heap.size, 0, none⟩ = some (.bool neg') ∧ Wb.cell? ⟨w2.heap.size, 1, none⟩ = some (.pointer pa') ∧ Wb.cell? ⟨w2.heap.size, 2, none⟩ = some (.int .i64 x') := by
    rw [← hWb]
    refine ⟨?_, ?_, ?_⟩ <;> simp [go_sem]
  have HCB := Lib.hid (fun W (hW : Below Wb.heap.size Wb W) => (And.intro ((hW.cell (p := ⟨w2.heap.size, 0, none⟩) hsb).trans hcb.1) (And.intro ((hW.cell (p := ⟨w2.heap.size, 1, none⟩) hsb).trans hcb.2.1) ((hW.cell (p := ⟨w2.heap.size, 2, none⟩) hsb).trans hcb.2.2))))
  have hab : Below Wa.heap.size Wa Wb := b2.trans (hbl.mono b2.size)
  have HAB := Lib.hid hab
  have HBb : Hid (Below w.heap.size w Wb) := Lib.hid (HBa.out.trans (hab.mono HBa.out.size))
  have H2B := Lib.hid (And.intro b2 hbl)
  clear hcb hok' b2 hab hbl hWa HR2
  by_cases hk : ok = true ∧ ok' = true
  · obtain ⟨rfl, rfl⟩ := hk
    obtain ⟨t, o1, o2, o3, o4, z, o5, -, o6⟩ := HOK.out rfl
    obtain ⟨t', p1, p2, p3, p4, z', p5, -, p6⟩ := HOK'.out rfl
    subst o5 p5
    have HT1 := Lib.hid (And.intro o1 (And.intro o3 (And.intro o4 o6)))
    have HT2 := Lib.hid (And.intro p1 (And.intro p3 (And.intro p4 p6)))
    have hsz : Nb.Sizes t := Nb.sizes_of (by rw [← o2, Nb.size_list]; exact HL.out.1)
    have hsz' : Nb.Sizes t' := Nb.sizes_of (by rw [← p2, Nb.size_list]; exact HL.out.2)
    have HSZ := Lib.hid (And.intro hsz hsz')
    have HPS := Lib.hid (fun W => Nb.parse_any s t W o2 o1 HL.out.1)
    have HPU := Lib.hid (fun W => Nb.parse_any u t' W p2 p1 HL.out.2)
    clear o1 o2 o3 o4 o6 p1 p2 p3 p4 p6 hsz hsz' HOK HOK'
    go_wp2_with fail
    refine (HPS.out _).mono ?_
    rintro e w3 ⟨f, c, rfl, says, b3⟩
    have HSY := Lib.hid says
    have HB3 := Lib.hid b3
    clear says b3
    go_wp2_with fail
    refine (HPU.out _).mono ?_
    rintro e w4 ⟨f', c', rfl, says', b4⟩
    have hb4 : Below Wb.heap.size Wb w4 := HB3.out.trans (b4.mono HB3.out.size)
    have HB4 : Hid (Below w.heap.size w w4) := Lib.hid (HBb.out.trans (hb4.mono HBb.out.size))
    have HAW := Lib.hid (HA.out w4 HB4.out)
    have HW4 := Lib.hid hb4
    clear b4 hb4 hWb
    rcases HSY.out with ⟨rfl, rfl, -⟩ | ⟨rfl, X, hX, hXl, rfl⟩
    · rcases says' with ⟨rfl, rfl, -⟩ | ⟨rfl, X', hX', hXl', rfl⟩
      · clear HSY
        go_wp2_with fail
        refine HAW.out.mono ?_
        rintro e w5 ⟨rfl, b5⟩
        have HB := Lib.hid (HB4.out.trans (b5.mono HB4.out.size))
        clear b5
        go_wp2_with fail
        go_ret
        exact ⟨rfl, HB.out⟩
      · clear HSY hX' hXl'
        generalize (X' + if t'.neg = true then 9223372036854775808 else 0) = ff at *
        go_wp2_with fail
        refine HAW.out.mono ?_
        rintro e w5 ⟨rfl, b5⟩
        have HB := Lib.hid (HB4.out.trans (b5.mono HB4.out.size))
        clear b5
        go_wp2_with fail
        go_ret
        exact ⟨rfl, HB.out⟩
    · rcases says' with ⟨rfl, rfl, -⟩ | ⟨rfl, X', hX', hXl', rfl⟩
      · clear HSY hX hXl
        generalize (X + if t.neg = true then 9223372036854775808 else 0) = ff at *
        go_wp2_with fail
        refine HAW.out.mono ?_
        rintro e w5 ⟨rfl, b5⟩
        have HB := Lib.hid (HB4.out.trans (b5.mono HB4.out.size))
        clear b5
        go_wp2_with fail
        go_ret
        exact ⟨rfl, HB.out⟩
      · obtain ⟨ff, hff⟩ : ∃ ff, (X + if t.neg = true then 9223372036854775808 else 0) = ff := ⟨_, rfl⟩
        obtain ⟨gg, hgg⟩ : ∃ gg, (X' + if t'.neg = true then 9223372036854775808 else 0) = gg := ⟨_, rfl⟩
        obtain ⟨o1, o3, o4, o6⟩ := HT1.out
        obtain ⟨p1, p3, p4, p6⟩ := HT2.out
        obtain ⟨a0, a1⟩ := dec_bounds HSZ.out.1
        obtain ⟨b0, b1'⟩ := dec_bounds HSZ.out.2
        have i1 : Bg.IntAt w4 z (Nb.decN t.digs : Int) 2001 := ((((o6.below HAL.out).below HAB.out).below HW4.out)).more (by have := HL.out.1; omega)
        have i2 : Bg.IntAt w4 z' (Nb.decN t'.digs : Int) 2001 := ((p6.below H2B.out.2).below HW4.out).more (by have := HL.out.2; omega)
        have HCD := Lib.hid (Bg.compareD_any t t' z z' w4 o1 p1 HSZ.out.1 HSZ.out.2 i1 i2 a0 a1 b0 b1')
        obtain ⟨c0, c1, c2⟩ := HCA.out w4 (HAB.out.trans (HW4.out.mono HAB.out.size))
        obtain ⟨c3, c4, c5⟩ := HCB.out w4 HW4.out
        rw [← o3, ← o4, ← p3, ← p4] at HCD
        have HXX := Lib.hid (And.intro (And.intro hX hXl) (And.intro (And.intro hX' hXl') (And.intro hff hgg)))
        rw [hff, hgg]
        clear HSY hX hXl hX' hXl' o1 o3 o4 o6 p1 p3 p4 p6 i1 i2 a0 a1 b0 b1' hff hgg
        go_wp2_with fail
        refine HCD.out.mono ?_
        rintro e w5 ⟨cc, rfl, hcc, b5⟩
        have HCC := Lib.hid (hcc X X' HXX.out.1.1 HXX.out.2.1.1)
        have HB5 : Hid (Below w.heap.size w w5) := Lib.hid (HB4.out.trans (b5.mono HB4.out.size))
        have HAW5 := Lib.hid (HA.out w5 HB5.out)
        clear hcc b5 HCD HAW c0 c1 c2 c3 c4 c5
        by_cases hc1 : cc < 0
        · have hle := Nx.fl_leq (a := t.neg) (b := t'.neg) HXX.out.1.2 HXX.out.2.1.2 (HCC.out.1 (by omega))
          unfold Nx.fl at hle
          rw [HXX.out.2.2.1, HXX.out.2.2.2] at hle
          go_wp2_with fail
          refine HAW5.out.mono ?_
          rintro e w6 ⟨rfl, b6⟩
          have HB := Lib.hid (HB5.out.trans (b6.mono HB5.out.size))
          clear b6
          go_wp2_with fail
          go_ret
          exact ⟨rfl, HB.out⟩
        · by_cases hc2 : 0 < cc
          · have hge := Nx.fl_geq (a := t.neg) (b := t'.neg) HXX.out.1.2 HXX.out.2.1.2 (HCC.out.2 (by omega))
            unfold Nx.fl at hge
            rw [HXX.out.2.2.1, HXX.out.2.2.2] at hge
            go_wp2_with fail
            refine HAW5.out.mono ?_
            rintro e w6 ⟨rfl, b6⟩
            have HB := Lib.hid (HB5.out.trans (b6.mono HB5.out.size))
            clear b6
            go_wp2_with fail
            go_ret
            exact ⟨rfl, HB.out⟩
          · have heq := Nx.fl_eq (a := t.neg) (b := t'.neg) HXX.out.1.2 HXX.out.2.1.2 (Int.le_antisymm (HCC.out.1 (by omega)) (HCC.out.2 (by omega)))
            unfold Nx.fl at heq
            rw [HXX.out.2.2.1, HXX.out.2.2.2] at heq
            go_wp2_with fail
            refine HAW5.out.mono ?_
            rintro e w6 ⟨rfl, b6⟩
            have HB := Lib.hid (HB5.out.trans (b6.mono HB5.out.size))
            clear b6
            go_wp2_with fail
            go_ret
            exact ⟨rfl, HB.out⟩
  · have HAW := Lib.hid (HA.out Wb HBb.out)
    rcases ok with _ | _
    · go_wp2_with fail
      refine HAW.out.mono ?_
      rintro e w3 ⟨rfl, b3⟩
      have HB := Lib.hid (HBb.out.trans (b3.mono HBb.out.size))
      clear b3
      go_wp2_with fail
      go_ret
      exact ⟨rfl, HB.out⟩
    · rcases ok' with _ | _
      · go_wp2_with fail
        refine HAW.out.mono ?_
        rintro e w3 ⟨rfl, b3⟩
        have HB := Lib.hid (HBb.out.trans (b3.mono HBb.out.size))
        clear b3
        go_wp2_with fail
        go_ret
        exact ⟨rfl, HB.out⟩
      · exact absurd ⟨rfl, rfl⟩ hk
end Go.Proofs.YtbidlkmagbjllaaGreatDoor.Rs
