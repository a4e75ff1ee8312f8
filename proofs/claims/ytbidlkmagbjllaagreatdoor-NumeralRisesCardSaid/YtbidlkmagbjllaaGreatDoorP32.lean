/- BL5 BK6 in one text. -/
import Derived.Test.YtbidlkmagbjllaaGreatDoorP31

namespace Go.Proofs.YtbidlkmagbjllaaGreatDoor.Nb
open Go Go.RowKit

/-- how many bits a number has -/
def blen (X : Nat) : Nat := if X = 0 then 0 else Nat.log2 X + 1
theorem blen_zero : blen 0 = 0 := rfl
theorem blen_spec {X : Nat} (h : 0 < X) : 0 < blen X ∧ 2 ^ (blen X - 1) ≤ X ∧ X < 2 ^ blen X := by
  unfold blen
  rw [if_neg (by omega), Nat.add_sub_cancel]
  exact ⟨by omega, (Nat.le_log2 (by omega)).1 (Nat.le_refl _), (Nat.log2_lt (by omega)).1 (by omega)⟩
theorem blen_eq {X l : Nat} (h0 : 0 < l) (h1 : 2 ^ (l - 1) ≤ X) (h2 : X < 2 ^ l) : blen X = l := by
  have hX : X ≠ 0 := by have : 0 < 2 ^ (l - 1) := Nat.pow_pos (by omega); omega
  unfold blen
  rw [if_neg hX]
  have a := (Nat.le_log2 hX).2 h1
  have b := (Nat.log2_lt hX).2 h2
  omega
theorem blen_le {X l : Nat} (h : X < 2 ^ l) : blen X ≤ l := by
  rcases Nat.eq_zero_or_pos X with h0 | h0
  · rw [h0, blen_zero]; omega
  · obtain ⟨a, b, c⟩ := blen_spec h0
    rcases Nat.lt_or_ge l (blen X) with q | q
    · exfalso
      have : 2 ^ l ≤ 2 ^ (blen X - 1) := Nat.pow_le_pow_right (by omega) (by omega)
      omega
    · exact q
theorem pow64 (k : Nat) : 18446744073709551616 ^ k = 2 ^ (64 * k) := by
  rw [Nat.pow_mul]
theorem blen_row {ws : List Nat} (hw : W64 ws) (hn : Norm ws) (h0 : 0 < ws.length) : blen (val ws) = 64 * (ws.length - 1) + Lib.bitLen (ws.getD (ws.length - 1) 0) := by
  have ha := norm_top hn h0
  have hal := hw.get (ws.length - 1)
  have hv := val_take_succ (ws := ws) (k := ws.length - 1) (by omega)
  have hv0 := val_take_lt hw (ws.length - 1)
  rw [show ws.length - 1 + 1 = ws.length by omega, List.take_length] at hv
  obtain ⟨n, hn⟩ : ∃ n, ws.length - 1 = n := ⟨_, rfl⟩
  rw [hn] at ha hal hv hv0 ⊢
  obtain ⟨a, haa⟩ : ∃ a, ws.getD n 0 = a := ⟨_, rfl⟩
  rw [haa] at ha hal hv ⊢
  obtain ⟨b1, b2, b3⟩ := Nx.bit_spec 64 a ha (by omega) (by omega)
  obtain ⟨l, hl⟩ : ∃ l, Lib.bitLen a = l := ⟨_, rfl⟩
  rw [hl] at b1 b2 b3 ⊢
  rw [pow64] at hv hv0
  refine blen_eq (by omega) ?_ ?_
  · rw [hv, show 64 * n + l - 1 = 64 * n + (l - 1) by omega, Nat.pow_add]
    have := Nat.mul_le_mul_left (2 ^ (64 * n)) b2
    omega
  · rw [hv, Nat.pow_add]
    have h1 : 2 ^ (64 * n) * (a + 1) ≤ 2 ^ (64 * n) * 2 ^ l := Nat.mul_le_mul_left _ b3
    rw [Nat.mul_add, Nat.mul_one] at h1
    omega

set_option maxRecDepth 8000 in
theorem length_any (v : Value) (X L : Nat) (w : World) (h : MagN w v X L) (hL : L ≤ 536870912) : Calls Tryz.prog 107 #[v] w fun e w' => e = .returned (.int .i64 (blen X : Int)) ∧ w = w' := by
  obtain ⟨ws, h1, h2, rfl, h4⟩ := h
  have h1' := h1
  obtain ⟨A, c, rfl, -⟩ := h1
  rcases Nat.eq_zero_or_pos ws.length with h0 | h0
  · have hz : val ws = 0 := by rw [List.eq_nil_of_length_eq_zero h0]; rfl
    rw [h0, hz, blen_zero]
    clear h1' h2 h4 h0 hz
    go_enter Tryz.func107, Tryz.ntmps107
    go_wp2_with fail
    go_ret
    exact ⟨rfl, rfl⟩
  · have hb := blen_row h1'.w32 h2 h0
    have hal := h1'.w32.get (ws.length - 1)
    obtain ⟨b, o, rfl, hbs, hc⟩ := h1'.at (j := ws.length - 1) (by omega)
    obtain ⟨a, haa⟩ : ∃ a, ws.getD (ws.length - 1) 0 = a := ⟨_, rfl⟩
    rw [haa] at hb hal hc
    have hbl := bitLen_le a
    have HL := Lib.hid (fun w => Tryz.bits_Len64 (a : Int) w (by omega) (by omega))
    simp only [Int.toNat_natCast] at HL
    obtain ⟨l, hl⟩ : ∃ l, Lib.bitLen a = l := ⟨_, rfl⟩
    rw [hl] at HL hb hbl
    obtain ⟨n, hn⟩ : ∃ n, ws.length = n := ⟨_, rfl⟩
    rw [hn] at hb hc h0 h4 ⊢
    have HB := Lib.hid hb
    have hnl : (n : Int) ≤ 536870912 := by omega
    have hn0 : ¬ n = 0 := by omega
    have i0 : (0 : Int) ≤ (n : Int) - 1 := by omega
    have i1 : (n : Int) - 1 < (n : Int) := by omega
    have t1 : ((n : Int) - 1).toNat = n - 1 := by omega
    clear h1' h2 hbs haa hl hn hb hal h4 h0
    go_enter Tryz.func107, Tryz.ntmps107
    go_wp2_with fail
    refine (HL.out _).mono ?_
    rintro e w2 ⟨rfl, rfl⟩
    go_wp2_with fail
    go_ret
    have e1 : 64 * ((n : Int) - 1) + (l : Int) = (blen (val ws) : Int) := by rw [HB.out]; omega
    exact ⟨congrArg (fun z : Int => Ending.returned (.int .i64 z)) e1, rfl⟩

theorem top_val {ws : List Nat} (hw : W64 ws) (i s : Nat) (hs : s < 64) : val ws / (18446744073709551616 ^ i * 2 ^ s) % 18446744073709551616 = ws.getD i 0 / 2 ^ s + 2 ^ (64 - s) * (ws.getD (i + 1) 0 % 2 ^ s) := by
  have hp : 0 < 2 ^ s := Nat.pow_pos (by omega)
  have hp' : 0 < 2 ^ (64 - s) := Nat.pow_pos (by omega)
  obtain ⟨Z, hZ⟩ : ∃ Z, val ws / 18446744073709551616 ^ i = ws.getD i 0 + 18446744073709551616 * (ws.getD (i + 1) 0 + 18446744073709551616 * Z) := by
    have st : ∀ j, ∃ R, (j ≤ ws.length → val (ws.drop j) = R) ∧ (ws.length < j → R = 0) ∧ R = ws.getD j 0 + 18446744073709551616 * (if j + 1 ≤ ws.length then val (ws.drop (j + 1)) else 0) := by
      intro j
      refine ⟨_, ?_, ?_, rfl⟩
      · intro hj
        rcases Nat.lt_or_ge j ws.length with q | q
        · rw [if_pos (by omega), List.drop_eq_getElem_cons q, val, List.getD_eq_getElem?_getD, List.getElem?_eq_getElem q]; rfl
        · rw [if_neg (by omega), List.drop_of_length_le q, List.getD_eq_getElem?_getD, List.getElem?_eq_none q]; rfl
      · intro hj
        rw [if_neg (by omega), List.getD_eq_getElem?_getD, List.getElem?_eq_none (by omega)]; rfl
    rcases Nat.lt_or_ge i ws.length with q | q
    · rw [← drop_div hw (by omega)]
      obtain ⟨R, r1, -, r3⟩ := st i
      obtain ⟨R', s1, -, s3⟩ := st (i + 1)
      rw [if_pos (by omega), s1 (by omega)] at r3
      rw [r1 (by omega), r3, s3]
      exact ⟨_, rfl⟩
    · have h0 : val ws / 18446744073709551616 ^ i = 0 := by
        refine Nat.div_eq_of_lt ?_
        have a1 := val_lt hw
        have a2 : 18446744073709551616 ^ ws.length ≤ 18446744073709551616 ^ i := Nat.pow_le_pow_right (by omega) q
        omega
      refine ⟨0, ?_⟩
      rw [h0, List.getD_eq_getElem?_getD, List.getElem?_eq_none q, List.getD_eq_getElem?_getD, List.getElem?_eq_none (by omega)]; rfl
  have e := two64 s (by omega)
  rw [← Nat.div_div_eq_div_mul, hZ]
  obtain ⟨x, hx⟩ : ∃ x, ws.getD i 0 = x := ⟨_, rfl⟩
  obtain ⟨y, hy⟩ : ∃ y, ws.getD (i + 1) 0 = y := ⟨_, rfl⟩
  have hxl := hw.get i
  rw [hx] at hxl
  rw [hx, hy]
  have h1 : (x + 18446744073709551616 * (y + 18446744073709551616 * Z)) / 2 ^ s = x / 2 ^ s + 2 ^ (64 - s) * (y + 18446744073709551616 * Z) := by
    have e' : 18446744073709551616 * (y + 18446744073709551616 * Z) = 2 ^ s * (2 ^ (64 - s) * (y + 18446744073709551616 * Z)) := by rw [← Nat.mul_assoc, ← e]
    rw [e', Nat.add_mul_div_left _ _ hp]
  have h2 : x / 2 ^ s < 2 ^ (64 - s) := (right_word (y := y) hs hxl).1
  have h3 : (y + 18446744073709551616 * Z) % 2 ^ s = y % 2 ^ s := by
    have e' : 18446744073709551616 * Z = 2 ^ s * (2 ^ (64 - s) * Z) := by rw [← Nat.mul_assoc, ← e]
    rw [e', Nat.add_mul_mod_self_left]
  rw [h1]
  have e2 : (18446744073709551616 : Nat) = 2 ^ (64 - s) * 2 ^ s := by rw [Nat.mul_comm]; exact e
  have h4 : ∀ B, B = 2 ^ (64 - s) * 2 ^ s → (x / 2 ^ s + 2 ^ (64 - s) * (y + 18446744073709551616 * Z)) % B = x / 2 ^ s + 2 ^ (64 - s) * ((y + 18446744073709551616 * Z) % 2 ^ s) := by
    rintro B rfl
    rw [Nat.mod_mul, Nat.add_mul_mod_self_left, Nat.mod_eq_of_lt h2, Nat.add_mul_div_left _ _ hp', Nat.div_eq_of_lt h2, Nat.zero_add]
  rw [h4 _ e2, h3]

set_option maxRecDepth 8000 in
set_option maxHeartbeats 1000000 in
theorem top_any (v : Value) (X from_ L : Nat) (w : World) (h : MagN w v X L) (hf : from_ ≤ 1099511627776) : Calls Tryz.prog 191 #[v, .int .i64 (from_ : Int)] w fun e w' => e = .returned (.int .u64 ((X / 2 ^ from_ % 18446744073709551616 : Nat) : Int)) ∧ w = w' := by
  obtain ⟨ws, h1, h2, rfl, h4⟩ := h
  have h1' := h1
  obtain ⟨A, c, rfl, -⟩ := h1
  obtain ⟨q, hq⟩ : ∃ q, from_ / 64 = q := ⟨_, rfl⟩
  obtain ⟨s, hs⟩ : ∃ s, from_ % 64 = s := ⟨_, rfl⟩
  have hs64 : s < 64 := by omega
  have hF : from_ = 64 * q + s := by omega
  have hv := top_val h1'.w32 q s hs64
  rw [hF, Nat.pow_add, ← pow64, hv]
  have HD1 := fun W (hW : Mag W _ ws) => digit_any A ws.length c q ws W hW (by omega)
  have HD2 := fun W (hW : Mag W _ ws) => digit_any A ws.length c (q + 1) ws W hW (by omega)
  have c2 : ((q + 1 : Nat) : Int) = (q : Int) + 1 := by omega
  rw [c2] at HD2
  have wx := h1'.w32.get q
  obtain ⟨x, ex⟩ : ∃ x, ws.getD q 0 = x := ⟨_, rfl⟩
  obtain ⟨y, ey⟩ : ∃ y, ws.getD (q + 1) 0 = y := ⟨_, rfl⟩
  rw [ex] at HD1 wx ⊢
  rw [ey] at HD2 ⊢
  obtain ⟨r1, r2, r3, r4⟩ := right_word (y := y) hs64 wx
  obtain ⟨hv', ehv⟩ : ∃ hv, 2 ^ (64 - s) * (y % 2 ^ s) = hv := ⟨_, rfl⟩
  obtain ⟨d, ed⟩ : ∃ d, x / 2 ^ s + hv' = d := ⟨_, rfl⟩
  have hwr : IntKind.u64.wrap ((y : Int) * 2 ^ (64 - s)) = (hv' : Int) := by
    rw [show ((y : Int) * 2 ^ (64 - s)) = ((y * 2 ^ (64 - s) : Nat) : Int) by rw [Int.natCast_mul, Int.natCast_pow]; rfl]
    rw [IntKind.wrap_u64]; omega
  have hor : bits .or .u64 ((x : Int) / 2 ^ s) (hv' : Int) = (d : Int) := by
    have h := or_high r1 r3
    rw [ehv] at h
    rw [← ed, ← h, Int.natCast_ediv, Int.natCast_pow]
    rfl
  rw [ehv, ed]
  have e1 : ((64 * q + s : Nat) : Int).tdiv 64 = (q : Int) := by rw [Int.tdiv_eq_ediv_of_nonneg (by omega)]; omega
  have e2 : ((64 * q + s : Nat) : Int).tmod 64 = (s : Int) := by rw [Int.tmod_eq_emod_of_nonneg (by omega)]; omega
  obtain ⟨F, hFF⟩ : ∃ F : Nat, 64 * q + s = F := ⟨_, rfl⟩
  rw [hFF] at e1 e2 ⊢
  have hFl : (F : Int) ≤ 1099511627776 := by omega
  have e3 : (F : Int) / 64 = (q : Int) := by omega
  have e4 : (F : Int) % 64 = (s : Int) := by omega
  have hql : (q : Int) ≤ 1099511627776 := by omega
  have HDD := Lib.hid (And.intro HD1 HD2)
  have HM := Lib.hid h1'
  have hsl : (s : Int) < 64 := by omega
  clear HD1 HD2 hv h1' h2 h4 hq hs hF hf ex ey wx r1 r2 r3 r4 ehv ed c2 hFF
  go_enter Tryz.func191, Tryz.ntmps191
  go_wp2_with fail
  refine (HDD.out.1 _ HM.out).mono ?_
  rintro e w9 ⟨rfl, rfl⟩
  go_wp2_with fail
  refine (HDD.out.2 _ HM.out).mono ?_
  rintro e w9 ⟨rfl, rfl⟩
  go_wp2_with fail
  go_ret
  exact ⟨rfl, rfl⟩
end Go.Proofs.YtbidlkmagbjllaaGreatDoor.Nb

namespace Go.Proofs.YtbidlkmagbjllaaGreatDoor.Nb
open Go Go.RowKit

/-- ahead of round k - 1 of a long division, in memory -/
def LongW (w wr : World) (X V N m n k gu gq bv ov cv : Nat) (vs : List Nat) : Prop :=
  ∃ os qs, LongSt X V N m n k os qs ∧ BlkP wr gu os ∧ Blk wr gq qs ∧ Mag wr (.slice (some ⟨bv, ov, none⟩) n cv) vs ∧ Below w.heap.size w wr

theorem LongW.kn {w wr : World} {X V N m n k gu gq bv ov cv : Nat} {vs : List Nat} (h : LongW w wr X V N m n (k + 1) gu gq bv ov cv vs) (hV : val vs = V) (hn : 2 ≤ n) (hk : k < m) (hN : N = n + m) (hv1 : 0 < vs.getD (n - 1) 0) (hVn : V < 18446744073709551616 ^ n) (hNl : N ≤ 1099511627776) :
    ∃ os qs, LongSt X V N m n (k + 1) os qs ∧ KnIn wr gu k n os vs (some ⟨bv, ov, none⟩) cv ∧ Blk wr gq qs ∧ Below w.heap.size w wr := by
  obtain ⟨os, qs, h1, h2, h3, h4, h5⟩ := h
  refine ⟨os, qs, h1, ⟨h2, h1.w, h4, hn, by rw [h1.lo]; omega, ?_, by rw [hV]; exact h1.lt, hv1, by rw [h1.lo]; exact hNl⟩, h3, h5⟩
  refine clear_of_lt ?_
  have a1 := h1.lt
  have a2 : V * 18446744073709551616 ^ (k + 1) ≤ 18446744073709551616 ^ n * 18446744073709551616 ^ (k + 1) := Nat.mul_le_mul_right _ (by omega)
  rw [← Nat.pow_add] at a2
  rw [show k + n + 1 = n + (k + 1) by omega]
  omega
theorem LongW.next {w wr w' : World} {X V N m n k gu gq bv ov cv q : Nat} {vs os qs os' : List Nat} {z : Int} (h : LongSt X V N m n (k + 1) os qs) (hb : Blk wr gq qs) (hm : Mag wr (.slice (some ⟨bv, ov, none⟩) n cv) vs) (hbl : Below w.heap.size w wr)
    (hk : k < m) (hV : 0 < V) (hq : q = val os / (18446744073709551616 ^ k * V)) (hkn : KnW wr w' gu N (k + n + 1) os') (ho : val os' = val os % (18446744073709551616 ^ k * V)) (hgu : w.heap.size ≤ gu) (hgq : w.heap.size ≤ gq) (h1 : gq ≠ gu) (h2 : bv ≠ gu) (h3 : bv ≠ gq) (hz : z = (q : Int)) :
    LongW w (w'.setCell ⟨gq, k, none⟩ (.int .u64 z)) X V N m n k gu gq bv ov cv vs ∧ q < 18446744073709551616 := by
  have hs := long_step h hk hV hq ho hkn.len hkn.w64
  refine ⟨⟨os', qs.set k q, hs.1, ?_, blk_end (hb.kept hkn.kept h1) hz, ?_, ?_⟩, hs.2⟩
  · exact hkn.blk.kept ((Kept.refl w' gq).setCell _) (Ne.symm h1)
  · exact (hm.kept hkn.kept h2).kept ((Kept.refl w' gq).setCell _) h3
  · exact (hbl.trans (hkn.below.mono hgu)).setCell (p := ⟨gq, k, none⟩) hgq _

set_option maxRecDepth 8000 in
set_option maxHeartbeats 8000000 in
theorem quotient_long (u v : Value) (X Y L : Nat) (w : World) (hu : MagN w u X L) (hv : MagN w v Y L) (hY : 18446744073709551616 ≤ Y) (hXY : Y ≤ X) (hL : L ≤ 268435456) :
    Calls Tryz.prog 109 #[u, v] w (Num2 w (X / Y) (X % Y) L L) := by
  have HCM := Lib.hid (compare_any u v X Y L w hu hv (by omega))
  have hcmp : ¬ cmpN X Y < 0 := by unfold cmpN; rw [if_neg (by omega)]; split <;> omega
  obtain ⟨cm, hcm⟩ : ∃ q, cmpN X Y = q := ⟨_, rfl⟩
  rw [hcm] at HCM hcmp
  clear hcm
  obtain ⟨xs, hx1, hx2, hx3, hx4⟩ := hu
  obtain ⟨ys, hy1, hy2, hy3, hy4⟩ := hv
  have hx1' := hx1
  have hy1' := hy1
  obtain ⟨A, ca, rfl, -⟩ := hx1
  obtain ⟨B, cb, rfl, -⟩ := hy1
  have hyn : 2 ≤ ys.length := by
    rcases Nat.lt_or_ge ys.length 2 with h | h
    · have a1 := val_lt hy1'.w32
      have a2 : 18446744073709551616 ^ ys.length ≤ 18446744073709551616 ^ 1 := Nat.pow_le_pow_right (by omega) (by omega)
      rw [Nat.pow_one] at a2
      omega
    · exact h
  have hxn : ys.length ≤ xs.length := by
    rcases Nat.lt_or_ge xs.length ys.length with h | h
    · have := norm_len_lt hx1'.w32 hy2 h
      omega
    · exact h
  obtain ⟨hup, hb0, hb64⟩ := up_by hy1'.w32 hy2 (by omega)
  have hXl : X < 18446744073709551616 ^ xs.length := by rw [← hx3]; exact val_lt hx1'.w32
  have hXg : 18446744073709551616 ^ (xs.length - 1) ≤ X := by rw [← hx3]; exact norm_ge hx2 (by omega)
  obtain ⟨a, ha⟩ : ∃ a, ys.getD (ys.length - 1) 0 = a := ⟨_, rfl⟩
  have hal : a < 18446744073709551616 := by rw [← ha]; exact hy1'.w32.get _
  obtain ⟨b, o, rfl, hb, hc⟩ := hy1'.at (j := ys.length - 1) (by omega)
  obtain ⟨n, hn⟩ : ∃ n, ys.length = n := ⟨_, rfl⟩
  obtain ⟨lx, hlx⟩ : ∃ n, xs.length = n := ⟨_, rfl⟩
  rw [hn] at HCM hyn hxn hup hb0 hb64 ha hc hy4 hy1'
  rw [hn]
  rw [hlx] at HCM hxn hXl hXg hx4 hx1'
  rw [hlx]
  rw [ha] at hup hb0 hb64 hc
  rw [hy3] at hup
  obtain ⟨up, hupe⟩ : ∃ up, 64 - Lib.bitLen a = up := ⟨_, rfl⟩
  rw [hupe] at hup
  have HLZ := Lib.hid (fun W => leading_any a W hal)
  rw [hupe] at HLZ
  have hup64 := hup.lt
  have HUP := Lib.hid hup
  have HLV := Lib.hid (fun j => left_any (.slice (some ⟨b, o, none⟩) n cb) Y up L (w.drewN j) ⟨ys, show Mag (w.drewN j) _ ys from hy1', hy2, hy3, by omega⟩ (by omega))
  have HX := Lib.hid (And.intro hx1' (And.intro hx2 (And.intro hx3 (And.intro hXl hXg))))
  have HN := Lib.hid (And.intro hx4 (And.intro hy4 hxn))
  have hn1 : ((n : Int) == 1) = false := by simp; omega
  have i0 : (0 : Int) ≤ (n : Int) - 1 := by omega
  have i1 : (n : Int) - 1 < (n : Int) := by omega
  have t1 : ((n : Int) - 1).toNat = n - 1 := by omega
  have hnl : (n : Int) ≤ 268435456 := by omega
  have hlxl : (lx : Int) ≤ 268435456 := by omega
  clear hx1' hx2 hx3 hx4 hy1' hy2 hy3 hy4 hn hlx ha hup hb0 hb64 hupe hal hXl hXg hb hxn
  go_enter Tryz.func109, Tryz.ntmps109
  go_wp2_with fail
  refine HCM.out.mono ?_
  rintro e w1 ⟨rfl, j, rfl⟩
  go_wp2_with fail
  refine (HLZ.out _).mono ?_
  rintro e w1 ⟨rfl, rfl⟩
  go_wp2_with fail
  refine (HLV.out j).mono ?_
  rintro e w2 ⟨vv, rfl, hv2, hbl2⟩
  obtain ⟨vs, hm2, hn2, hvv2, -⟩ := hv2
  have hlen2 := up_len HUP.out (by omega) hm2.w32 hn2 hvv2
  obtain ⟨cv, hvm⟩ : ∃ cv, ∃ A', vv = .slice A' n cv := by obtain ⟨A', c', h1, -⟩ := hm2; exact ⟨c', A', by rw [h1, hlen2]⟩
  obtain ⟨A', rfl⟩ := hvm
  obtain ⟨bv, ov, rfl, hbv, -⟩ := hm2.at (j := 0) (by omega)
  have HB2 := Lib.hid (show Below w.heap.size w w2 from (below_dN (Below.refl _ _) j).trans hbl2)
  have HV := Lib.hid (And.intro hm2 (And.intro hvv2 (And.intro (show 0 < vs.getD (n - 1) 0 by have := norm_top hn2 (by omega); rwa [hlen2] at this) (And.intro (show val vs < 18446744073709551616 ^ n by rw [hvv2]; exact HUP.out.hi) hbv))))
  have HR := Lib.hid (left_row A lx ca 0 up up xs w2 (HX.out.1.below HB2.out) (by omega) hup64 (by omega) (by have := HN.out.2.2; omega))
  simp only [Nat.zero_add, Nat.pow_zero, Nat.one_mul] at HR
  rw [HX.out.2.2.1] at HR
  clear hm2 hn2 hvv2 hlen2 hbv hbl2 HLV HLZ HCM
  go_wp2_with fail
  refine HR.out.mono ?_
  rintro e w3 ⟨g3, k3, os3, rfl, hg3, hb3, hl3, hw3, hk3, hn3, hv3, hbl3⟩
  obtain ⟨hlk, hr1, hr2, hr3⟩ := up_row hw3 (by omega) hv3 HX.out.2.2.2.2 (by have := HN.out.2.2; omega) hk3
  have HB3 := Lib.hid (onto HB2.out hbl3)
  have HO3 := Lib.hid (own_of_blk (B := w2.heap.size) (k := k3) hb3 hl3 (by omega) hk3 hg3)
  have HR3 := Lib.hid (And.intro hr1 (And.intro hr2 hr3))
  clear HR hb3 hl3 hw3 hn3 hv3 hr1 hr2 hr3
  have hlk1 : 1 ≤ k3 := by have := HN.out.2.2; omega
  obtain ⟨i0', hi0, hz0, hz1, hz2⟩ := info_parts infoW
  obtain ⟨m, hm⟩ : ∃ m, lx + 1 = n + m := ⟨lx + 1 - n, by have := HN.out.2.2; omega⟩
  have hmn : (lx : Int) + 1 - (n : Int) = (m : Int) := by omega
  have hmk := run_make_row' (P := Tryz.prog) 100 74 (.int .u64 0) 8 Tryz.underlying100 infoW rfl .i64 .i64 m (by omega) (by omega)
  have hml : (m : Int) ≤ 268435457 := by omega
  have HMM := Lib.hid hm
  clear hm
  have hbA := (Below.refl w3.heap.size w3).alloc (Nat.le_refl _) (.cells #[.int .u64 0, .int .u64 0] 74)
  have HOA := Lib.hid (And.intro (own_below HO3.out hbA) (And.intro (hbl3.trans (hbA.mono hbl3.size)) (noughts_new w3 74)))
  have hsz3 : w2.heap.size ≤ (w3.alloc (.cells #[.int .u64 0, .int .u64 0] 74)).heap.size := Nat.le_trans hbl3.size hbA.size
  have hk3b : k3 ≤ 268435457 := by omega
  clear hbA hbl3 HB3
  go_wp2_with (at_builtin; refine wpList_append_own _ rfl _ _ 100 rfl w2.heap.size 74 i0' _ 1 8 Tryz.underlying100 hi0 hz0 hz1 hz2 rfl (by omega) (.slice (some ⟨g3, 0, none⟩) k3 (lx + 1)) k3 _ rfl HOA.out.1 ⟨w3.heap.size, 0, none⟩ 2 2 [.int .u64 0, .int .u64 0] rfl rfl HOA.out.2.2 (by simp [Value.oneCell']) (by simp only [maxLen]; omega) (by omega) hsz3 ?_; intro v' w4 hr4 hg4 ha4; obtain ⟨gu, cu, rfl, hgu, hbu, hcu, hcm, -⟩ := blkp_of_own (show w4.ownsRow w2.heap.size 74 1 v' (k3 + 2) (vals (os3.take k3 ++ [0, 0])) from (by rw [← vals_append]; exact hr4)) (by omega); have H4 := Lib.hid (And.intro hgu (And.intro (hbu.take (lx + 1)) (HOA.out.2.1.grown hg4 hsz3 (own_base HOA.out.1)))); have hcu1 : (lx : Int) + 1 ≤ (cu : Int) := (by omega); have hcm1 : (cu : Int) ≤ 9223372036854775807 := (by simp only [maxLen] at hcm; omega); clear hr4 hg4 ha4 hgu hbu hcu hcm)
  have HH := Lib.hid (And.intro HMM.out (show 0 < m by have := HN.out.2.2; have := HMM.out; omega))
  have H0 : Hid (LongW w (w4.alloc (.cells (madeCells #[.int .u64 0] m) 74)) (X * 2 ^ up) (Y * 2 ^ up) (lx + 1) m n m gu w4.heap.size bv ov cv vs) := Lib.hid (by
    have hal := (Below.refl w4.heap.size w4).alloc (Nat.le_refl _) (.cells (madeCells #[.int .u64 0] m) 74)
    have hb2 : Below w2.heap.size w2 _ := H4.out.2.2.trans (hal.mono H4.out.2.2.size)
    refine ⟨_, _, long_start HR3.out.1 (up_start HUP.out HX.out.2.2.2.1 HMM.out) HR3.out.2.1 HR3.out.2.2, ?_, Blk.made w4 m, HV.out.1.below hb2, onto HB2.out hb2⟩
    obtain ⟨cur, c1, c2⟩ := H4.out.2.1
    exact ⟨cur, (hal.block gu H4.out.2.1.lt).trans c1, c2⟩)
  have HG := Lib.hid (And.intro (show w2.heap.size ≤ gu from H4.out.1) (And.intro (show w.heap.size ≤ gu from Nat.le_trans HB2.out.size H4.out.1) (And.intro (show gu < w4.heap.size from H4.out.2.1.lt) (show bv < w2.heap.size from HV.out.2.2.2.2))))
  have hgu := HG.out.2.2.1
  have HVV := Lib.hid (And.intro HV.out.2.1 (And.intro HV.out.2.2.1 HV.out.2.2.2.1))
  have HGQ : Hid (w.heap.size ≤ w4.heap.size) := Lib.hid (by have := HG.out; omega)
  have HYU : Hid (0 < Y * 2 ^ up) := Lib.hid (Nat.mul_pos (by omega) (Nat.pow_pos (by omega)))
  have HXY : Hid (X % Y < 18446744073709551616 ^ L ∧ X / Y < 18446744073709551616 ^ L) := Lib.hid (by
    have a1 : 18446744073709551616 ^ lx ≤ 18446744073709551616 ^ L := Nat.pow_le_pow_right (by omega) HN.out.1
    have a2 := HX.out.2.2.2.1
    have a3 : X % Y ≤ X := Nat.mod_le _ _
    have a4 : X / Y ≤ X := Nat.div_le_self _ _
    exact ⟨by omega, by omega⟩)
  clear H4 HOA HO3 HR3 HV HB2 hc HX hsz3 hlk hlk1 hk3b hg3
  go_wp2_with fail
  generalize w4.heap.size = gq at *
  go_loopw [13] (fun jv wr => ∃ (k : Nat) (z : Int), k ≤ m ∧ jv = .int .i64 z ∧ z + 1 = (k : Int) ∧ Hid (LongW w wr (X * 2 ^ up) (Y * 2 ^ up) (lx + 1) m n k gu gq bv ov cv vs)) (fun jv _ => (intOf jv + 1).toNat)
  case atStart => exact ⟨m, _, Nat.le_refl _, rfl, by omega, H0⟩
  case round =>
    clear H0 hmk
    obtain ⟨k, z, hk, rfl, hz, hh⟩ := hrel
    rcases k with _ | k
    · obtain rfl : z = -1 := by omega
      obtain ⟨os, qs, hst, hbu, hbq, hmv, hbl⟩ := hh.out
      have hms := hbu.mag hst.w (show os.length ≤ cu by rw [hst.lo]; omega) (by omega)
      rw [hst.lo] at hms
      have hmq := hbq.mag hst.wq (by rw [hst.lq]; omega)
      rw [hst.lq] at hmq
      have hend := long_end hst rfl
      have HE := Lib.hid (And.intro hend (And.intro hmq (And.intro hbl (And.intro hst.lo hst.lq))))
      have HM1 := Lib.hid (norm_any _ _ _ hms)
      have HUV : Hid (X % Y < 18446744073709551616 ^ L ∧ X / Y < 18446744073709551616 ^ L) := HXY
      clear hbu hbq hmv hbl hms hmq hend hst hh hz
      go_wp2_with fail
      refine HM1.out.mono ?_
      rintro e w2' ⟨A2, k2, c2, -, rfl, hm2, rfl⟩
      rw [HE.out.2.2.2.1] at hm2
      have HRT := Lib.hid (right_any _ _ up (lx + 1) _ hm2 (by omega) (by omega))
      rw [HE.out.1.2] at HRT
      clear hm2 HM1
      go_wp2_with fail
      refine HRT.out.mono ?_
      rintro e w5 ⟨A5, k5, c5, lost, rfl, hm5, hb5⟩
      have H5 := Lib.hid (And.intro (hm5.less HUV.out.1) (And.intro (HE.out.2.1.below hb5) (onto HE.out.2.2.1 hb5)))
      clear hm5 hb5 HRT
      have HM6 := Lib.hid (norm_any _ _ _ H5.out.2.1)
      rw [HE.out.2.2.2.2, HE.out.1.1] at HM6
      go_wp2_with fail
      refine HM6.out.mono ?_
      rintro e w6 ⟨A6, k6, c6, -, rfl, hm6, rfl⟩
      have H6 := Lib.hid (hm6.less HUV.out.2)
      clear hm6 HM6
      go_wp2_with fail
      go_ret2
      exact ⟨A6, k6, c6, A5, k5, c5, rfl, H6.out, H5.out.1, H5.out.2.2⟩
    · obtain rfl : z = (k : Int) := by omega
      obtain ⟨os, qs, hst, hkn, hbq, hbl⟩ := hh.out.kn HVV.out.1 hyn (by omega) (by have := HH.out; omega) HVV.out.2.1 (by rw [← HVV.out.1]; exact HVV.out.2.2) (by omega)
      have hne : bv ≠ gu := by have := HG.out; omega
      have hne2 : gq ≠ gu := by have := HG.out.2.2.1; omega
      have hne3 : bv ≠ gq := by have := HG.out; omega
      have HST := Lib.hid (step_any gu k n (cu - k) os vs bv ov cv wr hkn hne)
      rw [HVV.out.1, hst.lo] at HST
      obtain ⟨q, hq⟩ : ∃ q, val os / (18446744073709551616 ^ k * (Y * 2 ^ up)) = q := ⟨_, rfl⟩
      rw [hq] at HST
      have HS := Lib.hid (And.intro hst (And.intro hkn.mag (And.intro hbq (And.intro hbl (And.intro hq (And.intro hne (And.intro hne2 hne3)))))))
      clear hz hst hkn hbq hbl hq hne hne2 hne3 hh
      have k0 : (0 : Int) ≤ (k : Int) := by omega
      have k1 : (k : Int) < (m : Int) := by omega
      go_wp2_with fail
      rw [show k + n + 1 - k = n + 1 by omega]
      refine HST.out.mono ?_
      rintro e w9 ⟨rfl, os', hkw, ho⟩
      have hbq9 := HS.out.2.2.1.kept hkw.kept HS.out.2.2.2.2.2.2.1
      have hfr := hbq9.frozen k
      have hco := hbq9.cell (j := k) (by rw [HS.out.1.lq]; omega)
      have HNX := Lib.hid (LongW.next (z := (q : Int)) HS.out.1 HS.out.2.2.1 HS.out.2.1 HS.out.2.2.2.1 (by omega) HYU.out HS.out.2.2.2.2.1.symm hkw ho HG.out.2.1 HGQ.out HS.out.2.2.2.2.2.2.1 HS.out.2.2.2.2.2.1 HS.out.2.2.2.2.2.2.2 rfl).1
      obtain ⟨q9, hq9⟩ : ∃ q9, qs.getD k 0 = q9 := ⟨_, rfl⟩
      rw [hq9] at hco
      clear hkw ho hbq9 hq9 HST
      go_wp2_with fail
      go_roundw
      case rel => exact ⟨k, (k : Int) - 1, by omega, rfl, by omega, HNX⟩
      case measure => simp [intOf]

set_option maxRecDepth 8000 in
set_option maxHeartbeats 2000000 in
theorem quotient_less (u v : Value) (m d L : Nat) (w : World) (hu : MagN w u m L) (hv : MagN w v d L) (hlt : m < d) (hL : L ≤ 1073741824) :
    Calls Tryz.prog 109 #[u, v] w (Num2 w (m / d) (m % d) L L) := by
  have HCM := Lib.hid (compare_any u v m d L w hu hv (by omega))
  obtain ⟨A, k, cu, rfl⟩ := hu.slice
  obtain ⟨B, l, cv, rfl⟩ := hv.slice
  have hq : m / d = 0 := Nat.div_eq_of_lt hlt
  have hr : m % d = m := Nat.mod_eq_of_lt hlt
  have hcmp : cmpN m d = -1 := by unfold cmpN; rw [if_pos hlt]
  rw [hq, hr]
  rw [hcmp] at HCM
  have HCL := Lib.hid (fun j => clone_any _ m L (w.drewN j) (show MagN (w.drewN j) _ m L from hu) (by omega))
  clear hu hv hq hr hcmp
  go_enter Tryz.func109, Tryz.ntmps109
  go_wp2_with fail
  refine HCM.out.mono ?_
  rintro e w1 ⟨rfl, j, rfl⟩
  go_wp2_with fail
  refine (HCL.out j).mono ?_
  rintro e w2 ⟨x, rfl, hx, hbx⟩
  have HX := Lib.hid (And.intro hx (show Below w.heap.size w w2 from (below_dN (Below.refl _ _) j).trans hbx))
  obtain ⟨A2, k2, c2, rfl⟩ := hx.slice
  clear hx hbx
  go_wp2_with fail
  go_ret2
  exact ⟨none, 0, 0, A2, k2, c2, rfl, zero_in w2 L, HX.out.1, HX.out.2⟩
theorem Num2.more {w : World} {a b L L' M M' : Nat} (hL : L ≤ L') (hM : M ≤ M') : ∀ e w', Num2 w a b L M e w' → Num2 w a b L' M' e w' :=
  fun _ _ ⟨A, k, c, A', k', c', he, h1, h2, h3⟩ => ⟨A, k, c, A', k', c', he, h1.more hL, h2.more hM, h3⟩
/-- quotient: whatever the numbers, by one above 0 -/
theorem quotient_any (u v : Value) (X Y L : Nat) (w : World) (hu : MagN w u X L) (hv : MagN w v Y L) (hY : 0 < Y) (hL : L ≤ 268435456) (hL1 : 1 ≤ L) :
    Calls Tryz.prog 109 #[u, v] w (Num2 w (X / Y) (X % Y) L L) := by
  by_cases h1 : X < Y
  · exact quotient_less u v X Y L w hu hv h1 (by omega)
  · by_cases h2 : Y < 18446744073709551616
    · exact (quotient_one u v X Y L w hu (hv.less (by rw [Nat.pow_one]; exact h2)) hY (by omega) hL1).mono (Num2.more (Nat.le_refl _) hL1)
    · exact quotient_long u v X Y L w hu hv (by omega) (by omega) hL
end Go.Proofs.YtbidlkmagbjllaaGreatDoor.Nb
