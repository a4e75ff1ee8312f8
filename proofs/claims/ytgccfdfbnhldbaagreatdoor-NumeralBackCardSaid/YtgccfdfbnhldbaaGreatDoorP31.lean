/- SN12 SN13 HB8 HA7 HB7 HB9 HA8 HA9 HE1 HE3 HE4 HE5 HE6 in one text. -/
import Derived.Test.YtgccfdfbnhldbaaGreatDoorProg
import Derived.WalkKit
import Derived.Laws.OwnMore
import Derived.Deep.Draws
import Derived.Outline
import Derived.WalkLawsBesides
import Derived.WalkSpells
import Derived.Handy
import Derived.Lib.Hide
import Derived.Deep.QuietTactic
import Derived.BigQuiet
import Derived.BigRegion
import Derived.Deep.DeepCutAuto
import Derived.Laws.BitsAllLaws
import Derived.Maps.AppendAt
import Derived.Deep.RegionHeld3
import Derived.OwnWalk
import Derived.SizedLaws
import Derived.Deep.OwnRows
import Derived.Test.YtgccfdfbnhldbaaGreatDoorP09
import Derived.Test.YtgccfdfbnhldbaaGreatDoorP08
import Derived.Deep.RegionLaw
import Derived.Deep.AppendLies
import Derived.Test.YtgccfdfbnhldbaaGreatDoorP06
import Derived.Deep.CutBlock
import Derived.IntWalk
import Derived.Lib.TrailingZeros
import Derived.Lib.ItoaNum
import Derived.Test.YtgccfdfbnhldbaaGreatDoorP11
import Derived.StillTailTactics
import Derived.Test.YtgccfdfbnhldbaaGreatDoorP18
import Derived.Test.YtgccfdfbnhldbaaGreatDoorP30
import Derived.Test.YtgccfdfbnhldbaaGreatDoorP22
import Derived.Test.YtgccfdfbnhldbaaGreatDoorP13
import Derived.Test.YtgccfdfbnhldbaaGreatDoorP14
import Derived.Test.YtgccfdfbnhldbaaGreatDoorP16
import Derived.Test.YtgccfdfbnhldbaaGreatDoorP25
import Derived.Test.YtgccfdfbnhldbaaGreatDoorP27
import Derived.Lib.CountLaws

namespace Go.Proofs.YtgccfdfbnhldbaaGreatDoor.Sh
open Go Go.RowKit

set_option maxRecDepth 8000 in
theorem abs_any (f : Nat) (w : World) (h : f < 18446744073709551616) : Calls Tryz.prog 40 #[.float .f64 f] w fun e w' => e = .returned (.float .f64 (f % 9223372036854775808)) ∧ w' = w := by
  obtain ⟨n, hn⟩ : ∃ n, f % 9223372036854775808 = n := ⟨_, rfl⟩
  have ha := andnot_top h
  rw [hn] at ha ⊢
  have hb := Nb.run_bits f w
  have hf := Nb.run_frombits (n : Int) w
  clear hn
  go_enter Tryz.func40, Tryz.ntmps40
  go_wp2_with fail
  go_ret
  exact ⟨rfl, rfl⟩

end Go.Proofs.YtgccfdfbnhldbaaGreatDoor.Sh

namespace Go.Proofs.YtgccfdfbnhldbaaGreatDoor.Sh
open Go Go.RowKit

/-- Short's text up to the exponent -/
def preT (d0 : UInt8) (ds : List UInt8) : List UInt8 := d0 :: (if Lib.trimRightB ds 48 = [] then [] else 46 :: Lib.trimRightB ds 48)
theorem shortT_pre (d0 : UInt8) (ds : List UInt8) (X : Int) : Nb.shortT d0 ds X = preT d0 ds ++ 101 :: Lib.itoa X := by
  unfold Nb.shortT preT
  simp
theorem trim_mem {ds : List UInt8} {x : UInt8} (h : x ∈ Lib.trimRightB ds 48) : x ∈ ds := by
  unfold Lib.trimRightB at h
  rw [List.mem_reverse] at h
  exact List.mem_reverse.1 ((List.dropWhile_sublist _).subset h)
theorem trim_le (ds : List UInt8) : (Lib.trimRightB ds 48).length ≤ ds.length := by
  unfold Lib.trimRightB
  rw [List.length_reverse]
  have := (List.dropWhile_sublist (p := (· == (48 : UInt8))) (l := ds.reverse)).length_le
  rwa [List.length_reverse] at this
theorem preT_len (d0 : UInt8) (ds : List UInt8) : (preT d0 ds).length ≤ ds.length + 2 := by
  unfold preT
  have := trim_le ds
  rw [List.length_cons]
  split
  · simp
  · rw [List.length_cons]; omega

theorem few_data {p q X n d : Nat} {E : Int} {d0 : UInt8} {ds : List UInt8} (h : Nb.ShortSays X p q E n d d0 ds) : Nb.IsDig (d0 :: ds) ∧ ds.length ≤ 17 ∧ d < 10 ^ 18 := by
  obtain ⟨h1, h2, d0', ds', e, hl, hl17⟩ := Nb.few_digits h.q0 h.few
  have h3 := Nb.revDig_dig 18 d (by omega)
  rw [h.dig] at e h3
  injection e with e1 e2
  subst e1 e2
  exact ⟨h3.1, hl17, by omega⟩
end Go.Proofs.YtgccfdfbnhldbaaGreatDoor.Sh

namespace Go.Proofs.YtgccfdfbnhldbaaGreatDoor.Nb
open Go Nx

/-- the parts of an exponent's text -/
def exT (e : Int) : Option (Bool × List UInt8) := some (decide (e < 0), Lib.decDigits e.natAbs)
theorem exT_exp {e : Int} (h1 : -2000 ≤ e) (h2 : e ≤ 2000) : expZ (exT e) = e := by
  have hl : (Lib.trimLeftB (Lib.decDigits e.natAbs) 48).length < 6 := by
    have := trim_len (Lib.decDigits e.natAbs)
    rw [Lib.decDigits_length] at this
    have := nDig_le 4 e.natAbs (by omega) (by omega)
    omega
  unfold exT expZ
  simp only [if_pos hl]
  rw [decN_trim, decN_dec]
  by_cases c : e < 0
  · simp [c]; omega
  · simp [c]; omega
theorem exT_text (e : Int) : expT (exT e) = 101 :: Lib.itoa e := by
  unfold exT expT sgn Lib.itoa
  by_cases c : e < 0
  · simp [c]
  · simp [c]
    rw [show e.natAbs = e.toNat by omega]
theorem exT_ok {e : Int} : ∀ b l, exT e = some (b, l) → IsDig l ∧ l ≠ [] := by
  intro b l h
  have h' : some (decide (e < 0), Lib.decDigits e.natAbs) = some (b, l) := h
  injection h' with h'
  injection h' with _ h2
  subst h2
  refine ⟨dec_digs _, fun hz => ?_⟩
  have := congrArg List.length hz
  rw [Lib.decDigits_length] at this
  have h3 := Lib.nDigits_pos e.natAbs
  simp at this
  omega
theorem hits_down {d X : Nat} : ∀ (z : Nat) {K : Int}, Hits (d * 10 ^ z) K X → Hits d (K + z) X
  | 0, K, h => by simpa using h
  | z + 1, K, h => by
    have h1 : Hits (10 * (d * 10 ^ z)) K X := by rwa [Nat.pow_succ, ← Nat.mul_assoc, Nat.mul_comm] at h
    have h2 := hits_down z (hits_next h1)
    rwa [show K + 1 + (z : Int) = K + ((z + 1 : Nat) : Int) by omega] at h2
theorem dropWhile_rep (l : List UInt8) : ∃ z, l = List.replicate z 48 ++ l.dropWhile (· == 48) := by
  induction l with
  | nil => exact ⟨0, rfl⟩
  | cons a l ih =>
    rw [List.dropWhile_cons]
    by_cases c : (a == 48) = true
    · rw [if_pos c]
      obtain ⟨z, hz⟩ := ih
      have e : a = 48 := by simpa using c
      exact ⟨z + 1, by rw [List.replicate_succ, List.cons_append, ← hz, e]⟩
    · rw [if_neg c]
      exact ⟨0, rfl⟩
theorem trimR_rep (l : List UInt8) : ∃ z, l = Lib.trimRightB l 48 ++ List.replicate z 48 := by
  obtain ⟨z, hz⟩ := dropWhile_rep l.reverse
  refine ⟨z, ?_⟩
  have := congrArg List.reverse hz
  rw [List.reverse_reverse, List.reverse_append, List.reverse_replicate] at this
  exact this
theorem decN_zeros (l : List UInt8) : ∀ z, decN (l ++ List.replicate z 48) = decN l * 10 ^ z
  | 0 => by simp
  | z + 1 => by
    rw [List.replicate_succ', ← List.append_assoc, decN_snoc, decN_zeros l z, Nat.pow_succ, ← Nat.mul_assoc]
    have : (48 : UInt8).toNat = 48 := rfl
    omega
/-- Short's text -/
def shT (neg : Bool) (d0 : UInt8) (ds : List UInt8) (e : Int) : DTxt := ⟨neg, [d0], if Lib.trimRightB ds 48 = [] then none else some (Lib.trimRightB ds 48), exT e⟩
theorem shT_list (neg : Bool) (d0 : UInt8) (ds : List UInt8) (e : Int) : (shT neg d0 ds e).list = sgn neg ++ shortT d0 ds e := by
  unfold shT DTxt.list shortT
  simp only [exT_text]
  split <;> simp [fracT]
theorem shT_digs (neg : Bool) (d0 : UInt8) (ds : List UInt8) (e : Int) : (shT neg d0 ds e).digs = Nb.shortD d0 ds := by
  unfold shT DTxt.digs shortD
  simp only
  split
  · rename_i h; rw [h]; rfl
  · rfl
theorem shT_frac (neg : Bool) (d0 : UInt8) (ds : List UInt8) (e : Int) : ((shT neg d0 ds e).d2.getD []).length = (Lib.trimRightB ds 48).length := by
  unfold shT
  simp only
  split
  · rename_i h; rw [h]; rfl
  · rfl
theorem short_txt {X p q n d : Nat} {E e : Int} {d0 : UInt8} {ds : List UInt8} (h : ShortSays X p q E n d d0 ds) (hX : X < 9218868437227405312) (h0 : 0 < X) (he : E + (ds.length + 1 : Nat) - n = e) (neg : Bool) :
    (shT neg d0 ds e).Ok ∧ ¬ (shT neg d0 ds e).low ∧ ¬ (shT neg d0 ds e).high ∧ Hits (decN (shT neg d0 ds e).digs) (shT neg d0 ds e).exp X := by
  obtain ⟨hdig, hd17, hd18⟩ := Sh.few_data h
  have hE := few_exp h.few h.q0 hX h0 h.val
  have hn := h.few.n0
  have hlen := shortD_len h
  have hsl : (Lib.trimRightB ds 48).length + 1 = n := by unfold shortD at hlen; rw [List.length_cons] at hlen; exact hlen
  have htl := Sh.trim_le ds
  have hok : (shT neg d0 ds e).Ok := by
    refine ⟨fun x hx => ?_, by unfold shT; simp, fun l hl => ?_, fun b l hl => exT_ok b l hl⟩
    · unfold shT at hx
      simp at hx
      subst hx
      exact hdig _ List.mem_cons_self
    · unfold shT at hl
      simp only at hl
      split at hl
      · cases hl
      · rename_i hne
        injection hl with hl
        subst hl
        exact ⟨fun x hx => hdig x (List.mem_cons_of_mem _ (Sh.trim_mem hx)), hne⟩
  have hd0 : d0 ≠ 48 := by
    have h1 := revDig_last 18 d hd18
    rw [h.dig] at h1
    simpa using h1
  have hkey : (shT neg d0 ds e).key = shortD d0 ds := by
    unfold DTxt.key
    rw [shT_digs]
    unfold shortD Lib.trimLeftB
    rw [List.dropWhile_cons, if_neg (by simpa using hd0)]
  have hexp : (shT neg d0 ds e).exp = -((Lib.trimRightB ds 48).length : Int) + e := by
    unfold DTxt.exp
    rw [shT_frac]
    unfold shT
    simp only
    rw [exT_exp (by omega) (by omega)]
  -- as many digits as were asked, or one more
  have hdl : ds.length + 1 ≤ n + 1 := by
    have h1 := low_in (n := n) h.q0 h.few.dec rfl hn.1
    have h2 := h.few.d0
    have h3 : d ≤ 10 ^ n := by omega
    have h4 := revDig_len_le (n + 1) d (by rw [Nat.pow_succ]; have : 0 < 10 ^ n := Nat.pow_pos (by omega); omega)
    have h5 := congrArg List.length h.dig
    rw [List.length_reverse, List.length_cons] at h5
    omega
  refine ⟨hok, ?_, ?_, ?_⟩
  · unfold DTxt.low
    rw [hkey, hlen, hexp]
    omega
  · unfold DTxt.high
    rw [hkey, hlen, hexp]
    omega
  · obtain ⟨z, hz⟩ := trimR_rep ds
    have hzl : ds.length = (Lib.trimRightB ds 48).length + z := by
      have := congrArg List.length hz
      rwa [List.length_append, List.length_replicate] at this
    have hdv : d = decN (shortD d0 ds) * 10 ^ z := by
      have h1 := (revDig_dig 18 d hd18).2
      rw [h.dig, hz, ← List.cons_append, decN_zeros] at h1
      exact h1.symm
    rw [shT_digs, hexp]
    have h2 := h.few.hit
    rw [hdv] at h2
    have h3 := hits_down z h2
    rwa [show E - (n : Int) + 1 + (z : Int) = -((Lib.trimRightB ds 48).length : Int) + e by omega] at h3
end Go.Proofs.YtgccfdfbnhldbaaGreatDoor.Nb

namespace Go.Proofs.YtgccfdfbnhldbaaGreatDoor.Nb
open Go Go.RowKit Nx

theorem fold_le : ∀ (l : List UInt8) (a : Nat), a ≤ l.foldl (fun n b => n * 10 + (b.toNat - 48)) a
  | [], a => Nat.le_refl _
  | b :: l, a => by
    rw [List.foldl_cons]
    exact Nat.le_trans (by omega) (fold_le l _)
theorem parseM_dig {M : Nat} (hM : M ≤ 4294967295) : ∀ (l : List UInt8) (a : Nat), IsDig l → l.foldl (fun n b => n * 10 + (b.toNat - 48)) a ≤ M → Lib.parseUintM M a l = .ok (l.foldl (fun n b => n * 10 + (b.toNat - 48)) a)
  | [], a, _, _ => by simp [Lib.parseUintM]
  | b :: l, a, hd, h => by
    rw [List.foldl_cons] at h ⊢
    have hb := hd b List.mem_cons_self
    have h1 := fold_le l (a * 10 + (b.toNat - 48))
    unfold Lib.parseUintM
    rw [if_pos hb, if_neg (by omega), if_neg (by omega)]
    exact parseM_dig hM l _ (fun x hx => hd x (List.mem_cons_of_mem _ hx)) h
theorem parseU_dec {n : Nat} (h : n ≤ 100000) : Lib.parseUintB 32 (Lib.decDigits n) = .ok n := by
  have hne : Lib.decDigits n ≠ [] := fun hz => by
    have := congrArg List.length hz
    rw [Lib.decDigits_length] at this
    have h3 := Lib.nDigits_pos n
    simp at this
    omega
  unfold Lib.parseUintB
  rw [if_neg hne]
  have hv : (Lib.decDigits n).foldl (fun n b => n * 10 + (b.toNat - 48)) 0 = n := decN_dec n
  have := parseM_dig (M := 2 ^ 32 - 1) (by omega) (Lib.decDigits n) 0 (dec_digs n) (by rw [hv]; omega)
  rw [this, hv]
theorem parseI_itoa {e : Int} (h : -2000 ≤ e ∧ e ≤ 2000) : Lib.parseIntB 32 (Lib.itoa e) = .ok e := by
  have hu := parseU_dec (n := e.natAbs) (by omega)
  have hd := dec_digs e.natAbs
  unfold Lib.itoa
  by_cases c : e < 0
  · rw [if_pos c]
    unfold Lib.parseIntB
    dsimp only
    rw [if_pos (by decide), hu]
    dsimp only
    rw [if_neg (fun h => h.1 (by decide)), if_neg (by omega), if_pos (by decide)]
    exact congrArg _ (by omega)
  · rw [if_neg c, show e.toNat = e.natAbs by omega]
    rcases hq : Lib.decDigits e.natAbs with _ | ⟨x, r⟩
    · rw [hq] at hu; simp [Lib.parseUintB] at hu
    · have hx := hd x (by rw [hq]; exact List.mem_cons_self)
      rw [hq] at hu
      unfold Lib.parseIntB
      dsimp only
      rw [if_neg (by omega), hu]
      dsimp only
      rw [if_neg (by omega), if_neg (by omega), if_neg (by omega)]
      exact congrArg _ (by omega)
/-- the hexadecimal digits behind the point -/
def hxD (m : Nat) : List UInt8 := digs 13 (fracR m)
theorem hxD_pt {m : Nat} (h0 : m % 2 = 1) (h : m < 9007199254740992) : ptL (hxD m) = pointL m := by
  have hz := (hexm m h0 h).zero
  unfold ptL hxD pointL
  have hf : fracR m = m * 2 ^ (53 - Lib.bitLen m) - 4503599627370496 := rfl
  rw [← hf] at hz
  by_cases c : Lib.bitLen m = 1
  · rw [if_pos c, hz.2 c, digs_zero]; rfl
  · have : fracR m ≠ 0 := fun h => c (hz.1 h)
    rw [if_neg c, digs_cons this]; rfl
/-- what is read of the digits is the odd mantissa, shifted -/
theorem hxD_val {m : Nat} (h0 : m % 2 = 1) (h : m < 9007199254740992) : ∃ s : Nat, hexVal 1 (hxD m) = m * 2 ^ s ∧ hexVal 1 (hxD m) < 9007199254740992 ∧ (s : Int) = 1 - (Lib.bitLen m : Int) + 4 * ((hxD m).length : Int) := by
  have H := hexm m h0 h
  have hr : fracR m < 4503599627370496 := H.rl
  have hd := digs_read 13 (fracR m) 1 (frac_start hr)
  have hl := digs_len 13 (fracR m)
  have e1 : 1 * 4503599627370496 + fracR m = m * 2 ^ (53 - Lib.bitLen m) := by rw [Nat.one_mul]; exact H.ref.symm
  rw [e1] at hd
  have hlt := hexVal_lt (digs 13 (fracR m)) 1 1 (digs_hx 13 _ hr) (by omega)
  unfold hxD
  have hn1 := H.n1
  have hn5 := H.n53
  obtain ⟨V, hV⟩ : ∃ V, hexVal 1 (digs 13 (fracR m)) = V := ⟨_, rfl⟩
  obtain ⟨l, hL⟩ : ∃ l, (digs 13 (fracR m)).length = l := ⟨_, rfl⟩
  obtain ⟨n, hN⟩ : ∃ n, Lib.bitLen m = n := ⟨_, rfl⟩
  rw [hV, hL, hN] at hd
  rw [hV, hL] at hlt
  rw [hL] at hl
  rw [hN] at hn1 hn5
  rw [hV, hL, hN]
  have hV53 : V < 9007199254740992 := Nat.lt_of_lt_of_le hlt (Nat.le_trans (Nat.pow_le_pow_right (n := 2) (by omega) (show 1 + 4 * l ≤ 53 by omega)) (by decide))
  rw [show (4503599627370496 : Nat) = 2 ^ 52 by decide, show (16 : Nat) = 2 ^ 4 by decide, ← Nat.pow_mul, Nat.mul_left_comm, ← Nat.pow_add] at hd
  rcases Nat.lt_or_ge (4 * l + (53 - n)) 52 with c | c
  · exfalso
    have e2 : V * 2 ^ (52 - (4 * l + (53 - n))) = m := by
      refine Nat.eq_of_mul_eq_mul_right (Nat.two_pow_pos (4 * l + (53 - n))) ?_
      rw [Nat.mul_assoc, ← Nat.pow_add, show 52 - (4 * l + (53 - n)) + (4 * l + (53 - n)) = 52 by omega]
      exact hd
    rw [show 52 - (4 * l + (53 - n)) = (51 - (4 * l + (53 - n))) + 1 by omega, Nat.pow_succ, ← Nat.mul_assoc] at e2
    omega
  · refine ⟨4 * l + (53 - n) - 52, ?_, hV53, by omega⟩
    refine Nat.eq_of_mul_eq_mul_right (Nat.two_pow_pos 52) ?_
    rw [Nat.mul_assoc, ← Nat.pow_add, show 4 * l + (53 - n) - 52 + 52 = 4 * l + (53 - n) by omega]
    exact hd
end Go.Proofs.YtgccfdfbnhldbaaGreatDoor.Nb

namespace Go.Proofs.YtgccfdfbnhldbaaGreatDoor.Nb
open Go Go.RowKit Nx

set_option maxRecDepth 8000 in
set_option maxHeartbeats 1000000 in
theorem Short_fin (f X : Nat) (w : World) (hf : f < 18446744073709551616) (hfX : f % 9223372036854775808 = X) (hX : X < 9218868437227405312) (h0 : 0 < X) (hT : Tab64 w) (hP : TabP w) : Calls Tryz.prog 9 #[.float .f64 f] w fun e w' => ∃ (p q n d : Nat) (E : Int) (d0 : UInt8) (ds : List UInt8), ShortSays X p q E n d d0 ds ∧ e = .returned (.string ⟨(sgL f ++ shortT d0 ds (E + (ds.length + 1 : Nat) - n)).toArray⟩) ∧ Below w.heap.size w w' := by
  obtain ⟨t, ht⟩ := finN (f := f) hf (by omega) (by omega)
  obtain ⟨tX, htX⟩ := finN (f := X) (by omega) (by omega) (by omega)
  have hoM : oddM f = oddM X := by unfold oddM bigM; rw [show f / 4503599627370496 % 2048 = X / 4503599627370496 % 2048 by omega, show f % 4503599627370496 = X % 4503599627370496 by omega]
  have hoX : oddX f = oddX X := by unfold oddX bigX bigM; rw [show f / 4503599627370496 % 2048 = X / 4503599627370496 % 2048 by omega, show f % 4503599627370496 = X % 4503599627370496 by omega]
  have hsp : specL f = [] := (spec_fin hf).2 (by omega)
  obtain ⟨sg, hsg⟩ : ∃ sg, sgL f = sg := ⟨_, rfl⟩
  have hsgl : sg.length ≤ 1 := by rw [← hsg]; unfold sgL; split <;> simp
  obtain ⟨ng, hneg⟩ : ∃ ng, decide (9223372036854775808 ≤ f) = ng := ⟨_, rfl⟩
  have HS := Lib.hid (fun W => special_any f W hf)
  rw [hsp, show decide (([] : List UInt8) ≠ []) = false by simp] at HS
  have HBg := Lib.hid (fun W => begun_any f W hf)
  rw [hsg] at HBg ⊢
  have HPt := Lib.hid (fun W (hW : Tab64 W) => Parts_any f t W hW ht)
  rw [hneg, hoM, hoX] at HPt
  obtain ⟨m, hm⟩ : ∃ m, oddM X = m := ⟨_, rfl⟩
  obtain ⟨Z, hZ⟩ : ∃ Z, oddX X = Z := ⟨_, rfl⟩
  have hmu : m < 18446744073709551616 := by have := htX.up; omega
  have hm0 : m ≠ 0 := by have := htX.od; omega
  have hZu : -10000 ≤ Z ∧ Z ≤ 10000 := by have := htX.x0; have := htX.x1; omega
  rw [hm, hZ] at HPt
  have hab := fun W => Sh.abs_any f W hf
  rw [hfX] at hab
  have HAb : Hid (∀ W, Calls Tryz.prog 40 #[.float .f64 f] W fun e w' => e = .returned (.float .f64 X) ∧ w' = W) := Lib.hid hab
  clear hab
  have HTT := Lib.hid htX
  have hmf : ∀ (fn : Fn) (first cap : Array Value) (w : World), (Instr.makeFunc fn first cap).run Tryz.prog w = .ok (.func fn first cap) w := fun _ _ _ _ => rfl
  have hA := (Below.refl w.heap.size w).alloc (Nat.le_refl _) (.cells #[.float .f64 f] 25)
  have hc : (w.alloc (.cells #[.float .f64 f] 25)).cell? ⟨w.heap.size, 0, none⟩ = some (.float .f64 f) := by simp [go_sem]
  obtain ⟨W, hW⟩ : ∃ W, w.alloc (.cells #[.float .f64 f] 25) = W := ⟨_, rfl⟩
  have hws : w.heap.size < W.heap.size := by rw [← hW]; simp
  rw [hW] at hA hc
  have HA := Lib.hid hA
  have HT := Lib.hid (And.intro hT hP)
  clear hA hT hP hsp hsg hneg ht htX hoM hoX hfX hf
  go_enter Tryz.func9, Tryz.ntmps9
  go_wp2_with fail
  refine (HS.out W).mono ?_
  rintro e w1 ⟨rfl, hw⟩
  obtain rfl := hw.symm
  go_wp2_with fail
  refine (HBg.out W).mono ?_
  rintro e w1 ⟨rfl, d1, b1⟩
  have c1 := (b1.cell (p := ⟨w.heap.size, 0, none⟩) (by exact hws)).trans hc
  have H1 := Lib.hid (And.intro d1 b1)
  clear d1 b1 hc
  go_wp2_with fail
  refine (HPt.out w1 (HT.out.1.below (back_of' HA.out H1.out.2))).mono ?_
  rintro e w2 ⟨rfl, b2⟩
  have hk := b2.trans (((Below.refl w2.heap.size w2).alloc (Nat.le_refl _) (.cells #[.bool ng, .int .u64 (m : Int), .int .i64 Z] 60)).mono b2.size)
  have c2 := (hk.cell (p := ⟨w.heap.size, 0, none⟩) (by exact Nat.lt_of_lt_of_le hws H1.out.2.size)).trans c1
  have H2 := Lib.hid (And.intro (H1.out.1.below hk) (back_of' H1.out.2 hk))
  clear b2 hk c1 H1
  have HAm := Lib.hid (fun V => amount_any ng m Z _ _ 10100 V hmu hZu rfl rfl (by omega) (by omega))
  go_wp2_with fail
  refine (HAm.out _).mono ?_
  rintro e w3 ⟨z, p, q, rfl, r3, hv3, b3⟩
  have c3 := (b3.cell (p := ⟨w.heap.size, 0, none⟩) (by exact Nat.lt_of_lt_of_le hws H2.out.2.size)).trans c2
  have H3 := Lib.hid (And.intro (H2.out.1.below b3) (And.intro (back_of' H2.out.2 b3) r3))
  have hq0 : 0 < q := r3.2.2
  have hval : p * 2 ^ 1074 = amt64 X * q := parts_val hX HTT.out (by rw [hZ]) (by rw [hZ]) (by rw [hm]; exact hv3)
  have hin := val_in hX h0 hq0 hval
  have HFe := Lib.hid (fewest_any z w.heap.size f p q 10100 X w3 H3.out.2.2 c3 (Nat.lt_of_lt_of_le hws H3.out.2.1.size) HAb h0 hX hin.1 hin.2.1 hin.2.2 hval (by omega) (by omega))
  have HV := Lib.hid (And.intro hq0 hval)
  clear c3 c2 r3 hv3 b3 H2 HAm hval hin
  go_wp2_with fail
  refine HFe.out.mono ?_
  rintro e w4 ⟨E, n, d, hf, rfl, b4⟩
  obtain ⟨hd1, hd2, d0, ds, hdig, hdl, hd17⟩ := few_digits HV.out.1 hf
  have HF := Lib.hid (show ShortSays X p q E n d d0 ds from ⟨HV.out.1, HV.out.2, hf, hdig⟩)
  have H4 := Lib.hid (And.intro (H3.out.1.below b4) (back_of' H3.out.2.1 b4))
  have hE := few_exp hf HV.out.1 hX h0 HV.out.2
  have hn := hf.n0
  rw [hdig, hdl]
  clear b4 H3 HFe hf
  go_wp2_with fail
  refine (short_any W.heap.size W.heap.size sg d0 ds _ w4 H4.out.1 (by omega) (by omega) (by omega) H4.out.2.size (HT.out.2.below (back_of' HA.out H4.out.2) HT.out.2.2) (Nat.lt_trans HT.out.2.2 hws)).mono ?_
  rintro e w5 ⟨rfl, b5⟩
  have HB := Lib.hid (back_of' HA.out (H4.out.2.trans b5))
  clear b5
  go_wp2_with fail
  go_ret
  exact ⟨p, q, n, d, E, d0, ds, HF.out, rfl, HB.out⟩
set_option maxRecDepth 8000 in
set_option maxHeartbeats 1000000 in
/-- Short of a nought -/
theorem Short_zero (f : Nat) (w : World) (hf : f < 18446744073709551616) (h0 : f % 9223372036854775808 = 0) (hT : Tab64 w) : Calls Tryz.prog 9 #[.float .f64 f] w fun e w' => e = .returned (.string ⟨(sgL f ++ [48]).toArray⟩) ∧ Below w.heap.size w w' := by
  have hsp : specL f = [] := (spec_fin hf).2 (by omega)
  obtain ⟨sg, hsg⟩ : ∃ sg, sgL f = sg := ⟨_, rfl⟩
  have hsgl : sg.length ≤ 1 := by rw [← hsg]; unfold sgL; split <;> simp
  have HS := Lib.hid (fun W => special_any f W hf)
  rw [hsp, show decide (([] : List UInt8) ≠ []) = false by simp] at HS
  have HBg := Lib.hid (fun W => begun_any f W hf)
  rw [hsg] at HBg ⊢
  have HPt := Lib.hid (fun W (hW : Tab64 W) => Parts_zero f W hW hf h0)
  have HT := Lib.hid hT
  have hA := (Below.refl w.heap.size w).alloc (Nat.le_refl _) (.cells #[.float .f64 f] 25)
  have hc : (w.alloc (.cells #[.float .f64 f] 25)).cell? ⟨w.heap.size, 0, none⟩ = some (.float .f64 f) := by simp [go_sem]
  obtain ⟨W, hW⟩ : ∃ W, w.alloc (.cells #[.float .f64 f] 25) = W := ⟨_, rfl⟩
  have hws : w.heap.size < W.heap.size := by rw [← hW]; simp
  rw [hW] at hA hc
  have HA := Lib.hid hA
  clear hA hT hsp hsg h0 hf
  go_enter Tryz.func9, Tryz.ntmps9
  go_wp2_with fail
  refine (HS.out W).mono ?_
  rintro e w1 ⟨rfl, hw⟩
  obtain rfl := hw.symm
  go_wp2_with fail
  refine (HBg.out W).mono ?_
  rintro e w1 ⟨rfl, d1, b1⟩
  have c1 := (b1.cell (p := ⟨w.heap.size, 0, none⟩) (by exact hws)).trans hc
  have H1 := Lib.hid (And.intro d1 b1)
  clear d1 b1 hc
  go_wp2_with fail
  refine (HPt.out w1 (HT.out.below (back_of' HA.out H1.out.2))).mono ?_
  rintro e w2 ⟨rfl, b2⟩
  generalize decide (9223372036854775808 ≤ f) = ng at *
  have hk := b2.trans (((Below.refl w2.heap.size w2).alloc (Nat.le_refl _) (.cells #[.bool ng, .int .u64 0, .int .i64 0] 60)).mono b2.size)
  have H2 := Lib.hid (And.intro (H1.out.1.below hk) (back_of' H1.out.2 hk))
  clear b2 hk c1 H1 HPt
  go_wp2_with fail
  refine (wbyte W.heap.size W.heap.size sg 48 _ H2.out.1 (by omega) H2.out.2.size 48 rfl).mono ?_
  rintro e w3 ⟨rfl, d3, b3⟩
  have hsz := H2.out.2.size
  have H3 := Lib.hid (And.intro d3 (H2.out.2.trans b3))
  clear d3 b3 H2 hsz
  go_wp2_with fail
  refine (bstring W.heap.size W.heap.size _ w3 H3.out.1 H3.out.2.size).mono ?_
  rintro e w4 ⟨rfl, b4⟩
  have HB := Lib.hid (back_of' HA.out (H3.out.2.trans b4))
  clear b4
  go_wp2_with fail
  go_ret
  exact ⟨rfl, HB.out⟩
set_option maxRecDepth 8000 in
/-- Short of what is not finite -/
theorem Short_spec (f : Nat) (w : World) (hf : f < 18446744073709551616) (h : specL f ≠ []) : Calls Tryz.prog 9 #[.float .f64 f] w fun e w' => e = .returned (.string ⟨(specL f).toArray⟩) ∧ Below w.heap.size w w' := by
  have HS := Lib.hid (fun W => special_any f W hf)
  rw [decide_eq_true h] at HS
  obtain ⟨S, hS⟩ : ∃ S : ByteArray, (⟨(specL f).toArray⟩ : ByteArray) = S := ⟨_, rfl⟩
  rw [hS] at HS ⊢
  have hA := Lib.hid ((Below.refl w.heap.size w).alloc (Nat.le_refl _) (.cells #[.float .f64 f] 25))
  have hc : (w.alloc (.cells #[.float .f64 f] 25)).cell? ⟨w.heap.size, 0, none⟩ = some (.float .f64 f) := by simp [go_sem]
  clear h hS hf
  go_enter Tryz.func9, Tryz.ntmps9
  go_wp2_with fail
  refine (HS.out _).mono ?_
  rintro e w1 ⟨rfl, hw⟩
  obtain rfl := hw.symm
  go_wp2_with fail
  go_ret
  exact ⟨rfl, hA.out⟩
end Go.Proofs.YtgccfdfbnhldbaaGreatDoor.Nb

namespace Go.Proofs.YtgccfdfbnhldbaaGreatDoor.Nb
open Go Go.RowKit Nx

set_option maxRecDepth 8000 in
theorem mnan_any (w : World) : Calls Tryz.prog 65 #[] w fun e w' => e = .returned (.float .f64 9221120237041090561) ∧ w' = w := by
  have hf := run_frombits (9221120237041090561 : Int) w
  go_enter Tryz.func65, Tryz.ntmps65
  go_wp2_with fail
  go_ret
  exact ⟨rfl, rfl⟩
set_option maxRecDepth 8000 in
theorem minf_up (w : World) : Calls Tryz.prog 66 #[.int .i64 1] w fun e w' => e = .returned (.float .f64 9218868437227405312) ∧ w' = w := by
  have hf := run_frombits (9218868437227405312 : Int) w
  go_enter Tryz.func66, Tryz.ntmps66
  go_wp2_with fail
  go_ret
  exact ⟨rfl, rfl⟩
set_option maxRecDepth 8000 in
theorem minf_down (w : World) : Calls Tryz.prog 66 #[.int .i64 (-1)] w fun e w' => e = .returned (.float .f64 18442240474082181120) ∧ w' = w := by
  have hf := run_frombits (18442240474082181120 : Int) w
  go_enter Tryz.func66, Tryz.ntmps66
  go_wp2_with fail
  go_ret
  exact ⟨rfl, rfl⟩
set_option maxRecDepth 8000 in
theorem mcanon_any (f : Nat) (w : World) (hf : f < 18446744073709551616) : Calls Tryz.prog 64 #[.float .f64 f] w fun e w' => e = .returned (.float .f64 (cnN f)) ∧ Below w.heap.size w w' := by
  have hb := run_bits f w
  obtain ⟨c, hc⟩ : ∃ c, cnN f = c := ⟨_, rfl⟩
  have HC := Lib.hid (fun W => canon_dbl (f : Int) W)
  rw [canon_eq hf, hc] at HC
  have HR := Lib.hid (fun W => run_frombits (c : Int) W)
  have HF := Lib.hid (fun W => of_dbl W)
  rw [hc]
  clear hc
  go_enter Tryz.func64, Tryz.ntmps64
  go_wp2_with fail
  refine (HF.out _).mono ?_
  rintro e w1 ⟨rfl, b1⟩
  have H1 := Lib.hid b1
  clear b1
  go_wp2_with fail
  refine (HC.out _).mono ?_
  rintro e w2 ⟨rfl, b2⟩
  have H2 := Lib.hid (back_of' H1.out b2)
  have hf := HR.out w2
  clear b2 H1
  go_wp2_with fail
  go_ret
  exact ⟨rfl, H2.out⟩
set_option maxRecDepth 8000 in
/-- a special text -/
theorem unspecial_spec (f : Nat) (s : ByteArray) (w : World) (hs : s.data.toList = specL f) (h : specL f ≠ []) : Calls Tryz.prog 23 #[.string s] w fun e w' => e = .returned (.tuple #[.float .f64 (cnN f), .bool true]) ∧ Below w.heap.size w w' := by
  have hl := Lib.toList_data s
  rw [hs] at hl
  unfold specL at hl h
  by_cases c1 : nanN f = true
  · rw [if_pos c1] at hl
    have hc : cnN f = 9221120237041090561 := by unfold cnN; rw [if_pos c1]
    have hu : (s.toList == [110, 97, 110]) = true := by rw [hl]; rfl
    have HC := Lib.hid (mcanon_any 9221120237041090561 w (by omega))
    rw [show cnN 9221120237041090561 = 9221120237041090561 by decide] at HC
    rw [hc]
    clear hc hl c1 hs h
    go_enter Tryz.func23, Tryz.ntmps23
    go_wp2_with fail
    refine (mnan_any w).mono ?_
    rintro e w1 ⟨rfl, hw⟩
    obtain rfl := hw.symm
    go_wp2_with fail
    refine HC.out.mono ?_
    rintro e w2 ⟨rfl, b2⟩
    have H2 := Lib.hid b2
    clear b2
    go_wp2_with fail
    go_ret2
    exact ⟨rfl, H2.out⟩
  · rw [if_neg c1] at hl h
    have hc : cnN f = f := by unfold cnN; rw [if_neg c1]
    rw [hc]
    by_cases c2 : f = 9218868437227405312
    · rw [if_pos c2] at hl
      have hu1 : (s.toList == [110, 97, 110]) = false := by rw [hl]; rfl
      have hu2 : (s.toList == [43, 105, 110, 102]) = true := by rw [hl]; rfl
      subst c2
      clear hc hl c1 hs h
      go_enter Tryz.func23, Tryz.ntmps23
      go_wp2_with fail
      refine (minf_up w).mono ?_
      rintro e w1 ⟨rfl, hw⟩
      obtain rfl := hw.symm
      go_wp2_with fail
      go_ret2
      exact ⟨rfl, Below.refl _ _⟩
    · rw [if_neg c2] at hl h
      by_cases c3 : f = 18442240474082181120
      · rw [if_pos c3] at hl
        have hu1 : (s.toList == [110, 97, 110]) = false := by rw [hl]; rfl
        have hu2 : (s.toList == [43, 105, 110, 102]) = false := by rw [hl]; rfl
        have hu3 : (s.toList == [45, 105, 110, 102]) = true := by rw [hl]; rfl
        subst c3
        clear hc hl c1 hs h c2
        go_enter Tryz.func23, Tryz.ntmps23
        go_wp2_with fail
        refine (minf_down w).mono ?_
        rintro e w1 ⟨rfl, hw⟩
        obtain rfl := hw.symm
        go_wp2_with fail
        go_ret2
        exact ⟨rfl, Below.refl _ _⟩
      · rw [if_neg c3] at h
        exact absurd rfl h
set_option maxRecDepth 8000 in
/-- Parse of a special text -/
theorem parse_spec (f : Nat) (s : ByteArray) (w : World) (hs : s.data.toList = specL f) (h : specL f ≠ []) : Calls Tryz.prog 8 #[.string s] w fun e w' => e = .returned (.tuple #[.float .f64 (cnN f), .int .i64 0]) ∧ Below w.heap.size w w' := by
  have hz : (s.size : Int) ≤ 2000 := by
    have h1 : s.size = (specL f).length := by rw [← size_list, hs]
    have h2 : (specL f).length ≤ 4 := by unfold specL; (repeat' split) <;> simp
    omega
  have HU := Lib.hid (unspecial_spec f s w hs h)
  obtain ⟨c, hc⟩ : ∃ c, cnN f = c := ⟨_, rfl⟩
  rw [hc] at HU ⊢
  clear hs h hc
  go_enter Tryz.func8, Tryz.ntmps8
  go_wp2_with fail
  refine HU.out.mono ?_
  rintro e w1 ⟨rfl, b1⟩
  have H1 := Lib.hid b1
  clear b1
  go_wp2_with fail
  go_ret2
  exact ⟨rfl, H1.out⟩
/-- Short's text, read -/
theorem short_back (f : Nat) (w : World) (hf : f < 18446744073709551616) (hT : Tab64 w) (hP : TabP w) : Calls Tryz.prog 9 #[.float .f64 f] w fun e w' => ∃ s : ByteArray, e = .returned (.string s) ∧ Below w.heap.size w w' ∧ ∀ W, Calls Tryz.prog 8 #[.string s] W fun e' W' => e' = .returned (.tuple #[.float .f64 (cnN f), .int .i64 0]) ∧ Below W.heap.size W W' := by
  by_cases h : specL f ≠ []
  · refine (Short_spec f w hf h).mono ?_
    rintro e w' ⟨rfl, hb⟩
    exact ⟨_, rfl, hb, fun W => parse_spec f _ W rfl h⟩
  · have hfin := (spec_fin hf).1 (by simpa using h)
    have hcn : cnN f = f := by unfold cnN nanN; rw [if_neg (by simp; omega)]
    have hsg : sgL f = sgn (decide (9223372036854775808 ≤ f)) := by unfold sgL sgn; by_cases c : 9223372036854775808 ≤ f <;> simp [c]
    rw [hcn]
    by_cases h0 : f % 9223372036854775808 = 0
    · refine (Short_zero f w hf h0 hT).mono ?_
      rintro e w' ⟨rfl, hb⟩
      refine ⟨_, rfl, hb, fun W => ?_⟩
      have hok : (⟨decide (9223372036854775808 ≤ f), [48], none, none⟩ : DTxt).Ok := ⟨fun x hx => by simp at hx; subst hx; decide, by simp, fun l hl => (by cases hl), fun b l hl => (by cases hl)⟩
      refine (parse_any _ ⟨decide (9223372036854775808 ≤ f), [48], none, none⟩ W ?_ hok ?_).mono ?_
      · rw [hsg]; unfold DTxt.list; simp [fracT, expT]
      · unfold sgL; split <;> simp [ByteArray.size]
      · rintro e' W' ⟨g, c, rfl, hs, hb'⟩
        refine ⟨?_, hb'⟩
        have hlow : (⟨decide (9223372036854775808 ≤ f), [48], none, none⟩ : DTxt).low := .inl rfl
        rcases hs with ⟨-, -, h1 | ⟨Y, hY, hi⟩⟩ | ⟨rfl, Y, hY, -, hg⟩
        · exact absurd hlow h1.1
        · rcases hY with ⟨-, rfl⟩ | ⟨h1, -⟩
          · omega
          · exact absurd hlow h1
        · rcases hY with ⟨-, rfl⟩ | ⟨h1, -⟩
          · have : g = f := by
              rw [hg]
              by_cases c : 9223372036854775808 ≤ f
              · simp [c]; omega
              · simp [c]; omega
            rw [this]
          · exact absurd hlow h1
    · refine (Short_fin f (f % 9223372036854775808) w hf rfl hfin (by omega) hT hP).mono ?_
      rintro e w' ⟨p, q, n, d, E, d0, ds, hs, rfl, hb⟩
      refine ⟨_, rfl, hb, fun W => ?_⟩
      obtain ⟨hok, hl, hh, hr⟩ := short_txt hs hfin (by omega) rfl (decide (9223372036854775808 ≤ f))
      refine (parse_any _ (shT (decide (9223372036854775808 ≤ f)) d0 ds (E + (ds.length + 1 : Nat) - n)) W ?_ hok ?_).mono ?_
      · rw [hsg, shT_list]
      · obtain ⟨-, hd17, -⟩ := Sh.few_data hs
        have h1 := Sh.preT_len d0 ds
        have hE := few_exp hs.few hs.q0 hfin (by omega) hs.val
        have hn := hs.few.n0
        have h2 := Lib.itoa_length_le (E + (ds.length + 1 : Nat) - n) (by omega) (by omega)
        have h3 : (sgL f).length ≤ 1 := by unfold sgL; split <;> simp
        rw [Sh.shortT_pre]
        obtain ⟨it, hit⟩ : ∃ it, Lib.itoa (E + (ds.length + 1 : Nat) - n) = it := ⟨_, rfl⟩
        rw [hit] at h2 ⊢
        show (sgL f ++ (Sh.preT d0 ds ++ 101 :: it)).toArray.size ≤ 2000
        simp
        omega
      · rintro e' W' ⟨g, c, rfl, hsay, hb'⟩
        obtain ⟨rfl, hg⟩ := says_of hl hh hfin hr hsay
        refine ⟨?_, hb'⟩
        have : g = f := by
          rw [hg]
          unfold shT
          by_cases c : 9223372036854775808 ≤ f
          · simp [c]; omega
          · simp [c]; omega
        rw [this]
end Go.Proofs.YtgccfdfbnhldbaaGreatDoor.Nb

namespace Go.Proofs.YtgccfdfbnhldbaaGreatDoor.Nb
open Go Go.RowKit Nx

theorem hexL_fin {f X : Nat} (h0 : X ≠ 0) (hfX : f % 9223372036854775808 = X) (hsp : specL f = []) : hexL f = sgL f ++ numL (oddM f) (oddX f) := by
  unfold hexL
  rw [if_pos hsp, if_neg (by omega)]
theorem sgL_sgn (f : Nat) : sgL f = sgn (decide (9223372036854775808 ≤ f)) := by unfold sgL sgn; by_cases c : 9223372036854775808 ≤ f <;> simp [c]
/-- unhex of a number's own hexadecimal form -/
theorem unhex_hex (f X : Nat) (w : World) (hT : Tab64 w) (hf : f < 18446744073709551616) (hfX : f % 9223372036854775808 = X) (hfin : X < 9218868437227405312) (h0 : X ≠ 0) :
    Calls Tryz.prog 24 #[.string ⟨(hexL f).toArray⟩] w fun e w' => e = .returned (.tuple #[.float .f64 f, .bool true]) ∧ Below w.heap.size w w' := by
  obtain ⟨tX, htX⟩ := finN (f := X) (by omega) (by omega) (by omega)
  have hoM : oddM f = oddM X := by unfold oddM bigM; rw [show f / 4503599627370496 % 2048 = X / 4503599627370496 % 2048 by omega, show f % 4503599627370496 = X % 4503599627370496 by omega]
  have hoX : oddX f = oddX X := by unfold oddX bigX bigM; rw [show f / 4503599627370496 % 2048 = X / 4503599627370496 % 2048 by omega, show f % 4503599627370496 = X % 4503599627370496 by omega]
  have hsp : specL f = [] := (spec_fin hf).2 (by omega)
  have hod := htX.od
  have hup := htX.up
  have hx0 := htX.x0
  have hx1 := htX.x1
  have HM := hexm (oddM X) hod hup
  have hn1 := HM.n1
  have hn5 := HM.n53
  have hdl := Nx.digs_len 13 (fracR (oddM X))
  obtain ⟨s, hs1, hs2, hs3⟩ := hxD_val hod hup
  have hitl := Lib.itoa_length_le (oddX X + (Lib.bitLen (oddM X) : Nat) - 1) (by omega) (by omega)
  have hL : hexL f = sgn (decide (9223372036854775808 ≤ f)) ++ ([48, 120, 49] ++ (ptL (hxD (oddM X)) ++ 112 :: Lib.itoa (oddX X + (Lib.bitLen (oddM X) : Nat) - 1))) := by
    rw [hexL_fin h0 hfX hsp, hoM, hoX, sgL_sgn, hxD_pt hod hup]
    unfold numL
    simp
  have hpl : (ptL (hxD (oddM X))).length ≤ 14 := by
    unfold ptL hxD
    split
    · simp
    · rw [List.length_cons]; omega
  have hsl : (sgn (decide (9223372036854775808 ≤ f))).length ≤ 1 := by unfold sgn; split <;> simp
  have hU : UhD (decide (9223372036854775808 ≤ f)) (hxD (oddM X)) (Lib.itoa (oddX X + (Lib.bitLen (oddM X) : Nat) - 1)) (oddX X + (Lib.bitLen (oddM X) : Nat) - 1) ⟨(hexL f).toArray⟩ := by
    refine ⟨hL, ?_, digs_hx 13 _ HM.rl, hdl, parseI_itoa (by omega), by omega⟩
    show (hexL f).toArray.size ≤ 2000
    rw [hL, List.size_toArray]
    simp only [List.length_append, List.length_cons, List.length_nil]
    omega
  have := unhex_fin _ _ _ _ _ (X + (if decide (9223372036854775808 ≤ f) = true then 9223372036854775808 else 0)) w hT hU (fun W hW => Of_fin _ W hW hfin htX hs1 hs2 (by omega))
  have e : X + (if decide (9223372036854775808 ≤ f) = true then 9223372036854775808 else 0) = f := by
    by_cases c : 9223372036854775808 ≤ f
    · simp [c]; omega
    · simp [c]; omega
  rw [e] at this
  exact this
set_option maxRecDepth 8000 in
set_option maxHeartbeats 1000000 in
/-- ParseHex of a text that unhex reads, and that is written so -/
theorem ParseHex_of (f : Nat) (s : ByteArray) (w : World) (hz : s.size ≤ 2000) (h1 : (s.toList == [110, 97, 110]) = false) (h2 : (s.toList == [43, 105, 110, 102]) = false) (h3 : (s.toList == [45, 105, 110, 102]) = false)
    (hU : ∀ W, Below w.heap.size w W → Calls Tryz.prog 24 #[.string s] W fun e w' => e = .returned (.tuple #[.float .f64 f, .bool true]) ∧ Below W.heap.size W w')
    (hH : ∀ W, Below w.heap.size w W → Calls Tryz.prog 7 #[.float .f64 f] W fun e w' => e = .returned (.string s) ∧ Below W.heap.size W w') :
    Calls Tryz.prog 6 #[.string s] w fun e w' => e = .returned (.tuple #[.float .f64 f, .int .i64 0]) ∧ Below w.heap.size w w' := by
  have hz' : ¬ ((2000 : Int) < (s.size : Int)) := by omega
  have HN := Lib.hid (unspecial_no s w h1 h2 h3)
  have HU := Lib.hid hU
  have HH := Lib.hid hH
  clear hU hH h1 h2 h3 hz
  go_enter Tryz.func6, Tryz.ntmps6
  go_wp2_with fail
  refine HN.out.mono ?_
  rintro e w1 ⟨rfl, hw⟩
  obtain rfl := hw.symm
  go_wp2_with fail
  refine (HU.out w (Below.refl _ _)).mono ?_
  rintro e w2 ⟨rfl, b2⟩
  have H2 := Lib.hid b2
  clear b2
  go_wp2_with fail
  refine (HH.out w2 H2.out).mono ?_
  rintro e w3 ⟨rfl, b3⟩
  have H3 := Lib.hid (back_of' H2.out b3)
  clear b3
  go_wp2_with fail
  go_ret2
  exact ⟨rfl, H3.out⟩
end Go.Proofs.YtgccfdfbnhldbaaGreatDoor.Nb

namespace Go.Proofs.YtgccfdfbnhldbaaGreatDoor.Nb
open Go Go.RowKit Nx

set_option maxRecDepth 8000 in
theorem ParseHex_spec (f : Nat) (s : ByteArray) (w : World) (hs : s.data.toList = specL f) (h : specL f ≠ []) : Calls Tryz.prog 6 #[.string s] w fun e w' => e = .returned (.tuple #[.float .f64 (cnN f), .int .i64 0]) ∧ Below w.heap.size w w' := by
  have hz : (s.size : Int) ≤ 2000 := by
    have h1 : s.size = (specL f).length := by rw [← size_list, hs]
    have h2 : (specL f).length ≤ 4 := by unfold specL; (repeat' split) <;> simp
    omega
  have HU := Lib.hid (unspecial_spec f s w hs h)
  obtain ⟨c, hc⟩ : ∃ c, cnN f = c := ⟨_, rfl⟩
  rw [hc] at HU ⊢
  clear hs h hc
  go_enter Tryz.func6, Tryz.ntmps6
  go_wp2_with fail
  refine HU.out.mono ?_
  rintro e w1 ⟨rfl, b1⟩
  have H1 := Lib.hid b1
  clear b1
  go_wp2_with fail
  go_ret2
  exact ⟨rfl, H1.out⟩
theorem no_spec {ng : Bool} {r : List UInt8} {s : ByteArray} (h : s.data.toList = sgn ng ++ 48 :: r) : (s.toList == [110, 97, 110]) = false ∧ (s.toList == [43, 105, 110, 102]) = false ∧ (s.toList == [45, 105, 110, 102]) = false := by
  rw [Lib.toList_data, h]
  cases ng <;> simp [sgn]
/-- the hexadecimal form of any number, read -/
theorem hex_read (f : Nat) (W : World) (hf : f < 18446744073709551616) (hW : Tab64 W) (hPW : TabP W) : Calls Tryz.prog 6 #[.string ⟨(hexL f).toArray⟩] W fun e' W' => e' = .returned (.tuple #[.float .f64 (cnN f), .int .i64 0]) ∧ Below W.heap.size W W' := by
  by_cases h : specL f ≠ []
  · exact ParseHex_spec f _ W (by unfold hexL; rw [if_neg h]) h
  · have hsp : specL f = [] := by simpa using h
    have hfin := (spec_fin hf).1 hsp
    have hcn : cnN f = f := by unfold cnN nanN; rw [if_neg (by simp; omega)]
    rw [hcn]
    have hlen := hexL_len f hf
    have hH : ∀ V, Below W.heap.size W V → Calls Tryz.prog 7 #[.float .f64 f] V fun e w' => e = .returned (.string ⟨(hexL f).toArray⟩) ∧ Below V.heap.size V w' := fun V hV => hex_any f V (hW.below hV) (hPW.below hV hPW.2) hf
    have hz : (⟨(hexL f).toArray⟩ : ByteArray).size ≤ 2000 := by show (hexL f).toArray.size ≤ 2000; simp; omega
    by_cases h0 : f % 9223372036854775808 = 0
    · have hL : hexL f = sgn (decide (9223372036854775808 ≤ f)) ++ 48 :: [120, 48, 112, 48] := by
        unfold hexL
        rw [if_pos hsp, if_pos h0, sgL_sgn]
      obtain ⟨n1, n2, n3⟩ := no_spec (s := ⟨(hexL f).toArray⟩) hL
      refine ParseHex_of f _ W hz n1 n2 n3 (fun V hV => ?_) hH
      have := unhex_zero (decide (9223372036854775808 ≤ f)) ⟨(hexL f).toArray⟩ V (hW.below hV) hL
      have e : (if decide (9223372036854775808 ≤ f) = true then 9223372036854775808 else 0) = f := by
        by_cases c : 9223372036854775808 ≤ f
        · simp [c]; omega
        · simp [c]; omega
      rw [e] at this
      exact this
    · have hL : hexL f = sgn (decide (9223372036854775808 ≤ f)) ++ 48 :: ([120, 49] ++ pointL (oddM f) ++ 112 :: Lib.itoa (oddX f + (Lib.bitLen (oddM f) : Nat) - 1)) := by
        unfold hexL
        rw [if_pos hsp, if_neg h0, sgL_sgn]
        rfl
      obtain ⟨n1, n2, n3⟩ := no_spec (s := ⟨(hexL f).toArray⟩) hL
      exact ParseHex_of f _ W hz n1 n2 n3 (fun V hV => unhex_hex f _ V (hW.below hV) hf rfl hfin h0) hH
/-- Hex's text, read -/
theorem hex_back (f : Nat) (w : World) (hf : f < 18446744073709551616) (hT : Tab64 w) (hP : TabP w) : Calls Tryz.prog 7 #[.float .f64 f] w fun e w' => ∃ s : ByteArray, e = .returned (.string s) ∧ Below w.heap.size w w' ∧ ∀ W, Tab64 W → TabP W → Calls Tryz.prog 6 #[.string s] W fun e' W' => e' = .returned (.tuple #[.float .f64 (cnN f), .int .i64 0]) ∧ Below W.heap.size W W' := by
  refine (hex_any f w hT hP hf).mono ?_
  rintro e w' ⟨rfl, hb⟩
  exact ⟨_, rfl, hb, fun W hW hPW => hex_read f W hf hW hPW⟩
end Go.Proofs.YtgccfdfbnhldbaaGreatDoor.Nb

namespace Go.Proofs.YtgccfdfbnhldbaaGreatDoor.Nb
open Go Go.RowKit Nx

set_option maxRecDepth 8000 in
set_option maxHeartbeats 2000000 in
theorem numbers_any (A : Option Addr) (n c : Nat) (bs : List Nat) (w : World) (hT : Tab64 w) (hP : TabP w) (hn : bs.length = n) (hb : ∀ x ∈ bs, x < 18446744073709551616) (hc : ∀ i, i < n → ∃ b off, A = some ⟨b, off, none⟩ ∧ b < w.heap.size ∧ w.cell? ⟨b, off + i, none⟩ = some (.string ⟨(hexL (bs.getD i 0)).toArray⟩)) (hl : n ≤ 5000) :
    Calls Tryz.prog 60 #[.slice A n c] w fun e w' => (∃ v, e = .returned (.tuple #[v, .int .i64 0, .bool true]) ∧ w'.ownsRow w.heap.size 25 1 v n ((bs.map cnN).map fun b => .float .f64 b)) ∧ Below w.heap.size w w' := by
  have HC := Lib.hid hc
  have HN := Lib.hid hn
  have HB := Lib.hid hb
  have HT := Lib.hid (And.intro hT hP)
  clear hc hn hb hT hP
  go_enter Tryz.func60, Tryz.ntmps60
  go_wp2_with fail
  go_loopw [5, 12] (fun ov iv wr => ∃ (k : Nat), k ≤ n ∧ iv = .int .i64 (k : Int) ∧ Hid (wr.ownsRow w.heap.size 25 1 ov k (((bs.take k).map cnN).map fun b => .float .f64 b) ∧ Below w.heap.size w wr)) (fun _ iv _ => n - (intOf iv).toNat)
  case atStart => exact ⟨0, by omega, rfl, Lib.hid ⟨World.ownsRow_nil _ _ _ _, Below.refl _ _⟩⟩
  case round =>
    obtain ⟨k, hk, rfl, hh⟩ := hrel
    by_cases hlt : k < n
    · obtain ⟨b, off, rfl, hb, hcell⟩ := HC.out k hlt
      obtain ⟨y, hy⟩ : ∃ y, bs.getD k 0 = y := ⟨_, rfl⟩
      rw [hy] at hcell
      have hkl : k < bs.length := by have := HN.out; omega
      have hyk : bs[k] = y := by rw [List.getD_eq_getElem?_getD, List.getElem?_eq_getElem hkl] at hy; exact hy
      have HY := Lib.hid (show y < 18446744073709551616 ∧ bs.take (k + 1) = bs.take k ++ [y] by
        refine ⟨by rw [← hyk]; exact HB.out _ (List.getElem_mem hkl), ?_⟩
        rw [List.take_add_one, List.getElem?_eq_getElem hkl, hyk]
        rfl)
      have hcr := (hh.out.2.cell (p := ⟨b, off + k, none⟩) hb).trans hcell
      have hki : (k : Int) < (n : Int) := by omega
      clear hcell hy hkl hyk
      obtain ⟨S, hS⟩ : ∃ S : ByteArray, (⟨(hexL y).toArray⟩ : ByteArray) = S := ⟨_, rfl⟩
      have HR := fun W (h1 : Tab64 W) (h2 : TabP W) => hex_read y W HY.out.1 h1 h2
      rw [hS] at hcr HR
      obtain ⟨q, hq⟩ : ∃ q, cnN y = q := ⟨_, rfl⟩
      rw [hq] at HR
      have HQ := Lib.hid hq
      have HR := Lib.hid HR
      clear hS hq
      go_wp2_with fail
      refine (HR.out wr (HT.out.1.below hh.out.2) (HT.out.2.below hh.out.2 HT.out.2.2)).mono ?_
      rintro e w1 ⟨rfl, b1⟩
      have H1 := Lib.hid (And.intro (ownsRow_below hh.out.1 b1) (back_of' hh.out.2 b1))
      clear b1 hcr
      obtain ⟨i0, hi0, hz0, hz1, hz2⟩ := info_parts infoF
      have HBX := Lib.hid ((Below.refl w1.heap.size w1).alloc (Nat.le_refl _) (.cells #[.float .f64 q] 25))
      have HRX := Lib.hid (ownsRow_below H1.out.1 HBX.out)
      have hwr := H1.out.2.size
      go_wp2_with (at_builtin; refine wpList_append_own _ rfl _ _ 39 rfl w.heap.size 25 i0 _ 1 8 Tryz.underlying39 hi0 hz0 hz1 hz2 rfl (by omega) u5 k _ rfl HRX.out ⟨w1.heap.size, 0, none⟩ 1 1 [.float .f64 q] rfl rfl (float_new _ _ _) (by simp [Value.oneCell']) (by simp only [maxLen]; omega) (by omega) (Nat.le_trans hwr HBX.out.size) ?_; intro v' w3 hr3 hg3 ha3; have HR3 := Lib.hid (And.intro hr3 hg3); clear hr3 hg3 ha3)
      go_roundw
      case rel =>
        refine ⟨k + 1, by omega, by go_num, Lib.hid ⟨?_, (H1.out.2.trans (HBX.out.mono hwr)).grown HR3.out.2 (Nat.le_trans hwr HBX.out.size) (ownsRow_base H1.out.1)⟩⟩
        have h1 := HR3.out.1
        rw [HY.out.2, List.map_append, List.map_append]
        rw [← HQ.out] at h1
        exact h1
      case measure => simp [intOf]; omega
    · have hkn : k = n := by omega
      subst hkn
      go_wp2_with fail
      go_ret3
      have h1 := hh.out.1
      rw [List.take_of_length_le (by have := HN.out; omega)] at h1
      exact ⟨⟨_, rfl, h1⟩, hh.out.2⟩
end Go.Proofs.YtgccfdfbnhldbaaGreatDoor.Nb

namespace Go.Proofs.YtgccfdfbnhldbaaGreatDoor.Nb
open Go Nx

theorem NoSp.app {a b : List UInt8} (h : NoSp a) (h' : NoSp b) : NoSp (a ++ b) := fun x hx => (List.mem_append.1 hx).elim (h x) (h' x)
theorem NoSp.cons {c : UInt8} {b : List UInt8} (h : c ≠ 32) (h' : NoSp b) : NoSp (c :: b) := fun x hx => by
  rcases List.mem_cons.1 hx with rfl | q
  · exact h
  · exact h' x q
theorem nosp_nil : NoSp [] := fun _ h => by cases h
theorem nosp_dig {l : List UInt8} (h : IsDig l) : NoSp l := fun x hx e => by
  have := h x hx
  rw [e] at this
  have e32 : (32 : UInt8).toNat = 32 := rfl
  omega
theorem nosp_hx {l : List UInt8} (h : ∀ b ∈ l, IsHx b) : NoSp l := fun x hx e => by
  have := h x hx
  rw [e] at this
  unfold IsHx at this
  have e32 : (32 : UInt8).toNat = 32 := rfl
  omega
theorem nosp_itoa (e : Int) : NoSp (Lib.itoa e) := by
  unfold Lib.itoa
  split
  · exact .cons (by decide) (nosp_dig (dec_digs _))
  · exact nosp_dig (dec_digs _)
theorem nosp_spec (f : Nat) : NoSp (specL f) := by
  unfold specL
  (repeat' split)
  · exact .cons (by decide) (.cons (by decide) (.cons (by decide) nosp_nil))
  · exact .cons (by decide) (.cons (by decide) (.cons (by decide) (.cons (by decide) nosp_nil)))
  · exact .cons (by decide) (.cons (by decide) (.cons (by decide) (.cons (by decide) nosp_nil)))
  · exact nosp_nil
/-- no form has a space in it -/
theorem hexL_sp (f : Nat) (hf : f < 18446744073709551616) : NoSp (hexL f) := by
  unfold hexL
  split
  · rename_i hsp
    have hfin := (spec_fin hf).1 hsp
    refine .app (by unfold sgL; split; exact .cons (by decide) nosp_nil; exact nosp_nil) ?_
    split
    · exact .cons (by decide) (.cons (by decide) (.cons (by decide) (.cons (by decide) (.cons (by decide) nosp_nil))))
    · rename_i h0
      obtain ⟨t, ht⟩ := finN (f := f) hf (by omega) (by omega)
      have hr : fracR (oddM f) < 4503599627370496 := (hexm (oddM f) ht.od ht.up).rl
      unfold numL
      refine .app (.app (.cons (by decide) (.cons (by decide) (.cons (by decide) nosp_nil))) ?_) (.cons (by decide) (nosp_itoa _))
      unfold pointL
      split
      · exact nosp_nil
      · exact .cons (by decide) (nosp_hx (digs_hx 13 _ hr))
  · exact nosp_spec f
end Go.Proofs.YtgccfdfbnhldbaaGreatDoor.Nb

namespace Go.Proofs.YtgccfdfbnhldbaaGreatDoor.Nb
open Go Nx

theorem countS_join : ∀ (l : List (List UInt8)) (p : List UInt8), NoSp p → (∀ q ∈ l, NoSp q) → Lib.count (joinS p l) [32] = l.length
  | [], p, hp, _ => Lib.count_miss (index_no p hp)
  | q :: l, p, hp, hl => by
    unfold joinS
    rw [Lib.count_hit (by simp) (index_sp p _ hp)]
    have e : (p ++ 32 :: joinS q l).drop (p.length + ([32] : List UInt8).length) = joinS q l := by
      rw [← List.drop_drop, List.drop_left]
      rfl
    rw [e, countS_join l q (hl q List.mem_cons_self) (fun x hx => hl x (List.mem_cons_of_mem _ hx)), List.length_cons]
    omega
/-- a joined text, split at every space -/
theorem splitB_join (s : ByteArray) (p : List UInt8) (l : List (List UInt8)) (hs : s.data.toList = joinS p l) (hp : NoSp p) (hl : ∀ q ∈ l, NoSp q) :
    Lib.countB s ⟨#[32]⟩ = l.length ∧ (Lib.splitB ⟨#[32]⟩ 0 (Lib.countB s ⟨#[32]⟩) s).map (·.data.toList) = p :: l := by
  have h1 : Lib.countB s ⟨#[32]⟩ = l.length := by
    show Lib.count s.data.toList [32] = _
    rw [hs]
    exact countS_join l p hp hl
  refine ⟨h1, ?_⟩
  rw [h1, Lib.splitB_data, hs]
  exact split_join l p _ hp hl (Nat.le_refl _)
end Go.Proofs.YtgccfdfbnhldbaaGreatDoor.Nb

namespace Go.Proofs.YtgccfdfbnhldbaaGreatDoor.Nb
open Go Go.RowKit Nx

set_option maxRecDepth 100000 in
set_option maxHeartbeats 1000000 in
theorem ParseList_join (f : Nat) (bs : List Nat) (s : ByteArray) (m : Int) (w : World) (hT : Tab64 w) (hP : TabP w) (hm : w.cell? ⟨1, 0, none⟩ = some (.int .i64 m)) (hs : s.data.toList = listL [] (f :: bs)) (hsz : s.size < 4294967281) (hl : bs.length < 4096) (hb : ∀ x ∈ f :: bs, x < 18446744073709551616) :
    Calls Tryz.prog 18 #[.string s] w fun e w' => (∃ v, e = .returned (.tuple #[v, .int .i64 0, .int .i64 0]) ∧ w'.ownsRow (w.heap.size + 1) 25 1 v (bs.length + 1) (((f :: bs).map cnN).map fun b => .float .f64 b)) ∧ Below w.heap.size w w' := by
  have hj := hs
  rw [listL_nil] at hj
  have hsp : NoSp (hexL f) := hexL_sp f (hb f List.mem_cons_self)
  have hsl : ∀ q ∈ bs.map hexL, NoSp q := fun q hq => by
    obtain ⟨x, hx, rfl⟩ := List.mem_map.1 hq
    exact hexL_sp x (hb x (List.mem_cons_of_mem _ hx))
  obtain ⟨h1, h2⟩ := splitB_join s _ _ hj hsp hsl
  have hcn : Lib.countByte s.data.toList 32 = bs.length := by
    show s.data.toList.count 32 = _
    rw [hj, count_join _ _ hsp hsl, List.length_map]
  have hne : (s.toList == []) = false := by
    rw [Lib.toList_data, hs]
    have : listL [] (f :: bs) ≠ [] := by
      rw [listL_nil]
      cases bs with
      | nil => exact hexL_ne f
      | cons a t => simp [joinS]
    simp [this]
  have HC := Lib.hid (fun W => Tryz.strings_Count_one s 32 W)
  rw [hcn] at HC
  have HS := Lib.hid (Tryz.strings_Split s ⟨#[32]⟩ m w hsz hm (by decide))
  have hlt : ¬ ((4096 : Int) ≤ (bs.length : Int)) := by omega
  have HT := Lib.hid (And.intro hT hP)
  have HLL := Lib.hid hl
  clear hT hP hj hsz hl hm hcn
  go_enter Tryz.func18, Tryz.ntmps18
  go_wp2_with fail
  refine (HC.out w).mono ?_
  rintro e w1 ⟨rfl, hw⟩
  obtain rfl := hw.symm
  go_wp2_with fail
  refine HS.out.mono ?_
  rintro e w2 ⟨rfl, hw2⟩
  have HB2 : Hid (Below w.heap.size w w2) := Lib.hid (by rw [hw2]; exact (Below.refl _ _).alloc (Nat.le_refl _) _)
  have hsz2 : w2.heap.size = w.heap.size + 1 := by rw [hw2]; simp
  have HZ2 := Lib.hid hsz2
  clear hsz2
  have HCell : Hid (∀ i, i < bs.length + 1 → ∃ b off, (some ⟨w.heap.size, 0, none⟩ : Option Addr) = some ⟨b, off, none⟩ ∧ b < w2.heap.size ∧ w2.cell? ⟨b, off + i, none⟩ = some (.string ⟨(hexL ((f :: bs).getD i 0)).toArray⟩)) := Lib.hid (by
    intro i hi
    refine ⟨w.heap.size, 0, rfl, by have := HZ2.out; omega, ?_⟩
    have h3 : ((Lib.splitB ⟨#[32]⟩ 0 (Lib.countB s ⟨#[32]⟩) s)[i]?).map (·.data.toList) = ((f :: bs).map hexL)[i]? := by rw [← List.getElem?_map, h2]; rfl
    have hi' : i < (f :: bs).length := by simpa using hi
    rw [List.getElem?_map, List.getElem?_eq_getElem hi'] at h3
    obtain ⟨q, hq, hqd⟩ := Option.map_eq_some_iff.1 h3
    rw [List.getD_eq_getElem?_getD, List.getElem?_eq_getElem hi', hw2]
    have hqe : q = ⟨(hexL (f :: bs)[i]).toArray⟩ := bytes_eq hqd
    simp [go_sem, hq, hqe])
  have HNb := Lib.hid (numbers_any (some ⟨w.heap.size, 0, none⟩) (bs.length + 1) (bs.length + 1) (f :: bs) w2 (HT.out.1.below HB2.out) (HT.out.2.below HB2.out HT.out.2.2) (by simp) hb HCell.out (by have := HLL.out; omega))
  rw [h1, List.length_map]
  clear hw2 h1 h2
  go_wp2_with fail
  refine HNb.out.mono ?_
  rintro e w3 ⟨⟨v, rfl, hv⟩, b3⟩
  have HF := Lib.hid (And.intro hv (back_of' HB2.out b3))
  clear hv b3
  go_wp2_with fail
  go_ret3
  rw [← HZ2.out]
  exact ⟨⟨v, rfl, HF.out.1⟩, HF.out.2⟩
end Go.Proofs.YtgccfdfbnhldbaaGreatDoor.Nb

namespace Go.Proofs.YtgccfdfbnhldbaaGreatDoor.Nb
open Go Go.RowKit Nx

theorem atoi_small : ∀ k : Fin 13, Lib.atoi (Lib.itoa ((k.val : Nat) : Int)) = some ((k.val : Nat) : Int) ∧ (Lib.itoa ((k.val : Nat) : Int)).length ≤ 2 := by decide +kernel
set_option maxRecDepth 8000 in
theorem size_any (k : Nat) (s : ByteArray) (w : World) (hs : s = ⟨(Lib.itoa (k : Int)).toArray⟩) (hk : k ≤ 12) (hP : TabP w) :
    Calls Tryz.prog 63 #[.string s] w fun e w' => e = .returned (.tuple #[.int .i64 (k : Int), .bool true]) ∧ Below w.heap.size w w' := by
  obtain ⟨h1, h2⟩ := atoi_small ⟨k, by omega⟩
  have hd : s.data.toList = Lib.itoa (k : Int) := by rw [hs]
  have HA := Lib.hid (Tryz.strconv_Atoi s (k : Int) (by rw [← size_list, hd]; simp only at h2; omega) (by rw [hd]; exact h1))
  have HI := Lib.hid (fun W (hW : TabP W) => itoa_any (k : Int) W (by omega) (by omega) hW)
  rw [← hs] at HI
  have heq : (s.toList == s.toList) = true := by simp
  have hk0 : ¬ (k : Int) < 0 := by omega
  have hk1 : ¬ (12 : Int) < (k : Int) := by omega
  have HP := Lib.hid hP
  clear hs hd h1 h2 hP
  go_enter Tryz.func63, Tryz.ntmps63
  go_wp2_with fail
  refine (HA.out w).mono ?_
  rintro e w1 ⟨rfl, t, rfl⟩
  have H1 := Lib.hid (Lib.bytesWorld_below w 5 t)
  generalize Lib.bytesWorld w 5 t = w1 at *
  go_wp2_with fail
  refine (HI.out w1 (HP.out.below H1.out HP.out.2)).mono ?_
  rintro e w2 ⟨rfl, b2⟩
  have H2 := Lib.hid (back_of' H1.out b2)
  clear b2
  go_wp2_with fail
  go_ret2
  exact ⟨rfl, H2.out⟩
end Go.Proofs.YtgccfdfbnhldbaaGreatDoor.Nb
