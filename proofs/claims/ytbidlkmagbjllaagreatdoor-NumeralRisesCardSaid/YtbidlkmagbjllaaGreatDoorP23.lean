/- R5 in one text. -/
import Derived.Test.YtbidlkmagbjllaaGreatDoorP20
import Derived.Test.YtbidlkmagbjllaaGreatDoorP22
import Derived.Test.YtbidlkmagbjllaaGreatDoorP09
import Derived.Test.YtbidlkmagbjllaaGreatDoorP06
import Derived.Deep.CutBlock

namespace Go.Proofs.YtbidlkmagbjllaaGreatDoor.Bg
open Go Go.RowKit

theorem lz32_spec {y : Nat} (h0 : 0 < y) (h1 : y < 4294967296) : ∃ s : Nat, (32 : Int) - (Lib.bitLen y : Int) = (s : Int) ∧ s ≤ 31 ∧ 2147483648 ≤ y * 2 ^ s ∧ y * 2 ^ s < 4294967296 := by
  have hb : Lib.bitLen y = Lib.bitLenAux 64 y := rfl
  obtain ⟨a1, a2, a3⟩ := Lib.bitLenAux_bounds 64 y (by have : (2 : Nat) ^ 64 = 18446744073709551616 := by decide
                                                       omega) (by omega)
  have a4 : Lib.bitLenAux 64 y ≤ 32 := by
    refine Nat.not_lt.1 fun hlt => ?_
    have : (2 : Nat) ^ 32 ≤ 2 ^ (Lib.bitLenAux 64 y - 1) := Nat.pow_le_pow_right (by omega) (by omega)
    omega
  rw [hb]
  generalize Lib.bitLenAux 64 y = L at *
  refine ⟨32 - L, by omega, by omega, ?_, ?_⟩
  · have : 2 ^ (L - 1) * 2 ^ (32 - L) = 2 ^ 31 := by rw [← Nat.pow_add]; congr 1; omega
    have := Nat.mul_le_mul_right (2 ^ (32 - L)) a2
    omega
  · have : 2 ^ L * 2 ^ (32 - L) = 2 ^ 32 := by rw [← Nat.pow_add]; congr 1; omega
    have := Nat.mul_lt_mul_of_pos_right a3 (Nat.two_pow_pos (32 - L))
    omega
theorem lz32 (y s : Nat) (w : World) (hy : y < 4294967296) (hs : (32 : Int) - (Lib.bitLen y : Int) = (s : Int)) :
    Calls Tryz.prog 168 #[.int .u32 (y : Int)] w fun e w' => e = .returned (.int .i64 (s : Int)) ∧ w = w' := by
  have h := Tryz.bits_LeadingZeros32 (y : Int) w (by omega) (by omega)
  rw [Int.toNat_natCast, hs] at h
  exact h.mono fun e w' ⟨a, b⟩ => ⟨a, b.symm⟩
/-- a number of two words -/
theorem MagN.pair {w : World} {v : Value} {D L : Nat} (h : MagN w v D L) (h1 : 4294967296 ≤ D) (h2 : D < 18446744073709551616) : ∃ b off c d0 d1, v = .slice (some ⟨b, off, none⟩) 2 c ∧ Mag w v [d0, d1] ∧ D = d0 + 4294967296 * d1 ∧ d0 < 4294967296 ∧ d1 < 4294967296 ∧ 0 < d1 ∧ b < w.heap.size := by
  obtain ⟨ws, hm, hn, hv, -⟩ := h
  have hw := hm.w32
  have hl2 := norm_len_le (L := 2) hn (by rw [hv]; exact h2)
  have hlt := val_lt hw
  rw [hv] at hlt
  match ws, hl2 with
  | [], _ => simp at hlt; omega
  | [x], _ => simp at hlt; omega
  | [x, y], _ =>
    have hm' := hm
    obtain ⟨A, c, rfl, h3, h4, h5, h6⟩ := hm
    obtain ⟨b, off, rfl, hb, -⟩ := h6 (by simp)
    simp only [val] at hv
    have w0 : x < 4294967296 := hw.get 0
    have w1 : y < 4294967296 := hw.get 1
    exact ⟨b, off, c, x, y, rfl, hm', by omega, w0, w1, by omega, hb⟩
/-- moved up by s the first bit of two words stands -/
theorem pair_norm {D d0 d1 s : Nat} (h : D = d0 + 4294967296 * d1) (h0 : d0 < 4294967296) (hs : s ≤ 31) (y0 : 2147483648 ≤ d1 * 2 ^ s) (y1 : d1 * 2 ^ s < 4294967296) : 9223372036854775808 ≤ D * 2 ^ s ∧ D * 2 ^ s < 18446744073709551616 := by
  have e : D * 2 ^ s = d0 * 2 ^ s + 4294967296 * (d1 * 2 ^ s) := by rw [h, Nat.add_mul, Nat.mul_assoc]
  have h1 : d1 * 2 ^ s + 2 ^ s ≤ 4294967296 := by
    have h2 := two32 s (by omega)
    have : d1 < 2 ^ (32 - s) := by
      rw [h2, Nat.mul_comm] at y1
      exact Nat.lt_of_mul_lt_mul_left y1
    have h3 := Nat.mul_le_mul_right (2 ^ s) (show d1 + 1 ≤ 2 ^ (32 - s) from this)
    rw [Nat.add_mul, Nat.one_mul, Nat.mul_comm (2 ^ (32 - s)), ← h2] at h3
    exact h3
  have h4 : d0 * 2 ^ s < 4294967296 * 2 ^ s := Nat.mul_lt_mul_of_pos_right h0 (Nat.two_pow_pos s)
  omega

theorem left_small (A : Option Addr) (M ca s : Nat) (m : List Nat) (w : World) (hm : Mag w (.slice A M ca) m) (hl : M ≤ 536870912) (hs : s < 32) (hM : 0 < M) :
    Calls Tryz.prog 115 #[.slice A M ca, .int .u64 (s : Int)] w fun e w' => ∃ k os, e = .returned (.slice (some ⟨w.heap.size, 0, none⟩) k (M + 1)) ∧ (Blk w' w.heap.size os ∧ W32 os ∧ os.length = M + 1 ∧
      val os = val m * 2 ^ s ∧ MagN w' (.slice (some ⟨w.heap.size, 0, none⟩) k (M + 1)) (val os) (M + 1)) ∧ Below w.heap.size w w' := by
  refine (left_core A M ca 0 s s m w hm (by omega) hs (by omega) hM).mono ?_
  rintro e w' ⟨k, os, h1, h2, h3, h4, h5, h6, h7⟩
  rw [Nat.zero_add] at h1 h4 h6
  rw [Nat.pow_zero, Nat.one_mul] at h5
  exact ⟨k, os, h1, ⟨h2, h3, h4, h5, h6⟩, h7⟩

theorem setRow_same (w : World) (g : Nat) (os : List Nat) (h : Blk w g os) : w.setRow g (cellsW os) = w := by
  unfold Blk at h
  have e : (w.setRow g (cellsW os)).heap = w.heap := by
    apply Array.ext_getElem?
    intro i
    unfold World.setRow
    simp only
    rw [Array.getElem?_modify]
    split
    · rename_i e
      subst e
      rw [h]; rfl
    · rfl
  cases w
  unfold World.setRow at *
  simp only at e
  simp only [e]

theorem Blk.below {w w' : World} {g : Nat} {os : List Nat} (h : Blk w g os) (hb : Below w.heap.size w w') : Blk w' g os := by
  have := hb.block g h.lt
  unfold Blk at *
  rw [this]; exact h
theorem Blk.alloc {w : World} {g : Nat} {os : List Nat} (h : Blk w g os) (o : Obj) : Blk (w.alloc o) g os := h.below ((Below.refl _ _).alloc (Nat.le_refl _) _)
theorem vals_zero {os : List Nat} {k : Nat} (hk : k < os.length) (hz : os.getD k 0 = 0) : (vals os).take k ++ [Value.int .u32 0] ++ (vals os).drop (k + 1) = vals os := by
  have h := vals_get hk
  rw [hz] at h
  have hl : k < (vals os).length := by simp [vals]; exact hk
  have h2 : (vals os)[k] = Value.int .u32 0 := by
    have := List.getElem?_eq_getElem hl
    rw [h] at this
    injection this with this
    exact this.symm
  rw [List.append_assoc, List.singleton_append, ← h2, ← List.drop_eq_getElem_cons hl, List.take_append_drop]
theorem run_append_zero (w : World) (g h k n : Nat) (os : List Nat) (hb : Blk w g os) (hn : os.length = n) (hk : k < n) (hz : os.getD k 0 = 0) (hc : w.cell? ⟨h, 0, none⟩ = some (.int .u32 0)) (ty : TypeId) :
    (Builtin.append_ #[39, 39] ty #[.slice (some ⟨g, 0, none⟩) k n, .slice (some ⟨h, 0, none⟩) 1 1]).run Tryz.prog w = .ok (.slice (some ⟨g, 0, none⟩) (k + 1) n) w := by
  obtain ⟨i0, hi0, hz0, hz1, hz2⟩ := info_parts infoW
  have hh := run_append_room (P := Tryz.prog) w 39 ty 88 i0 Tryz.underlying39 hi0 g k n (cellsW os) hb ⟨h, 0, none⟩ 1 1 [.int .u32 0] (by rw [hz1]; rfl) (fun j u hu => by
      match j, hu with
      | 0, hu => simp at hu; rw [← hu, Go.WideShapes.add_plain]; exact hc) (fun u hu => by simp at hu; rw [hu]; rfl) (by omega) (by simp [cellsW, hz1]; omega)
  rw [hh]
  have e : ((cellsW os).toList.take (k * i0.size) ++ [Value.int .u32 0] ++ (cellsW os).toList.drop (k * i0.size + [Value.int .u32 0].length)).toArray = cellsW os := by
    have := vals_zero (by omega) hz
    unfold cellsW vals at *
    rw [hz1, Nat.mul_one]
    simp only [List.length_singleton]
    rw [this]
  rw [e, setRow_same w g os hb]
section
variable (w : World)
theorem wp_append_zero {o : Oper} {a : Act} {K : Act → World → Prop} {Q : Exit → Act → World → Prop} (s x : Operand)
    (ho : o.op = .call { callee := .builtin .append, args := #[s, x], argTypes := #[39, 39] }) (g h k n : Nat) (os : List Nat) (hs : a.eval s = .slice (some ⟨g, 0, none⟩) k n) (hx : a.eval x = .slice (some ⟨h, 0, none⟩) 1 1)
    (hb : Blk w g os) (hn : os.length = n) (hk : k < n) (hz : os.getD k 0 = 0) (hc : w.cell? ⟨h, 0, none⟩ = some (.int .u32 0))
    (hK : K (a.put o.dst (.slice (some ⟨g, 0, none⟩) (k + 1) n)) w) : o.wp Tryz.prog a w K Q := by
  have hrun := run_append_zero w g h k n os hb hn hk hz hc o.type
  unfold Oper.wp execOp
  simp only [ho, resolve, invoke, builtin, Sem.run_bind, Sem.run_pure, Result.andThen_ok, List.map_toArray, List.map_cons, List.map_nil, hs, hx, hrun]
  exact hK
theorem wpList_append_zero {ops : Array Oper} {rest : List Oper} {o : Oper} {a : Act} {Q : Exit → Act → World → Prop} (hgd : o.guard = none) (s x : Operand)
    (ho : o.op = .call { callee := .builtin .append, args := #[s, x], argTypes := #[39, 39] }) (g h k n : Nat) (os : List Nat) (hs : a.eval s = .slice (some ⟨g, 0, none⟩) k n) (hx : a.eval x = .slice (some ⟨h, 0, none⟩) 1 1)
    (hb : Blk w g os) (hn : os.length = n) (hk : k < n) (hz : os.getD k 0 = 0) (hc : w.cell? ⟨h, 0, none⟩ = some (.int .u32 0))
    (hK : wpList Tryz.prog ops Q rest (a.put o.dst (.slice (some ⟨g, 0, none⟩) (k + 1) n)) w) : wpList Tryz.prog ops Q (o :: rest) a w :=
  wpList_plain hgd fun _ hK' => wp_append_zero w s x ho g h k n os hs hx hb hn hk hz hc (hK' _ _ hK)
end

theorem over_len {s k : Nat} {am os ws : List Nat} (han : Norm am) (ho : val os = val am * 2 ^ s) (hw : W32 ws) (hk : ws.length = k) (_hn : Norm ws) (hws : val ws = val os) (hos : W32 os) (_hol : os.length = am.length + 1) (hm : 0 < am.length) :
    am.length ≤ k ∧ (k ≤ am.length → os.getD am.length 0 = 0) := by
  have h1 := norm_ge han hm
  have h2 := val_lt hw
  rw [hws, ho, hk] at h2
  have h3 : val am ≤ val am * 2 ^ s := Nat.le_mul_of_pos_right _ (Nat.two_pow_pos s)
  have h4 : am.length ≤ k := by
    refine Nat.not_lt.1 fun hlt => ?_
    have : 4294967296 ^ k ≤ 4294967296 ^ (am.length - 1) := Nat.pow_le_pow_right (by omega) (by omega)
    omega
  refine ⟨h4, fun h5 => ?_⟩
  have e : k = am.length := by omega
  rw [← ho, e] at h2
  have h6 := drop_zero_of_lt hos h2
  have h7 := val_drop_one os am.length
  omega

theorem or_hi2 {a b : Nat} (ha : a < 4294967296) (hb : b < 4294967296) : bits .or .u64 ((a : Int) * 4294967296) (b : Int) = ((a * 4294967296 + b : Nat) : Int) := by
  have e : ((a : Int) * 4294967296) = ((a * 4294967296 : Nat) : Int) := by omega
  rw [e, u64_or_nat _ b (by omega) (by omega)]
  rw [show a * 4294967296 = a <<< 32 by rw [Nat.shiftLeft_eq], ← Nat.shiftLeft_add_eq_or_of_lt (by omega : b < 2 ^ 32)]
theorem or_hi3 {r : Int} {b : Nat} (h0 : 0 ≤ r) (h1 : r < 4294967296) (hb : b < 4294967296) : bits .or .u64 (r * 4294967296) (b : Int) = 4294967296 * r + (b : Int) := by
  obtain ⟨a, rfl⟩ := Int.eq_ofNat_of_zero_le h0
  rw [or_hi2 (by omega) hb]
  omega
theorem drewN_two (w : World) (a b : Nat) : (w.drewN a).drewN b = w.drewN (a + b) := by simp [go_sem]
theorem Blk.mag2 {w : World} {g : Nat} {os : List Nat} {e0 e1 : Nat} (h : Blk w g os) (hl : os.length = 3) (h0 : os.getD 0 0 = e0) (h1 : os.getD 1 0 = e1) (w0 : e0 < 4294967296) (w1 : e1 < 4294967296) : Mag w (.slice (some ⟨g, 0, none⟩) 2 3) [e0, e1] := by
  refine ⟨_, 3, rfl, by simp, by omega, ?_, fun _ => ⟨g, 0, rfl, h.lt, fun j hj => ?_⟩⟩
  · intro z hz
    simp only [List.mem_cons, List.not_mem_nil, or_false] at hz
    omega
  · have hj' : j < 2 := hj
    rw [Nat.zero_add, h.cell (by omega)]
    match j, hj' with
    | 0, _ => rw [h0]; rfl
    | 1, _ => rw [h1]; rfl
theorem norm_words {os : List Nat} {d s e0 e1 : Nat} (hw : W32 os) (_hl : os.length = 3) (hv : val os = d * 2 ^ s) (n0 : 9223372036854775808 ≤ d * 2 ^ s) (n1 : d * 2 ^ s < 18446744073709551616) (h0 : os.getD 0 0 = e0) (h1 : os.getD 1 0 = e1) :
    d * 2 ^ s = e1 * 4294967296 + e0 ∧ 2147483648 ≤ e1 := by
  have a0 := val_drop_one os 0
  have a1 := val_drop_one os 1
  have w0 := hw.get 0
  have w1 := hw.get 1
  rw [List.drop_zero, h0] at a0
  rw [h1] at a1
  rw [h0] at w0
  rw [h1] at w1
  simp only [Nat.zero_add] at a0
  rw [a1] at a0
  rw [hv] at a0
  omega

def OvW (w : World) (g1 g2 g3 M : Nat) (ds : List Nat) (X D i : Nat) (wr : World) : Prop :=
  ∃ us qs, Blk wr g1 ds ∧ Blk wr g2 us ∧ Blk wr g3 qs ∧ us.length = M + 1 ∧ qs.length = M - 1 ∧ W32 us ∧ W32 qs ∧ OverSt X D us qs i ∧ Below w.heap.size w wr

theorem Only.blk {a b : World} {g g' : Nat} {os : List Nat} (h : Only a g b) (hb : Blk a g' os) (hne : g' ≠ g) : Blk b g' os := by
  have := World.grownBy.block h g' hb.lt (fun e => hne (by injection e))
  unfold Blk at *
  rw [this]; exact hb
theorem ov_step {w wr w8 : World} {g1 g2 g3 M X DD jj G nn : Nat} {ds us os qs : List Nat} (b1 : Blk wr g1 ds) (b3 : Blk wr g3 qs) (l3 : qs.length = M - 1) (wqs : W32 qs) (hov : OverSt X DD us qs (jj + 1)) (hbl : Below w.heap.size w wr)
    (hon : Only (wr.drewN nn) g2 w8) (b2 : Blk w8 g2 os) (l2 : os.length = M + 1) (wos : W32 os) (he : val os + 4294967296 ^ jj * (G * DD) = val us) (hlt : val os < DD * 4294967296 ^ jj) (hG : G < 4294967296) (hj : jj < qs.length)
    (h12 : g1 ≠ g2) (h32 : g3 ≠ g2) (h13 : g1 ≠ g3) (hg2 : w.heap.size ≤ g2) (hg3 : w.heap.size ≤ g3) : OvW w g1 g2 g3 M ds X DD jj (w8.setCell ⟨g3, jj, none⟩ (.int .u32 (G : Nat))) := by
  have c1 := hon.blk (b1.drewN nn) h12
  have c3 := hon.blk (b3.drewN nn) h32
  have hset : Only w8 g3 (w8.setCell ⟨g3, jj, none⟩ (.int .u32 (G : Nat))) := (Only.refl w8 g3).setCell jj _
  refine ⟨os, qs.set jj G, hset.blk c1 h13, hset.blk b2 (Ne.symm h32), c3.set jj G, l2, by rw [List.length_set]; exact l3, wos, wqs.set hG, over_step hov hj he hlt, ?_⟩
  have h1 : Below w.heap.size w (wr.drewN nn) := below_dN hbl nn
  exact (h1.trans (hon.below hg2 (by exact hbl.size))).setCell (p := ⟨g3, jj, none⟩) hg3 _

set_option maxRecDepth 8000 in
set_option maxHeartbeats 8000000 in
theorem over_two_core (u v : Value) (m d L : Nat) (w : World) (hu : MagN w u m L) (hv : MagN w v d 2) (hL : L ≤ 268435456) (hd : 4294967296 ≤ d) (hd' : d < 18446744073709551616) (hge : d ≤ m) (hL2 : 2 ≤ L) :
    Calls Tryz.prog 114 #[u, v] w fun e w' => ∃ q r, e = .returned (.tuple #[q, r]) ∧ MagN w' q (m / d) L ∧ MagN w' r (m % d) 2 ∧ Below w.heap.size w w' := by
  have hc := compare_any u v m d L w hu (hv.more hL2) (by omega)
  obtain ⟨c, hcv, hc0⟩ : ∃ c, cmpN m d = c ∧ 0 ≤ c := ⟨_, rfl, by unfold cmpN; split <;> (try split) <;> omega⟩
  rw [hcv] at hc
  have HC := Lib.hid hc
  obtain ⟨bd, od, cd, d0, d1, rfl, hmd, hdd, hd0, hd1, hd1p, hbd⟩ := hv.pair hd hd'
  obtain ⟨s, hs, hs31, y0, y1⟩ := lz32_spec hd1p hd1
  have hlz := fun W => lz32 d1 s W hd1 hs
  obtain ⟨n0, n1⟩ := pair_norm hdd hd0 hs31 y0 y1
  obtain ⟨am, ha, han, hav, hal⟩ := hu
  have haw := ha.w32
  have hM2 : 2 ≤ am.length := by
    have h1 := val_lt haw
    rcases Nat.lt_or_ge am.length 2 with h2 | h2
    · have : 4294967296 ^ am.length ≤ 4294967296 ^ 1 := Nat.pow_le_pow_right (by omega) (by omega)
      omega
    · exact h2
  have ha' := ha
  obtain ⟨A, ca, rfl, -⟩ := ha
  obtain ⟨M, hM⟩ : ∃ M, am.length = M := ⟨_, rfl⟩
  rw [hM] at hM2 ha' hc hal HC ⊢
  have hc1 := (hmd.at (j := 1) (by omega))
  obtain ⟨bx, ox, ex, -, hc1⟩ := hc1
  injection ex with ex
  injection ex with ex1 ex2 _
  subst ex1 ex2
  have hc1 : w.cell? ⟨bd, od + 1, none⟩ = some (.int .u32 (d1 : Nat)) := hc1
  have HLZ := Lib.hid hlz
  have HMD := Lib.hid hmd
  have HMA := Lib.hid ha'
  have HN := Lib.hid (And.intro n0 n1)
  have HMM := Lib.hid hM
  have HS := Lib.hid (And.intro hdd (And.intro hs (And.intro y0 (And.intro y1 hav))))
  have hsi : (s : Int) ≤ 31 := by omega
  have hMi : (M : Int) ≤ 536870912 := by omega
  have hci : ¬ c < 0 := by omega
  clear hc hcv hdd hs y0 y1 hav hlz hmd ha' n0 n1 hM
  go_enter Tryz.func114, Tryz.ntmps114
  go_wp2_with fail
  refine HC.out.mono ?_
  rintro e w1 ⟨rfl, j, rfl⟩
  go_wp2_with (first | (go_at_call 168; refine (HLZ.out _).mono ?_; rintro e w' ⟨rfl, rfl⟩) | (go_at_call_of 115 (Value.slice (some ⟨bd, od, none⟩) 2 cd); refine (left_small _ 2 cd s [d0, d1] _ (HMD.out.drewN j) (by omega) (by omega) (by omega)).mono ?_; rintro e w2 ⟨k1, os1, rfl, hf1, hb1⟩; have HF1 := Lib.hid (show Blk w2 w.heap.size os1 ∧ W32 os1 ∧ os1.length = 3 ∧ val os1 = val [d0, d1] * 2 ^ s ∧ MagN w2 (.slice (some ⟨w.heap.size, 0, none⟩) k1 3) (val os1) 3 from hf1); have HB1 := Lib.hid ((below_dN (Below.refl w.heap.size w) j).trans hb1); clear hf1 hb1) | (go_at_call_of 115 (Value.slice A M ca); refine (left_small _ M ca s am _ (HMA.out.below HB1.out) (by omega) (by omega) (by omega)).mono ?_; rintro e w3 ⟨k2, os2, rfl, hf2, hb2⟩; have HF2 := Lib.hid hf2; have HB2 := Lib.hid hb2; clear hf2 hb2))
  have hk1 : k1 = 2 := by
    obtain ⟨_, _, _, _, _, e, _⟩ := HF1.out.2.2.2.2.pair (by rw [HF1.out.2.2.2.1]; have := HN.out.1; have := HS.out.1; simp only [val]; rw [Nat.mul_zero, Nat.add_zero, ← this]; omega) (by rw [HF1.out.2.2.2.1]; have := HN.out.2; have := HS.out.1; simp only [val]; rw [Nat.mul_zero, Nat.add_zero, ← this]; omega)
    injection e
  subst hk1
  obtain ⟨hk2, hk2z⟩ : M ≤ k2 ∧ (k2 ≤ M → os2.getD M 0 = 0) := by
    obtain ⟨ws, hw1, hw2, hw3, hw4⟩ := HF2.out.2.2.2.2
    have := over_len (k := k2) han (s := s) HF2.out.2.2.2.1 hw1.w32 hw1.len.symm hw2 hw3 HF2.out.2.1 (by rw [HMM.out]; exact HF2.out.2.2.1) (by rw [HMM.out]; omega)
    rwa [HMM.out] at this
  have hk2' : k2 ≤ M + 1 := HF2.out.2.2.2.2.len.2.2
  have HZ := Lib.hid hk2z
  clear hk2z
  go_loopw [10] (fun v wr => ∃ k : Nat, k2 ≤ k ∧ k ≤ M + 1 ∧ v = .slice (some ⟨w2.heap.size, 0, none⟩) k (M + 1) ∧ Hid (Below w3.heap.size w3 wr)) (fun v _ => match v with | .slice _ k _ => M + 1 - k | _ => 0)
  case atStart => exact ⟨k2, Nat.le_refl _, hk2', rfl, Lib.hid (Below.refl _ _)⟩
  case round =>
    obtain ⟨k, hkk, hkM, rfl, hbw⟩ := hrel
    by_cases hlt : k ≤ M
    · obtain rfl : k = M := by omega
      have hbk := Lib.hid ((HF2.out.1.below hbw.out).alloc (.cells #[.int .u32 0] 88))
      go_wp2_with (at_builtin; refine wpList_append_zero _ rfl _ _ rfl w2.heap.size wr.heap.size k (k + 1) os2 rfl rfl hbk.out HF2.out.2.2.1 (by omega) (HZ.out hkk) (by simp [go_sem]) ?_)
      go_roundw
      case rel => exact ⟨k + 1, by omega, by omega, rfl, Lib.hid (hbw.out.alloc hbw.out.size _)⟩
      case measure => simp
    · obtain rfl : k = M + 1 := by omega
      obtain ⟨K, hK⟩ : ∃ K, M - 1 = K := ⟨_, rfl⟩
      have hmk := run_make_row' (P := Tryz.prog) 39 88 (.int .u32 0) 4 Tryz.underlying39 infoW rfl .i64 .i64 K (by omega) (by omega)
      have hK1 : (M : Int) + 1 - 2 = (K : Int) := by omega
      have HK := Lib.hid hK
      have hb1 := (HF1.out.1.below HB2.out).below hbw.out
      obtain ⟨e0, he0⟩ : ∃ x, os1.getD 0 0 = x := ⟨_, rfl⟩
      obtain ⟨e1, he1⟩ : ∃ x, os1.getD 1 0 = x := ⟨_, rfl⟩
      have hce := hb1.cell (j := 1) (by rw [HF1.out.2.2.1]; omega)
      rw [he1] at hce
      have we1 := HF1.out.2.1.get 1
      have we0 := HF1.out.2.1.get 0
      rw [he1] at we1
      rw [he0] at we0
      have HE := Lib.hid (And.intro hb1 (And.intro he0 he1))
      have hg1 : w.heap.size < w2.heap.size := HF1.out.1.lt
      have hg2 : w2.heap.size < w3.heap.size := HF2.out.1.lt
      have hg3 : w3.heap.size ≤ wr.heap.size := hbw.out.size
      have hg4 : w.heap.size < wr.heap.size := by omega
      have hg5 : w2.heap.size < wr.heap.size := by omega
      clear hK hb1 he0 he1
      go_wp2_with fail
      clear hmk
      have hb1 := HE.out.1.alloc (.cells (madeCells #[.int .u32 0] K) 88)
      have hb2 := (HF2.out.1.below hbw.out).alloc (.cells (madeCells #[.int .u32 0] K) 88)
      have hb3 := Blk.made wr K
      have hbl : Below w.heap.size w (wr.alloc (.cells (madeCells #[.int .u32 0] K) 88)) := ((HB1.out.trans ((HB2.out.mono (by omega)))).trans (hbw.out.mono (by omega))).alloc (by omega) _
      have HH := Lib.hid (And.intro hb1 (And.intro hb2 (And.intro hb3 hbl)))
      clear hb1 hb2 hb3 hbl hce
      generalize wr.alloc (.cells (madeCells #[.int .u32 0] K) 88) = W5 at *
      have F1 := Lib.hid HF1.out.2
      have F2 := Lib.hid HF2.out.2
      have EE := Lib.hid HE.out.2
      clear HF1 HF2 HE HB1 HB2 hbw hg3 HZ
      generalize wr.heap.size = g3 at *
      generalize hG2 : w2.heap.size = g2 at *
      obtain ⟨g1, hG1⟩ : ∃ g1, w.heap.size = g1 := ⟨_, rfl⟩
      obtain ⟨DD, hDD⟩ : ∃ x, d * 2 ^ s = x := ⟨_, rfl⟩
      obtain ⟨X, hX⟩ : ∃ x, m * 2 ^ s = x := ⟨_, rfl⟩
      have hval1 : val os1 = d * 2 ^ s := by rw [F1.out.2.2.1, HS.out.1]; simp only [val]; rw [Nat.mul_zero, Nat.add_zero]
      obtain ⟨hdw, he31⟩ := norm_words F1.out.1 F1.out.2.1 hval1 HN.out.1 HN.out.2 EE.out.1 EE.out.2
      have hD64 := HN.out.2
      rw [hDD] at hdw hD64
      have H0 : Hid (OvW w g1 g2 g3 M os1 X DD K W5) := Lib.hid ⟨os2, _, by rw [← hG1]; exact HH.out.1, HH.out.2.1, HH.out.2.2.1, F2.out.2.1, by simp; exact HK.out.symm, F2.out.1, W32.rep _, by
        rw [← hX, ← hDD, ← HK.out]
        exact over_start (by rw [F2.out.2.2.1, HS.out.2.2.2.2]) (by rw [← HS.out.2.2.2.2]; have := val_lt haw; rwa [HMM.out] at this) hd hM2 (Nat.two_pow_pos s), HH.out.2.2.2⟩
      have HX := Lib.hid (And.intro hX hDD)
      have HDW := Lib.hid hdw
      clear hX hDD hval1 hdw
      rw [hG1] at hg1 hg4 hbd ⊢
      have HG1 := Lib.hid hG1
      have HG2 := Lib.hid hG2
      clear hG1 hG2 hK1
      go_loopw [14] (fun v wx => ∃ k : Nat, k ≤ K ∧ v = .int .i64 ((k : Int) - 1) ∧ Hid (OvW w g1 g2 g3 M os1 X DD k wx)) (fun v _ => (intOf v + 1).toNat)
      case atStart => exact ⟨K, Nat.le_refl _, rfl, H0⟩
      case round =>
        obtain ⟨k, hkK, rfl, hp⟩ := hrel
        obtain ⟨us, qs, b1, b2, b3, l2, l3, wus, wqs, hov, hbl⟩ := hp.out
        have HO := Lib.hid (And.intro (And.intro b1 (And.intro b2 b3)) (And.intro (And.intro l2 l3) (And.intro (And.intro wus wqs) (And.intro hov hbl))))
        by_cases hk0 : k = 0
        · subst hk0
          have hfin := over_end (by have := hov; rw [← HX.out.1, ← HX.out.2] at this; exact this) (Nat.two_pow_pos s) (by omega)
          have hmq := b3.mag wqs (by omega)
          rw [show qs.length = K by have := HK.out; omega] at hmq
          have hmu := b2.mag wus (by omega)
          rw [l2] at hmu
          have hmu2 : Mag wr (.slice (some ⟨g2, 0, none⟩) 2 (M + 1)) (us.take 2) := by
            have h9 := Mag.take (A := some ⟨g2, 0, none⟩) (c := M + 1) (ws := us) (w := wr) (k := 2) (by rw [l2]; exact hmu) (by omega)
            exact h9
          have hval2 : val (us.take 2) = m % d * 2 ^ s := by
            have h8 := drop_zero_of_lt wus (k := 2) (by rw [hfin.2]; have : m % d < d := Nat.mod_lt _ (by omega); have h7 := Nat.mul_lt_mul_of_pos_right this (Nat.two_pow_pos s); rw [HX.out.2] at h7; show _ < 18446744073709551616; omega)
            have h9 := val_take_drop us (k := 2) (by omega)
            rw [h8, Nat.mul_zero, Nat.add_zero, hfin.2] at h9
            exact h9.symm
          have HMQ := Lib.hid hmq
          have HMU := Lib.hid hmu2
          have HV2 := Lib.hid (And.intro hval2 hfin.1)
          have hM21 : (2 : Int) ≤ (M : Int) + 1 := by omega
          have hM22 : 2 ≤ M + 1 := by omega
          clear b1 b2 b3 l2 l3 wus wqs hov hbl hp hfin hmq hmu hmu2 hval2
          have hsn : (s : Int) ≤ 18446744073709551615 := by omega
          go_wp2_with fail
          go_region_with (first | (go_at_call_of 38 (some (⟨g3, 0, none⟩ : Addr)); refine (cut_any _ qs _ (by first | exact HMQ.out.drew | exact HMQ.out | exact HMQ.out.below HBR.out)).mono ?_; rintro e w6 ⟨A6, k6, c6, h6, rfl, hm6, rfl⟩; have HM6 := Lib.hid hm6; clear h6 hm6) | (go_at_call_of 38 (some (⟨g2, 0, none⟩ : Addr)); refine (cut_any _ (us.take 2) _ (by first | exact HMU.out.drew | exact HMU.out)).mono ?_; rintro e w7 ⟨A7, k7, c7, h7, rfl, hm7, rfl⟩; have HM7 := Lib.hid hm7; clear h7 hm7) | (go_at_call 171; refine (right_any _ _ s _ _ HM7.out (by simp; omega) (by omega)).mono ?_; rintro e wR ⟨vR, rfl, hmR, hbR⟩; have HMR := Lib.hid hmR; have HBR := Lib.hid hbR; clear hmR hbR))
          all_goals go_wp2_with fail
          all_goals go_ret2
          all_goals (refine ⟨_, _, rfl, ?_, ?_, HO.out.2.2.2.2.trans ((Below.refl _ _).drew.trans (HBR.out.mono (by have := HO.out.2.2.2.2.size; simpa using this)))⟩)
          all_goals first | (rw [← HV2.out.2]; exact (HM6.out.below HBR.out).more (by have := HO.out.2.1.2; omega)) | (rw [← HV2.out.2]; exact HM6.out.more (by have := HO.out.2.1.2; omega)) | (have h9 := HMR.out; rw [HV2.out.1, Nat.mul_div_cancel _ (Nat.two_pow_pos s)] at h9; exact h9.more (by simp; omega))
        · obtain ⟨jj, rfl⟩ : ∃ jj, k = jj + 1 := ⟨k - 1, by omega⟩
          rw [show (((jj + 1 : Nat) : Int) - 1) = (jj : Int) by omega]
          obtain ⟨u0, hu0⟩ : ∃ x, us.getD jj 0 = x := ⟨_, rfl⟩
          obtain ⟨u1, hu1⟩ : ∃ x, us.getD (jj + 1) 0 = x := ⟨_, rfl⟩
          obtain ⟨u2, hu2⟩ : ∃ x, us.getD (jj + 2) 0 = x := ⟨_, rfl⟩
          have hkm := HK.out
          have c0 := b2.cell (j := jj) (by omega)
          have c1 := b2.cell (j := jj + 1) (by omega)
          have c2 := b2.cell (j := jj + 2) (by omega)
          have w0 := wus.get jj
          have w1 := wus.get (jj + 1)
          have w2' := wus.get (jj + 2)
          have ce := b1.cell (j := 0) (by rw [F1.out.2.1]; omega)
          rw [hu0] at c0 w0
          rw [hu1] at c1 w1
          rw [hu2] at c2 w2'
          rw [EE.out.1] at ce
          obtain ⟨hq, hdg, hgl⟩ := over_digit wus HDW.out he31 we1 we0 hov.2.1 hu0 hu1 hu2
          obtain ⟨G, hG⟩ : ∃ x, val us / 4294967296 ^ jj / DD = x := ⟨_, rfl⟩
          rw [hG] at hdg hgl
          obtain ⟨tt, htt⟩ : ∃ x, u2 * 4294967296 + u1 = x := ⟨_, rfl⟩
          have hor := or_hi2 w2' w1
          rw [htt] at hor
          have hti : (u2 : Int) * 4294967296 + (u1 : Int) = (tt : Int) := by omega
          rw [hti] at hq hdg
          have htb : (tt : Int) ≤ 18446744073709551615 := by omega
          have s1 : IntKind.i64.wrap ((jj : Int) + 2) = (jj : Int) + 2 := IntWalk.i64_in _ (by omega)
          have s2 : IntKind.i64.wrap ((jj : Int) + 2 - 1) = (jj : Int) + 1 := by rw [IntWalk.i64_in _ (by omega)]; omega
          have s3 : ((jj : Int) + 2).toNat = jj + 2 := by omega
          have s4 : ((jj : Int) + 1).toNat = jj + 1 := by omega
          have s5 : (0 : Int) ≤ (jj : Int) + 2 := by omega
          have s6 : (0 : Int) ≤ (jj : Int) + 1 := by omega
          have s7 : (jj : Int) + 2 < ((M : Int) + 1) := by omega
          have s8 : (jj : Int) + 1 < ((M : Int) + 1) := by omega
          have HQ := Lib.hid (And.intro hq (And.intro hdg (And.intro hG (And.intro hu0 (And.intro hu1 hu2)))))
          have hjM : jj + 2 < M + 1 := by omega
          clear hq hdg hG hu0 hu1 hu2 htt hti b1 b2 b3 l2 l3 wus wqs hov hbl hkm
          go_wp2_with fail
          go_quiet (fail)
          obtain ⟨gg, hgg⟩ : ∃ x, tt / e1 = x := ⟨_, rfl⟩
          obtain ⟨rr, hrr⟩ : ∃ x, tt % e1 = x := ⟨_, rfl⟩
          have hgi : (tt : Int) / (e1 : Int) = (gg : Int) := by rw [← hgg]; rfl
          have hri : (tt : Int) % (e1 : Int) = (rr : Int) := by rw [← hrr]; rfl
          have he0 : ¬ (e1 : Int) = 0 := by omega
          have Q0 : Hid (Ck.QInv (DD : Int) (e1 : Int) (e0 : Int) (tt : Int) (u0 : Int) (gg : Int) (rr : Int)) := Lib.hid (by
            have h9 := HQ.out.1.start
            rw [hgi] at h9
            have : (tt : Int) - (gg : Int) * (e1 : Int) = (rr : Int) := by
              have := Int.emod_def (tt : Int) (e1 : Int)
              rw [hgi, hri, Int.mul_comm] at this
              omega
            rwa [this] at h9)
          have hggb : (gg : Int) ≤ 4294967297 := Q0.out.q1
          have HRI := Lib.hid hri
          clear hri
          clear hgg hrr s1 s2 s3 s4 s5 s6 s7 s8 hor
          go_upto_block 4 with (fail)
          go_cut [16, 17] from 78 to 151 (fun v v' wx => v = .int .u64 (G : Int) ∧ (∃ r, v' = .int .u64 r) ∧ ∃ n, wx = wr.drewN n)
          case first =>
            have t1 : IntKind.i64.wrap ((jj : Int) + 2) = (jj : Int) + 2 := IntWalk.i64_in _ (by omega)
            have t2 : IntKind.i64.wrap ((jj : Int) + 2 - 2) = (jj : Int) := by rw [IntWalk.i64_in _ (by omega)]; omega
            have t3 : (jj : Int) < ((M : Int) + 1) := by omega
            go_wp2_with fail
            go_loopw [16, 17] (fun v v' wx => ∃ (q r : Int) (n : Nat), Hid (Ck.QInv (DD : Int) (e1 : Int) (e0 : Int) (tt : Int) (u0 : Int) q r) ∧ v = .int .u64 q ∧ v' = .int .u64 r ∧ wx = wr.drewN n) (fun v _ _ => (intOf v).toNat)
            case atStart => exact ⟨gg, rr, _, Q0, rfl, int_eq HRI.out, rfl⟩
            case round =>
              obtain ⟨q, r, n, I, rfl, rfl, rfl⟩ := hrel
              have r0 := I.out.r0
              have r1 := I.out.r1
              have g0 := I.out.q0
              have g1' := I.out.q1
              by_cases cc1 : 4294967296 ≤ q
              · have cd1 : decide (4294967296 ≤ q) = true := by simpa using cc1
                by_cases cc2 : r + (e1 : Int) < 4294967296
                · go_wp2_with fail
                  go_quiet (fail)
                  go_wp2_with fail
                  go_roundw
                  case rel => exact ⟨_, _, _, I.out.dec HQ.out.1 (.inl cc1) cc2, rfl, rfl, rfl⟩
                  case measure => simp [intOf]; omega
                · go_wp2_with fail
                  go_quiet (fail)
                  go_wp2_with fail
                  go_meet
                  exact ⟨int_eq (by rw [← HQ.out.2.1]; exact I.out.brk HQ.out.1 (.inl cc1) (by omega)), ⟨_, rfl⟩, ⟨_, rfl⟩⟩
              · have cd1 : decide (4294967296 ≤ q) = false := by simpa using cc1
                obtain ⟨p0, p1, p2, p3⟩ := I.out.prod HQ.out.1 (by omega)
                have hp := Ck.u64w p0 p1
                have hor2 := or_hi3 r0 r1 w0
                have hr32 : IntKind.u64.wrap (r * 4294967296) = r * 4294967296 := IntWalk.u64_in _ ⟨by omega, by omega⟩
                by_cases cc3 : 4294967296 * r + (u0 : Int) < q * (e0 : Int)
                · have hq1 : 0 ≤ q - 1 := by have := I.out.over HQ.out.1 (.inr cc3); have := HQ.out.1.dig; omega
                  by_cases cc2 : r + (e1 : Int) < 4294967296
                  · go_wp2_with fail
                    go_quiet (fail)
                    go_wp2_with fail
                    go_roundw
                    case rel => exact ⟨_, _, _, I.out.dec HQ.out.1 (.inr cc3) cc2, rfl, rfl, rfl⟩
                    case measure => simp [intOf]; omega
                  · go_wp2_with fail
                    go_quiet (fail)
                    go_wp2_with fail
                    go_meet
                    exact ⟨int_eq (by rw [← HQ.out.2.1]; exact I.out.brk HQ.out.1 (.inr cc3) (by omega)), ⟨_, rfl⟩, ⟨_, rfl⟩⟩
                · go_wp2_with fail
                  go_quiet (fail)
                  go_wp2_with fail
                  go_meet
                  exact ⟨int_eq (by rw [← HQ.out.2.1]; exact I.out.stop HQ.out.1 (by omega)), ⟨_, rfl⟩, ⟨_, by first | rfl | exact drewN_two _ _ _⟩⟩
          case rest =>
            obtain ⟨rfl, ⟨r, rfl⟩, nn, rfl⟩ := hcut
            have HL2 := HO.out.2.1
            have hml := (HO.out.1.1.mag2 F1.out.2.1 EE.out.1 EE.out.2 we0 we1)
            have hbk2 : Blk (wr.drewN nn) g2 us := HO.out.1.2.1.drewN nn
            have HLC := Lib.hid (less_core g2 (M + 1) (M + 1) 2 3 g1 0 jj G us [e0, e1] (wr.drewN nn) hbk2 HO.out.2.2.1.1 HL2.1 (hml.drewN nn) (by omega) (by omega) (by omega) hgl)
            clear HL2 hml hbk2
            go_wp2_with fail
            refine HLC.out.mono ?_
            rintro e w8 ⟨ns, bb, rfl, hb1, hbk, hln, hws, heq, hdrop, hon⟩
            have hv2 : val [e0, e1] = DD := by rw [HDW.out]; simp only [val]; omega
            rw [hv2] at heq
            obtain ⟨hb0, hlt8⟩ := less_no HO.out.2.2.1.1 hws hD64 HO.out.2.2.2.1.2.1 HQ.out.2.2.1 (by omega) heq hdrop hb1
            subst hb0
            rw [Nat.mul_zero, Nat.add_zero] at heq
            have b3 := hon.blk (HO.out.1.2.2.drewN nn) (by omega)
            have hjq : jj < qs.length := by rw [HO.out.2.1.2]; omega
            have hfr := b3.frozen jj
            have hcq := b3.cell hjq
            obtain ⟨oq, hoq⟩ : ∃ x, qs.getD jj 0 = x := ⟨_, rfl⟩
            rw [hoq] at hcq
            have hjK : (jj : Int) < (K : Int) := by omega
            have HST := Lib.hid (ov_step HO.out.1.1 HO.out.1.2.2 HO.out.2.1.2 HO.out.2.2.1.2 HO.out.2.2.2.1 HO.out.2.2.2.2 hon hbk hln hws heq hlt8 hgl hjq (by omega) (by omega) (by omega) (by have := HG1.out; omega) (by have := HG1.out; omega))
            clear b3 hoq hon hbk hln hws heq hdrop hlt8 hb1 hv2 hjq
            go_wp2_with fail
            go_roundw
            case rel => exact ⟨jj, by omega, rfl, HST⟩
            case measure => simp [intOf]

set_option maxRecDepth 8000 in
theorem over_two_lt (u v : Value) (m d L : Nat) (w : World) (hu : MagN w u m L) (hv : MagN w v d 2) (hL : L ≤ 268435456) (hlt : m < d) (hd' : d < 18446744073709551616) (hL2 : 2 ≤ L) :
    Calls Tryz.prog 114 #[u, v] w fun e w' => ∃ q r, e = .returned (.tuple #[q, r]) ∧ MagN w' q (m / d) L ∧ MagN w' r (m % d) 2 ∧ Below w.heap.size w w' := by
  have hc := compare_any u v m d L w hu (hv.more hL2) (by omega)
  have hcv : cmpN m d = -1 := by unfold cmpN; split <;> (try split) <;> omega
  simp only [hcv] at hc
  have hm := hu.less (L' := 2) (by show m < 18446744073709551616; omega)
  have hdm : m / d = 0 := Nat.div_eq_of_lt hlt
  have hmm : m % d = m := Nat.mod_eq_of_lt hlt
  rw [hdm, hmm]
  obtain ⟨ws, g1, g2⟩ := hm
  have G1 := Lib.hid g1
  have G2 := Lib.hid g2
  have HC := Lib.hid hc
  clear hu hv hc g1 g2 hdm hmm hcv
  go_enter Tryz.func114, Tryz.ntmps114
  go_wp2_with fail
  refine HC.out.mono ?_
  rintro e w1 ⟨rfl, j, rfl⟩
  go_wp2_with (at_builtin; refine wpList_append_words (w.drewN j) rfl _ _ rfl u ws rfl rfl G1.out (by have := G2.out.2.2; omega) ?_; intro v1 w1 hm1 hb1)
  have HB := Lib.hid (And.intro hm1 ((below_dN (Below.refl w.heap.size w) j).trans hb1))
  clear hm1 hb1
  go_ret2
  exact ⟨_, _, rfl, MagN.zero _ _ _ _ (by omega), ⟨ws, HB.out.1, G2.out⟩, HB.out.2⟩

/-- over: of a magnitude by one of at most two words, above 0: the quotient and the rest -/
theorem over_any2 (u v : Value) (m d L : Nat) (w : World) (hu : MagN w u m L) (hv : MagN w v d 2) (hL : L ≤ 268435456) (hd : 0 < d) (hL2 : 2 ≤ L) :
    Calls Tryz.prog 114 #[u, v] w fun e w' => ∃ q r, e = .returned (.tuple #[q, r]) ∧ MagN w' q (m / d) L ∧ MagN w' r (m % d) 2 ∧ Below w.heap.size w w' := by
  have hd' : d < 18446744073709551616 := by
    obtain ⟨ws, h1, h2, h3, h4⟩ := hv
    have h5 := val_lt h1.w32
    have h6 : 4294967296 ^ ws.length ≤ 4294967296 ^ 2 := Nat.pow_le_pow_right (by omega) h4
    have h7 : (4294967296 : Nat) ^ 2 = 18446744073709551616 := by decide
    omega
  rcases Nat.lt_or_ge d 4294967296 with h1 | h1
  · exact (over_one u v m d L w hu (hv.less (by rw [Nat.pow_one]; exact h1)) (by omega) hd (by omega)).mono fun e w' ⟨q, r, a, b, c, f⟩ => ⟨q, r, a, b, c.more (by omega), f⟩
  · rcases Nat.lt_or_ge m d with h2 | h2
    · exact over_two_lt u v m d L w hu hv hL h2 hd' hL2
    · exact over_two_core u v m d L w hu hv hL h1 hd' h2 hL2
end Go.Proofs.YtbidlkmagbjllaaGreatDoor.Bg
