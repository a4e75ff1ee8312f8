/- SN8 SN9 in one text. -/
import Derived.Test.YtmecnlgndaeidaaGreatDoorP34
import Derived.Test.YtmecnlgndaeidaaGreatDoorP27

namespace Go.Proofs.YtmecnlgndaeidaaGreatDoor.Bg
open Go Go.RowKit
open Nb (revDig revDig_zero revDig_pos Row byte_new own_slice own_below own_base infoU rev_step str_bytes)

/-- a block of words -/
def Typed (w : World) (g : Nat) : Prop := ∃ cur : Array Value, w.heap[g]? = some (.cells cur 131 (0, 0))
set_option maxHeartbeats 2000000 in
theorem short_typed (A : Option Addr) (n ca d : Nat) (m : List Nat) (w : World) (hm : Mag w (.slice A n ca) m) (hl : n ≤ 1073741824) (hd : 0 < d) (hd' : d < 4294967296) :
    Calls Tryz.prog 84 #[.slice A n ca, .int .u32 d] w fun e w' => ∃ k' c', e = .returned (.tuple #[.slice (some ⟨w.heap.size, 0, none⟩) k' c', .int .u32 (val m % d : Nat)]) ∧ MagN w' (.slice (some ⟨w.heap.size, 0, none⟩) k' c') (val m / d) n ∧ Typed w' w.heap.size ∧ Below w.heap.size w w' := by
  have hla := hm.len
  have HA := Lib.hid hm
  have HL := Lib.hid hla
  have hmk := run_make_row' (P := Tryz.prog) 65 131 (.int .u32 0) 4 Tryz.underlying65 infoW rfl .i64 .i64 n (by omega) (by omega)
  clear hm hla
  have hd1 : (1 : Int) ≤ (d : Int) := by omega
  have hd0 : ¬ (d : Int) = 0 := by omega
  go_enter Tryz.func84, Tryz.ntmps84
  go_wp2_with fail
  clear hmk
  have H0 := Lib.hid (show ShortSt w w.heap.size n m d n 0 (w.alloc (.cells (madeCells #[.int .u32 0] n) 131)) from ⟨_, Blk.made w n, by simp, W32.rep _, quo_start m d n (by have := HL.out; omega) hd, (Below.refl _ _).alloc (Nat.le_refl _) _⟩)
  go_loopw [7, 8] (fun r i wr => ∃ k rr : Nat, k ≤ n ∧ i = .int .i64 ((k : Int) - 1) ∧ r = .int .u64 rr ∧ rr < d ∧ Hid (ShortSt w w.heap.size n m d k rr wr)) (fun _ i _ => (intOf i + 1).toNat)
  case atStart => exact ⟨n, 0, Nat.le_refl _, rfl, rfl, hd, H0⟩
  case round =>
    obtain ⟨k, rr, hk, rfl, rfl, hrr, hp⟩ := hrel
    obtain ⟨os, hbk, hlen, hw, hst, hbel⟩ := hp.out
    have HO := Lib.hid (And.intro hbk (And.intro hlen (And.intro hw (And.intro hst hbel))))
    by_cases hlt : k = 0
    · subst hlt
      clear hbk hlen hw hst hbel
      go_wp2_with fail
      have hms := HO.out.1.mag HO.out.2.2.1 (by rw [HO.out.2.1]; omega)
      rw [HO.out.2.1] at hms
      refine (cut_any _ _ _ hms).mono ?_
      rintro e w2 ⟨A2, k2, c2, hA, rfl, hm2, rfl⟩
      injection hA with hA _ _
      subst hA
      have hq := quo_end HO.out.2.2.2.1 hd
      rw [hq.1, HO.out.2.1] at hm2
      have HF := Lib.hid (And.intro hm2 hq.2)
      clear hm2 hms hq
      go_wp2_with fail
      go_ret2
      exact ⟨k2, c2, congrArg (fun z => Ending.returned (.tuple #[Value.slice (some ⟨w.heap.size, 0, none⟩) k2 c2, z])) (int_eq (by rw [← HF.out.2])), HF.out.1, ⟨_, HO.out.1⟩, HO.out.2.2.2.2⟩
    · have hfr : wr.frozen? ⟨w.heap.size, k - 1, none⟩ = false := hbk.frozen (k - 1)
      obtain ⟨o, ho⟩ : ∃ o, os.getD (k - 1) 0 = o := ⟨_, rfl⟩
      have hco : wr.cell? ⟨w.heap.size, k - 1, none⟩ = some (.int .u32 (o : Nat)) := by rw [← ho]; exact hbk.cell (by omega)
      obtain ⟨b1, o1, e1, hb1, hc1⟩ := HA.out.at (j := k - 1) (by omega)
      subst e1
      have hx := (hbel.cell (p := ⟨b1, o1 + (k - 1), none⟩) hb1).trans hc1
      obtain ⟨x, ex⟩ : ∃ x, m.getD (k - 1) 0 = x := ⟨_, rfl⟩
      have wx := HA.out.w32.get (k - 1)
      rw [ex] at hx wx
      have EX := Lib.hid ex
      clear hbk hlen hw hst hc1 ex ho hb1 hbel
      have hk0 : (0 : Int) ≤ (k : Int) - 1 := by omega
      have hkn : (k : Int) - 1 < (n : Int) := by omega
      have hix : ((k : Int) - 1).toNat = k - 1 := by omega
      obtain ⟨t, ht⟩ : ∃ t : Nat, rr * 4294967296 + x = t := ⟨_, rfl⟩
      have hor : bits .or .u64 ((rr : Int) * 4294967296) (x : Int) = (t : Int) := by rw [or_high hrr hd' wx, ← ht]; omega
      obtain ⟨t1, t2⟩ := quo_word hrr hd' wx
      rw [ht] at t1 t2
      obtain ⟨q, hq⟩ : ∃ q : Nat, t / d = q := ⟨_, rfl⟩
      obtain ⟨r, hr⟩ : ∃ r : Nat, t % d = r := ⟨_, rfl⟩
      have hqi : (t : Int) / (d : Int) = (q : Int) := by rw [← hq]; rfl
      have hri : (t : Int) % (d : Int) = (r : Int) := by rw [← hr]; rfl
      have hrd : r < d := by rw [← hr]; exact Nat.mod_lt _ hd
      rw [hq] at t2
      have HT := Lib.hid (And.intro ht (And.intro hq hr))
      clear ht hq hr
      go_wp2_with fail
      go_roundw
      case rel => exact ⟨k - 1, r, by omega, int_eq (by omega), int_eq hri, hrd, os.set (k - 1) q, blk_end HO.out.1 rfl, by rw [List.length_set]; exact HO.out.2.1, HO.out.2.2.1.set t2, short_step hlt (by have := HL.out; omega) (by have := HO.out.2.1; omega) hd HO.out.2.2.2.1 EX.out HT.out.1 HT.out.2.1 HT.out.2.2, HO.out.2.2.2.2.setCell (p := ⟨w.heap.size, k - 1, none⟩) (Nat.le_refl _) _⟩
      case measure => simp [intOf]; omega

theorem row_apart {w : World} {B g : Nat} {v : Value} {bs : List UInt8} (h : Row w B v bs) (ht : Typed w g) : v.ownBlock ≠ some g := by
  intro e
  rcases h.2 with ⟨rfl, -⟩ | ⟨g', cap, cur, rfl, -, hh, -⟩
  · simp [Value.ownBlock] at e
  · simp only [Value.ownBlock, Option.some.injEq] at e
    subst e
    obtain ⟨cur', h2⟩ := ht
    rw [h2] at hh
    simp at hh
theorem Typed.grown {w w' : World} {g : Nat} {o : Option Nat} (h : Typed w g) (k : w.grownBy w' o) (hne : o ≠ some g) : Typed w' g := by
  obtain ⟨cur, hc⟩ := h
  have hl : g < w.heap.size := by
    rcases Nat.lt_or_ge g w.heap.size with q | q
    · exact q
    · rw [Array.getElem?_eq_none q] at hc; cases hc
  exact ⟨cur, (World.grownBy.block k g hl hne.symm).trans hc⟩
theorem MagN.grown {w w' : World} {g k c n L : Nat} {o : Option Nat} (h : MagN w (.slice (some ⟨g, 0, none⟩) k c) n L) (hk : w.grownBy w' o) (hne : o ≠ some g) : MagN w' (.slice (some ⟨g, 0, none⟩) k c) n L := by
  obtain ⟨ws, ⟨A, c', e, h2, h3, h4, h5⟩, h6⟩ := h
  have e' := e
  injection e with e1 e2 e3
  subst e1
  refine ⟨ws, ⟨_, c', e', h2, h3, h4, fun hl => ?_⟩, h6⟩
  obtain ⟨b, off, hb0, hb, hc⟩ := h5 hl
  have hb0' := hb0
  injection hb0 with hb1
  injection hb1 with hb2 _ _
  subst hb2
  exact ⟨g, off, hb0', Nat.lt_of_lt_of_le hb (World.grownBy.size hk), fun j hj => (World.cell?_of_block (World.grownBy.block hk g hb hne.symm)).trans (hc j hj)⟩
theorem typed_below {w w' : World} {g : Nat} (h : Typed w g) (hb : Below w.heap.size w w') : Typed w' g := by
  obtain ⟨cur, hc⟩ := h
  exact ⟨cur, (hb.block g (Array.getElem?_eq_some_iff.1 hc).1).trans hc⟩
/-- digits so far, what is left -/
structure PlSt (w1 wr : World) (N : Nat) (v : Value) (bs : List UInt8) (y : Nat) : Prop where
  row : Row wr w1.heap.size v bs
  eq : bs ++ revDig y = revDig N
  b : Below w1.heap.size w1 wr
theorem PlSt.le {w1 wr : World} {N : Nat} {v : Value} {bs : List UInt8} {y : Nat} (h : PlSt w1 wr N v bs y) : bs.length ≤ (revDig N).length := by
  rw [← h.eq, List.length_append]; omega
theorem PlSt.next {w1 wr wa w3 : World} {N : Nat} {v v' : Value} {bs : List UInt8} {q k r g d r2 sd e n : Nat} (h : PlSt w1 wr N v bs (q * 10 ^ e + r)) (hek : e = k + 1) (hd : r % 10 = d) (hr2 : r / 10 = r2) (hsd : 48 + d = sd) (hn : bs.length = n) (hy : q ≠ 0 ∨ r ≠ 0) (ha : Below wr.heap.size wr wa)
    (hr3 : w3.ownsRow w1.heap.size 5 1 v' (n + 1) (bs.map (fun b => Value.int .u8 (b.toNat : Int)) ++ [.int .u8 (sd : Int)])) (hg : wa.grownBy w3 v.ownBlock) (ht : Typed wr g) :
    PlSt w1 w3 N v' (bs ++ [UInt8.ofNat sd]) (q * 10 ^ k + r2) ∧ v.ownBlock ≠ some g := by
  subst hek hd hr2 hsd hn
  have hap := row_apart h.row ht
  refine ⟨⟨?_, ?_, ?_⟩, hap⟩
  · unfold Row
    rw [List.length_append, List.map_append]
    have e : (UInt8.ofNat (48 + r % 10)).toNat = 48 + r % 10 := by rw [UInt8.toNat_ofNat_of_lt']; show _ < 256; omega
    simp only [List.length_cons, List.length_nil, List.map_cons, List.map_nil, e]
    exact hr3
  · have e1 : q * 10 ^ (k + 1) + r ≠ 0 := by
      rcases hy with z | z
      · have := Nat.mul_pos (Nat.pos_of_ne_zero z) (Nat.pow_pos (n := k + 1) (show 0 < 10 by omega)); omega
      · omega
    have e2 : (q * 10 ^ (k + 1) + r) % 10 = r % 10 := by rw [Nat.pow_succ, ← Nat.mul_assoc]; omega
    have e3 : (q * 10 ^ (k + 1) + r) / 10 = q * 10 ^ k + r / 10 := by rw [Nat.pow_succ, ← Nat.mul_assoc]; omega
    have h2 := h.eq
    rw [revDig_pos e1, e2, e3] at h2
    rw [List.append_assoc]
    exact h2
  · have h0 := h.b
    have h1 : Below w1.heap.size w1 wa := h0.trans (ha.mono h0.size)
    refine h1.grown hg h1.size ?_
    intro g' hg'
    rcases h.row.2 with ⟨rfl, -⟩ | ⟨g2, cap, cur, rfl, hb, -⟩
    · simp [Value.ownBlock] at hg'
    · simp [Value.ownBlock] at hg'; subst hg'; exact hb

/-! a block of bytes that the call has made -/
def cellsU (bs : List UInt8) : Array Value := (bs.map fun b => Value.int .u8 (b.toNat : Int)).toArray
def BlkU (w : World) (g : Nat) (bs : List UInt8) : Prop := w.heap[g]? = some (.cells (cellsU bs) 5 (0, 0))
theorem cellsU_get {bs : List UInt8} {j : Nat} (hj : j < bs.length) : (cellsU bs)[j]? = some (.int .u8 ((bs.getD j 0).toNat : Int)) := by
  unfold cellsU
  rw [List.getElem?_toArray]
  simp [List.getD_eq_getElem?_getD, hj]
theorem cellsU_set (bs : List UInt8) (i : Nat) (x : UInt8) : (cellsU bs).setIfInBounds i (.int .u8 (x.toNat : Int)) = cellsU (bs.set i x) := by
  unfold cellsU
  rw [List.setIfInBounds_toArray, List.map_set]
theorem cellsU_rep (n : Nat) : madeCells #[Value.int .u8 0] n = cellsU (List.replicate n 0) := by
  unfold cellsU
  apply Array.ext'
  have e : ∀ x : Nat, [Value.int .u8 0][x % 1]?.getD default = Value.int .u8 0 := fun x => by rw [Nat.mod_one]; rfl
  simp [madeCells, e, List.map_const']
theorem BlkU.cell {w : World} {g : Nat} {bs : List UInt8} (h : BlkU w g bs) {j : Nat} (hj : j < bs.length) : w.cell? ⟨g, j, none⟩ = some (.int .u8 ((bs.getD j 0).toNat : Int)) := by
  rw [cell_of_row w g j _ _ (0, 0) h]; exact cellsU_get hj
theorem BlkU.frozen {w : World} {g : Nat} {bs : List UInt8} (h : BlkU w g bs) (j : Nat) : w.frozen? ⟨g, j, none⟩ = false := by
  unfold BlkU at h
  simp [World.frozen?, h]
theorem BlkU.set {w : World} {g : Nat} {bs : List UInt8} (h : BlkU w g bs) (i : Nat) (x : UInt8) {X : Int} (hX : X = (x.toNat : Int)) : BlkU (w.setCell ⟨g, i, none⟩ (.int .u8 X)) g (bs.set i x) := by
  subst hX
  unfold BlkU at *
  simp [World.setCell, Array.getElem?_modify, h, cellsU_set]
theorem BlkU.made (w : World) (n : Nat) : BlkU (w.alloc (.cells (madeCells #[.int .u8 0] n) 5)) w.heap.size (List.replicate n 0) := by
  unfold BlkU
  rw [cellsU_rep]
  exact heap_alloc_new w _
end Go.Proofs.YtmecnlgndaeidaaGreatDoor.Bg

namespace Go.Proofs.YtmecnlgndaeidaaGreatDoor.Bg
open Go Go.RowKit
open Nb (revDig revDig_zero revDig_pos Row byte_new own_slice own_below own_base infoU rev_step str_bytes)

/-- what the reversing loop has written so far -/
def RevSt (w2 : World) (g n : Nat) (ds : List UInt8) (i : Nat) (wr : World) : Prop :=
  ∃ os, BlkU wr g os ∧ os.length = n ∧ (∀ j, j < i → os.getD j 0 = ds.reverse.getD j 0) ∧ Below g w2 wr
theorem rev_get {ds : List UInt8} {i n : Nat} (hn : ds.length = n) (hi : i < n) : ds.reverse.getD i 0 = ds.getD (n - 1 - i) 0 := by
  subst hn
  simp [List.getD_eq_getElem?_getD, List.getElem?_reverse hi]
theorem revSt_next {w2 wr : World} {g n i : Nat} {ds os : List UInt8} {X : Int} (hb : BlkU wr g os) (hl : os.length = n) (hv : ∀ j, j < i → os.getD j 0 = ds.reverse.getD j 0) (hw : Below g w2 wr) (hi : i < n) (hn : ds.length = n) (hX : X = ((ds.getD (n - 1 - i) 0).toNat : Int)) :
    RevSt w2 g n ds (i + 1) (wr.setCell ⟨g, i, none⟩ (.int .u8 X)) := by
  refine ⟨os.set i (ds.getD (n - 1 - i) 0), hb.set i _ hX, by rw [List.length_set]; exact hl, fun j hj => ?_, hw.setCell (p := ⟨g, i, none⟩) (Nat.le_refl _) _⟩
  rcases Nat.lt_or_ge j i with c | c
  · rw [← hv j c]
    simp only [List.getD_eq_getElem?_getD]
    rw [List.getElem?_set_ne (by omega)]
  · obtain rfl : j = i := by omega
    rw [rev_get hn hi]
    simp only [List.getD_eq_getElem?_getD]
    rw [List.getElem?_set_self (by omega)]
    rfl
theorem revSt_end {w2 wr : World} {g n : Nat} {ds : List UInt8} (h : RevSt w2 g n ds n wr) (hn : ds.length = n) : BlkU wr g ds.reverse ∧ Below g w2 wr := by
  obtain ⟨os, h1, h2, h3, h4⟩ := h
  have e : os = ds.reverse := by
    apply List.ext_getElem?
    intro j
    rcases Nat.lt_or_ge j n with c | c
    · have h5 := h3 j c
      simp only [List.getD_eq_getElem?_getD] at h5
      have l1 : j < os.length := by omega
      have l2 : j < ds.reverse.length := by rw [List.length_reverse]; omega
      rw [List.getElem?_eq_getElem l1, List.getElem?_eq_getElem l2] at h5 ⊢
      simpa using h5
    · rw [List.getElem?_eq_none (by omega), List.getElem?_eq_none (by rw [List.length_reverse]; omega)]
  rw [← e]
  exact ⟨h1, h4⟩

set_option maxRecDepth 8000 in
set_option maxHeartbeats 8000000 in
theorem rstring_any (z : Addr) (N L : Nat) (S : ByteArray) (w : World) (hp : IntAt w z (N : Int) L) (hN0 : 0 < N) (hL : L ≤ 1073741824) (hN : (revDig N).length ≤ 1000000) (hS : (⟨(revDig N).reverse.toArray⟩ : ByteArray) = S) :
    Calls Tryz.prog 36 #[.pointer (some z)] w fun e w' => e = .returned (.string S) ∧ Below w.heap.size w w' := by
  obtain ⟨zb, zo, A, k, c, rfl, hzb, hz1, hz2, hu⟩ := hp.openN
  have HSS := Lib.hid hS
  have HH := Lib.hid hu
  obtain ⟨M, hM⟩ : ∃ M, (revDig N).length = M := ⟨_, rfl⟩
  have HMM := Lib.hid hM
  have hMl : M ≤ 1000000 := by omega
  have HZ := Lib.hid (And.intro hz1 hzb)
  have hk0 : k ≠ 0 := fun h => by have := hu.len.1 h; omega
  have hkb : ((k : Int) == 0) = false := by simp; omega
  clear hp hN hM hu hS
  go_enter Tryz.func36, Tryz.ntmps36
  go_wp2_with fail
  clear hz1 hz2 hkb
  go_loopw [3, 4] (fun a b wr => ∃ A k c v bs n, a = .slice A k c ∧ b = v ∧ Hid (MagN wr (.slice A k c) n L ∧ PlSt w wr N v bs n)) (fun _ b _ => match b with | .slice _ k _ => M - k | _ => 0)
  case atStart => exact ⟨A, k, c, .slice none 0 0, [], N, rfl, rfl, Lib.hid ⟨HH.out, ⟨World.ownsRow_nil _ _ _ _, rfl, Below.refl _ _⟩⟩⟩
  case round =>
    obtain ⟨A2, k2, c2, v, bs, n, rfl, rfl, hh⟩ := hrel
    have hlen := hh.out.1.len
    by_cases hk2 : k2 = 0
    · have hn0 := hlen.1 hk2
      subst hk2
      have h := hh.out.2
      subst hn0
      have he := h.eq
      rw [revDig_zero, List.append_nil] at he
      have hne : bs ≠ [] := by rw [he, revDig_pos (by omega)]; simp
      obtain ⟨g, cg, hv, hce⟩ := h.row.bytes hne
      have hbl : bs.length = M := by rw [he]; exact HMM.out
      rw [hbl] at hv hce
      subst hv
      have hzc := (h.b.cell (p := ⟨zb, zo, none⟩) HZ.out.2).trans HZ.out.1
      have hgl : g < wr.heap.size := by
        rcases Nat.lt_or_ge g wr.heap.size with q | q
        · exact q
        · have h1 := hce 0 (by have : bs.length ≠ 0 := fun z => hne (List.length_eq_zero_iff.1 z); omega)
          have h2 : wr.heap[g]? = none := Array.getElem?_eq_none q
          simp [World.cell?, h2] at h1
      have HB := Lib.hid h.b
      have HCE := Lib.hid hce
      have HBL := Lib.hid (And.intro hbl he)
      have hmk := run_make_row' (P := Tryz.prog) 88 5 (.int .u8 0) 1 Tryz.underlying88 infoU rfl .i64 .i64 M (by omega) (by omega)
      clear h hlen hh he hne hce hbl
      go_wp2_with fail
      clear hmk hzc
      obtain ⟨W2, hW2⟩ : ∃ W2, wr = W2 := ⟨_, rfl⟩
      have H0 : Hid (RevSt W2 W2.heap.size M bs 0 (W2.alloc (.cells (madeCells #[.int .u8 0] M) 5))) := Lib.hid ⟨_, BlkU.made W2 M, by simp, fun j hj => absurd hj (by omega), (Below.refl _ _).alloc (Nat.le_refl _) _⟩
      subst hW2
      obtain ⟨hs, hhs⟩ : ∃ hs, wr.heap.size = hs := ⟨_, rfl⟩
      rw [hhs] at H0 ⊢
      obtain ⟨WO, hWO⟩ : ∃ WO, wr = WO := ⟨_, rfl⟩
      have HO := Lib.hid (And.intro HB.out (And.intro HCE.out (And.intro hgl hhs)))
      rw [hWO] at HO H0
      go_loopw [9] (fun i wx => ∃ k : Nat, k ≤ M ∧ i = .int .i64 (k : Int) ∧ Hid (RevSt WO hs M bs k wx)) (fun i _ => M - (intOf i).toNat)
      case atStart => exact ⟨0, Nat.zero_le _, rfl, by rw [hWO]; exact H0⟩
      case round =>
        obtain ⟨k, hk, rfl, hp⟩ := hrel
        by_cases hkM : k < M
        · obtain ⟨os, h1, h2, h3, h4⟩ := hp.out
          have hfr := h1.frozen k
          have hco := h1.cell (j := k) (by omega)
          obtain ⟨o, ho⟩ : ∃ o : Nat, (os.getD k 0).toNat = o := ⟨_, rfl⟩
          rw [ho] at hco
          obtain ⟨x, hx⟩ : ∃ x : Nat, (bs.getD (M - 1 - k) 0).toNat = x := ⟨_, rfl⟩
          have hcx : wr.cell? ⟨g, M - 1 - k, none⟩ = some (.int .u8 (x : Int)) := by
            have h5 := HO.out.2.1 (M - 1 - k) (by omega)
            rw [Nat.zero_add] at h5
            rw [h4.cell (p := ⟨g, M - 1 - k, none⟩) (by show g < hs; rw [← hhs]; exact hgl), h5, ← hx]
            congr 1
            have h6 : M - 1 - k < bs.length := by rw [HBL.out.1]; omega
            simp [List.getD_eq_getElem?_getD, h6]
          have hi0 : (0 : Int) ≤ (M : Int) - 1 - (k : Int) := by omega
          have hi1 : (M : Int) - 1 - (k : Int) < (M : Int) := by omega
          have hit : ((M : Int) - 1 - (k : Int)).toNat = M - 1 - k := by omega
          have HR := Lib.hid (And.intro h1 (And.intro h2 (And.intro h3 (And.intro h4 hx))))
          clear h1 h2 h3 h4 hx ho hp
          go_wp2_with fail
          go_roundw
          case rel => exact ⟨k + 1, by omega, int_eq (by omega), Lib.hid (revSt_next HR.out.1 HR.out.2.1 HR.out.2.2.1 HR.out.2.2.2.1 hkM HBL.out.1 (by rw [HR.out.2.2.2.2]))⟩
          case measure => simp [intOf]; omega
        · obtain rfl : k = M := by omega
          obtain ⟨e1, e2⟩ := revSt_end hp.out HBL.out.1
          have hce2 : ∀ i, i < k → wr.cell? ⟨hs, 0 + i, none⟩ = some (.int .u8 ((bs.reverse.map fun b => (b.toNat : Int)).getD i 0)) := by
            intro i hi
            have hl : i < bs.reverse.length := by rw [List.length_reverse, HBL.out.1]; exact hi
            rw [Nat.zero_add, e1.cell hl]
            revert hl
            generalize bs.reverse = l
            intro hl
            congr 1
            simp [List.getD_eq_getElem?_getD, hl]
          have hconv := run_convert_bytes_arg (P := Tryz.prog) wr 88 5 Tryz.underlying88 Tryz.underlying5 hs 0 k k (bs.reverse.map fun b => (b.toNat : Int)) (by rw [List.length_map, List.length_reverse, HBL.out.1]) hce2 9 Tryz.underlying9
          rw [str_bytes, HBL.out.2, HSS.out] at hconv
          have HBE := Lib.hid e2
          clear hce2 e1 e2 hp
          go_wp2_with fail
          go_ret
          exact ⟨rfl, HB.out.trans (by have h := HBE.out; rw [← hWO, ← hhs] at h; exact h.mono HB.out.size)⟩
    · have hn0 := hlen.2.1 hk2
      have hk20 : 0 < k2 := by omega
      obtain ⟨ws, hm, hv, hl⟩ := id hh.out.1
      obtain ⟨A2', c2', hA2, -⟩ := id hm
      injection hA2 with hA2 hkk hcc
      subst hA2 hcc
      have HS := Lib.hid (short_typed A2 k2 c2 1000000000 ws wr (by rw [hkk]; rw [hkk] at hm; exact hm) (by omega) (by omega) (by omega))
      rw [hl.1] at HS
      obtain ⟨q, hq⟩ : ∃ q, n / 1000000000 = q := ⟨_, rfl⟩
      obtain ⟨r, hr⟩ : ∃ r, n % 1000000000 = r := ⟨_, rfl⟩
      rw [hq, hr] at HS
      have HQ : Hid (q * 10 ^ 9 + r = n ∧ r < 10 ^ 9 ∧ n ≠ 0 ∧ k2 ≤ L) := Lib.hid ⟨by show q * 1000000000 + r = n; omega, by show r < 1000000000; omega, hn0, hlen.2.2⟩
      obtain ⟨Av, cv, hvv⟩ := hh.out.2.row.len
      obtain ⟨lb, hlb⟩ : ∃ lb, bs.length = lb := ⟨_, rfl⟩
      rw [hlb] at hvv
      subst hvv
      have HLB := Lib.hid hlb
      have hlbM : lb ≤ M := by have := hh.out.2.le; rw [HMM.out, hlb] at this; exact this
      have hrb : (r : Int) ≤ 999999999 := by omega
      clear hm hv hl hlen hq hr hlb hkk
      go_wp2_with fail
      refine HS.out.mono ?_
      rintro e w2 ⟨k3, c3, rfl, hm3, ht3, hb3⟩
      obtain ⟨g3, hg3⟩ : ∃ g3, wr.heap.size = g3 := ⟨_, rfl⟩
      rw [hg3] at hm3 ht3 hb3 ⊢
      have H3 : Hid (MagN w2 (.slice (some ⟨g3, 0, none⟩) k3 c3) q k2 ∧ Typed w2 g3 ∧ PlSt w w2 N (.slice Av lb cv) bs (q * 10 ^ 9 + r)) := Lib.hid (by
        have h := hh.out.2
        have hb' : Below wr.heap.size wr w2 := by rw [hg3]; exact hb3
        refine ⟨hm3, ht3, ⟨?_, by rw [HQ.out.1]; exact h.eq, h.b.trans (hb'.mono h.b.size)⟩⟩
        exact own_below h.row hb')
      have hl3 := hm3.len
      have HK3 := Lib.hid hl3
      clear hm3 ht3 hb3 hl3 hg3
      go_wp2_with fail
      go_loopw [4, 6, 7] (fun b rv i wx => ∃ (j rr lx : Nat) (Ax : Option Addr) (cx : Nat) (bx : List UInt8), j ≤ 9 ∧ b = .slice Ax lx cx ∧ rv = .int .u32 (rr : Int) ∧ i = .int .i64 (j : Int) ∧ lx ≤ M ∧ Hid (bx.length = lx ∧ rr < 10 ^ (9 - j) ∧ lb ≤ lx ∧ ((j ≠ 0 → lb < lx) ∧ (j = 0 → rr = r)) ∧ MagN wx (.slice (some ⟨g3, 0, none⟩) k3 c3) q k2 ∧ Typed wx g3 ∧ PlSt w wx N (.slice Ax lx cx) bx (q * 10 ^ (9 - j) + rr))) (fun _ _ i _ => 10 - (intOf i).toNat)
      case atStart => exact ⟨0, r, lb, Av, cv, bs, by omega, rfl, rfl, rfl, hlbM, Lib.hid ⟨HLB.out, HQ.out.2.1, Nat.le_refl _, ⟨fun h => absurd rfl h, fun _ => rfl⟩, H3.out⟩⟩
      case round =>
        obtain ⟨j, rr, lx, Ax, cx, bx, hj, rfl, rfl, rfl, hlx, hx⟩ := hrel
        by_cases hend : j < 9 ∧ (k3 ≠ 0 ∨ rr ≠ 0)
        · obtain ⟨hj9, hne⟩ := hend
          obtain ⟨e, he⟩ : ∃ e, 9 - j = e + 1 := ⟨8 - j, by omega⟩
          have hrl : rr < 1000000000 := by
            have h1 := hx.out.2.1
            have h2 : 10 ^ (9 - j) ≤ 10 ^ 9 := Nat.pow_le_pow_right (by omega) (by omega)
            have h3 : (10 : Nat) ^ 9 = 1000000000 := by decide
            omega
          obtain ⟨d, hd⟩ : ∃ d, rr % 10 = d := ⟨_, rfl⟩
          have hdi : (rr : Int) % 10 = (d : Int) := by omega
          have hd9 : (d : Int) ≤ 9 := by omega
          obtain ⟨r2, hr2⟩ : ∃ d, rr / 10 = d := ⟨_, rfl⟩
          have hri : (rr : Int) / 10 = (r2 : Int) := by omega
          have hrt : (rr : Int).tmod 10 = (d : Int) := by rw [Int.tmod_eq_emod_of_nonneg (by omega)]; exact hdi
          have hrq : (rr : Int).tdiv 10 = (r2 : Int) := by rw [Int.tdiv_eq_ediv_of_nonneg (by omega)]; exact hri
          obtain ⟨sd, hsd⟩ : ∃ s : Nat, 48 + d = s := ⟨_, rfl⟩
          have hsdi : 48 + (d : Int) = (sd : Int) := by omega
          have hsdb : (sd : Int) ≤ 57 := by omega
          obtain ⟨i0, hi0, hz0, hz1, hz2⟩ := info_parts infoU
          have HE := Lib.hid (And.intro he (And.intro hd (And.intro hr2 hsd)))
          have hlxm : lx < M := by
            have h := hx.out.2.2.2.2.2.2
            have h1 : q ≠ 0 ∨ rr ≠ 0 := by
              rcases hne with z | z
              · exact .inl (HK3.out.2.1 z)
              · exact .inr z
            have h2 := h.eq
            have h3 : q * 10 ^ (9 - j) + rr ≠ 0 := by
              rcases h1 with z | z
              · have := Nat.mul_pos (Nat.pos_of_ne_zero z) (Nat.pow_pos (n := 9 - j) (show 0 < 10 by omega)); omega
              · omega
            rw [revDig_pos h3] at h2
            have h4 := congrArg List.length h2
            rw [List.length_append, List.length_cons, HMM.out, hx.out.1] at h4
            omega
          clear he hd hr2 hsd hdi
          have hA := Lib.hid ((Below.refl wr.heap.size wr).alloc (Nat.le_refl _) (.cells #[.int .u8 (sd : Int)] 5))
          have HOWN : Hid (World.ownsRow (wr.alloc (.cells #[.int .u8 (sd : Int)] 5)) w.heap.size 5 1 (.slice Ax lx cx) lx (bx.map fun b => .int .u8 (b.toNat : Int))) := Lib.hid (by have h := own_below hx.out.2.2.2.2.2.2.row hA.out; rwa [hx.out.1] at h)
          have hsz := hx.out.2.2.2.2.2.2.b.size
          have hji : (j : Int) < 9 := by omega
          have HNE : Hid (q ≠ 0 ∨ rr ≠ 0) := Lib.hid (by
            rcases hne with z | z
            · exact .inl (HK3.out.2.1 z)
            · exact .inr z)
          rcases Nat.eq_zero_or_pos rr with hz3 | hz3
          · have hk3p : 0 < k3 := by omega
            have hk3i : (0 : Int) < (k3 : Int) := by omega
            subst hz3
            obtain rfl : d = 0 := by have := HE.out.2.1; omega
            obtain rfl : r2 = 0 := by have := HE.out.2.2.1; omega
            obtain rfl : sd = 48 := by have := HE.out.2.2.2; omega
            have hA0 : Hid (Below wr.heap.size wr (wr.alloc (.cells #[.int .u8 48] 5))) := hA
            have HOWN0 : Hid (World.ownsRow (wr.alloc (.cells #[.int .u8 48] 5)) w.heap.size 5 1 (.slice Ax lx cx) lx (bx.map fun b => .int .u8 (b.toNat : Int))) := HOWN
            clear hne hk3p hri hrt hrq hsdi hsdb hd9 hrb
            go_wp2_with (at_builtin; refine wpList_append_own _ rfl _ _ 88 rfl w.heap.size 5 i0 _ 1 1 Tryz.underlying88 hi0 hz0 hz1 hz2 rfl (by omega) (.slice Ax lx cx) lx _ rfl HOWN0.out ⟨wr.heap.size, 0, none⟩ 1 1 [.int .u8 48] rfl rfl (byte_new _ _ _) (by simp [Value.oneCell']) (by simp only [maxLen]; omega) (by omega) (Nat.le_trans hsz hA0.out.size) ?_; intro v' w3 hr3 hg3 ha3; obtain ⟨Av', cv', hv'⟩ := own_slice hr3; subst hv'; have HR3 := Lib.hid (And.intro hr3 hg3); clear hr3 hg3 ha3)
            go_roundw
            case rel =>
              have h := PlSt.next hx.out.2.2.2.2.2.2 HE.out.1 HE.out.2.1 HE.out.2.2.1 HE.out.2.2.2 hx.out.1 HNE.out hA0.out HR3.out.1 HR3.out.2 hx.out.2.2.2.2.2.1
              have hal := hA0.out
              have he9 : 9 - (j + 1) = e := by have := HE.out.1; omega
              exact ⟨j + 1, 0, lx + 1, Av', cv', bx ++ [UInt8.ofNat 48], by omega, rfl, rfl, int_eq (by omega), by omega, Lib.hid ⟨by rw [List.length_append, hx.out.1]; rfl, by
                rw [he9]
                have h1 := hx.out.2.1
                rw [HE.out.1, Nat.pow_succ] at h1
                have := HE.out.2.2.1
                omega, by have := hx.out.2.2.1; omega, ⟨fun _ => by have := hx.out.2.2.1; omega, fun h => absurd h (by omega)⟩, (hx.out.2.2.2.2.1.below hal).grown HR3.out.2 h.2, (typed_below hx.out.2.2.2.2.2.1 hal).grown HR3.out.2 h.2, by rw [he9]; exact h.1⟩⟩
            case measure => simp [intOf]; omega
          · have hrri : (0 : Int) < (rr : Int) := by omega
            clear hne
            go_wp2_with (at_builtin; refine wpList_append_own _ rfl _ _ 88 rfl w.heap.size 5 i0 _ 1 1 Tryz.underlying88 hi0 hz0 hz1 hz2 rfl (by omega) (.slice Ax lx cx) lx _ rfl HOWN.out ⟨wr.heap.size, 0, none⟩ 1 1 [.int .u8 (sd : Int)] rfl rfl (byte_new _ _ _) (by simp [Value.oneCell']) (by simp only [maxLen]; omega) (by omega) (Nat.le_trans hsz hA.out.size) ?_; intro v' w3 hr3 hg3 ha3; obtain ⟨Av', cv', hv'⟩ := own_slice hr3; subst hv'; have HR3 := Lib.hid (And.intro hr3 hg3); clear hr3 hg3 ha3)
            go_roundw
            case rel =>
              have h := PlSt.next hx.out.2.2.2.2.2.2 HE.out.1 HE.out.2.1 HE.out.2.2.1 HE.out.2.2.2 hx.out.1 HNE.out hA.out HR3.out.1 HR3.out.2 hx.out.2.2.2.2.2.1
              have hal : Below wr.heap.size wr (wr.alloc (.cells #[.int .u8 (sd : Int)] 5)) := hA.out
              have he9 : 9 - (j + 1) = e := by have := HE.out.1; omega
              exact ⟨j + 1, r2, lx + 1, Av', cv', bx ++ [UInt8.ofNat sd], by omega, rfl, rfl, int_eq (by omega), by omega, Lib.hid ⟨by rw [List.length_append, hx.out.1]; rfl, by
                rw [he9]
                have h1 := hx.out.2.1
                rw [HE.out.1, Nat.pow_succ] at h1
                have := HE.out.2.2.1
                omega, by have := hx.out.2.2.1; omega, ⟨fun _ => by have := hx.out.2.2.1; omega, fun h => absurd h (by omega)⟩, (hx.out.2.2.2.2.1.below hal).grown HR3.out.2 h.2, (typed_below hx.out.2.2.2.2.2.1 hal).grown HR3.out.2 h.2, by rw [he9]; exact h.1⟩⟩
            case measure => simp [intOf]; omega
        · have HEND : Hid (q * 10 ^ (9 - j) + rr = q ∧ j ≠ 0) := Lib.hid (by
            have h1 := hx.out.2.1
            have h0 := hx.out.2.2.2.1.2
            rcases Nat.lt_or_ge j 9 with z | z
            · have h3 : k3 = 0 ∧ rr = 0 := by
                constructor
                · rcases Nat.eq_zero_or_pos k3 with y | y
                  · exact y
                  · exact absurd ⟨z, .inl (by omega)⟩ hend
                · rcases Nat.eq_zero_or_pos rr with y | y
                  · exact y
                  · exact absurd ⟨z, .inr (by omega)⟩ hend
              have h4 := HK3.out.1 h3.1
              refine ⟨by rw [h4, h3.2, Nat.zero_mul], fun hj0 => ?_⟩
              have h5 := h0 hj0
              have h6 := HQ.out.1
              rw [h4, Nat.zero_mul, ← h5, h3.2] at h6
              exact HQ.out.2.2.1 (by omega)
            · have h2 : 9 - j = 0 := by omega
              rw [h2, Nat.pow_zero] at h1
              exact ⟨by rw [h2, Nat.pow_zero, Nat.mul_one]; omega, by omega⟩)
          have hlt : lb < lx := hx.out.2.2.2.1.1 HEND.out.2
          rcases Nat.lt_or_ge j 9 with hj9 | hj9
          · have hji : (j : Int) < 9 := by omega
            obtain rfl : k3 = 0 := by
              rcases Nat.eq_zero_or_pos k3 with y | y
              · exact y
              · exact absurd ⟨hj9, .inl (by omega)⟩ hend
            obtain rfl : rr = 0 := by
              rcases Nat.eq_zero_or_pos rr with y | y
              · exact y
              · exact absurd ⟨hj9, .inr (by omega)⟩ hend
            clear hend
            go_wp2_with fail
            go_roundw
            case rel => exact ⟨_, _, _, _, bx, q, rfl, rfl, Lib.hid ⟨hx.out.2.2.2.2.1.more HQ.out.2.2.2, by have h := hx.out.2.2.2.2.2.2; rwa [HEND.out.1] at h⟩⟩
            case measure => simp; omega
          · obtain rfl : j = 9 := by omega
            clear hend
            go_wp2_with fail
            go_roundw
            case rel => exact ⟨_, _, _, _, bx, q, rfl, rfl, Lib.hid ⟨hx.out.2.2.2.2.1.more HQ.out.2.2.2, by have h := hx.out.2.2.2.2.2.2; rwa [HEND.out.1] at h⟩⟩
            case measure => simp; omega
end Go.Proofs.YtmecnlgndaeidaaGreatDoor.Bg
