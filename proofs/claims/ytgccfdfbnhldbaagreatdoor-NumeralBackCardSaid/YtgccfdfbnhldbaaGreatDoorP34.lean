/- HB12 HB13 HB14 in one text. -/
import Derived.Test.YtgccfdfbnhldbaaGreatDoorP22
import Derived.Test.YtgccfdfbnhldbaaGreatDoorP20
import Derived.Maps.AppendAt
import Derived.Test.YtgccfdfbnhldbaaGreatDoorP33

namespace Go.Proofs.YtgccfdfbnhldbaaGreatDoor.Nb
open Go Go.RowKit

/-- a row of bytes under way: nothing else that was there has turned -/
structure RwO (w0 w : World) (B : Nat) (v0 v : Value) (bs : List UInt8) : Prop where
  row : Row w B v bs
  gr : w0.grownBy w v0.ownBlock
  own : v.ownBlock = v0.ownBlock ∨ ∃ g, v.ownBlock = some g ∧ w0.heap.size ≤ g
theorem grown_refl (w : World) (o : Option Nat) : w.grownBy w o := ⟨rfl, rfl, rfl, Nat.le_refl _, fun _ _ _ => rfl⟩
theorem grown_below {w w' : World} (h : Below w.heap.size w w') (o : Option Nat) : w.grownBy w' o := ⟨h.os, h.tape, h.output, h.size, fun k hk _ => h.block k hk⟩
theorem RwO.start {w : World} {B : Nat} {v : Value} {bs : List UInt8} (h : Row w B v bs) : RwO w w B v v bs := ⟨h, grown_refl _ _, .inl rfl⟩
theorem RwO.below {w0 w w' : World} {B : Nat} {v0 v : Value} {bs : List UInt8} (h : RwO w0 w B v0 v bs) (k : Below w.heap.size w w') : RwO w0 w' B v0 v bs :=
  ⟨own_below h.row k, h.gr.trans (grown_below k _), h.own⟩
theorem RwO.from {w w0 w' : World} {B : Nat} {v0 v : Value} {bs : List UInt8} (k : Below w.heap.size w w0) (h : RwO w0 w' B v0 v bs) : RwO w w' B v0 v bs :=
  ⟨h.row, (grown_below k _).trans h.gr, h.own.imp id fun ⟨g, h1, h2⟩ => ⟨g, h1, Nat.le_trans k.size h2⟩⟩
theorem RwO.append {w0 w wa w3 : World} {B n : Nat} {v0 v v' : Value} {bs : List UInt8} {x : UInt8} {X : Int} (h : RwO w0 w B v0 v bs) (ha : Below w.heap.size w wa) (hn : bs.length = n) (hX : X = (x.toNat : Int))
    (hr : w3.ownsRow B 5 1 v' (n + 1) (bs.map (fun b => Value.int .u8 (b.toNat : Int)) ++ [.int .u8 X])) (hg : wa.grownBy w3 v.ownBlock) (hat : v'.ownBlock = v.ownBlock ∨ v'.ownBlock = some wa.heap.size) : RwO w0 w3 B v0 v' (bs ++ [x]) := by
  subst hn hX
  have h2 := h.below ha
  refine ⟨?_, ⟨hg.os.trans h2.gr.os, hg.tape.trans h2.gr.tape, hg.output.trans h2.gr.output, Nat.le_trans h2.gr.size hg.size, fun k hk hne => ?_⟩, ?_⟩
  · unfold Row
    rw [List.length_append, List.map_append]
    exact hr
  · refine (hg.block k (Nat.lt_of_lt_of_le hk h2.gr.size) fun e => ?_).trans (h2.gr.block k hk hne)
    rcases h.own with h1 | ⟨g, h1, h3⟩
    · exact hne (e.trans h1)
    · rw [h1] at e; injection e with e; omega
  · rcases hat with h1 | h1
    · rw [h1]; exact h.own
    · exact .inr ⟨_, h1, h2.gr.size⟩
theorem RwO.cell {w0 w : World} {B : Nat} {v0 v : Value} {bs : List UInt8} (h : RwO w0 w B v0 v bs) {p : Addr} (hp : p.block < w0.heap.size) (hne : v0.ownBlock ≠ some p.block) : w.cell? p = w0.cell? p :=
  World.cell?_of_block (h.gr.block p.block hp (fun e => hne e.symm))
theorem Row.own_lt {w : World} {B : Nat} {v : Value} {bs : List UInt8} (h : Row w B v bs) : ∀ g, v.ownBlock = some g → g < w.heap.size := fun g hg => (World.ownsRow.lt h g hg).2

set_option maxRecDepth 8000 in
set_option maxHeartbeats 4000000 in
theorem spread_base (B : Nat) (v u : Value) (bs : List UInt8) (N L : Nat) (A : Option Addr) (nl c : Nat) (least : Int) (w : World) (hr : Row w B v bs) (hB : B ≤ w.heap.size) (hu : MagN w u N L) (hf : nl = 0 ∨ N < 18446744073709551616 ^ 4)
    (hL : L ≤ 1073741824) (hbl : bs.length ≤ 1000000) (hN : (revDig N).length ≤ 1000000) (hle : -1000000 ≤ least ∧ least ≤ 1000000) :
    Calls Tryz.prog 197 #[v, u, .int .u64 10, .slice A nl c, .int .i64 least] w fun e w' => ∃ v', e = .returned v' ∧ RwO w w' B v v' (bs ++ padD least.toNat (dig N)) := by
  have HP := Lib.hid (plain_any u N L w hu hL (by omega))
  obtain ⟨A0, k, c0, rfl⟩ := hu.slice
  have hk5 : nl = 0 ∨ k < 5 := by
    rcases hf with h | h
    · exact .inl h
    · right
      obtain ⟨ws, ⟨A', c', e, -⟩, h2, h3, h4⟩ := hu
      injection e with _ e _
      have := norm_len_le h2 (by rw [h3]; exact h)
      omega
  obtain ⟨ds, hds⟩ : ∃ ds, revDig N = ds := ⟨_, rfl⟩
  have hdig : dig N = ds.reverse := by unfold dig; rw [hds]
  rw [hdig]
  rw [hds] at HP hN
  obtain ⟨M, hM⟩ : ∃ M, ds.length = M := ⟨_, rfl⟩
  rw [hM] at hN
  obtain ⟨lb, hlb⟩ : ∃ lb, bs.length = lb := ⟨_, rfl⟩
  obtain ⟨Av, cv, hvv⟩ := hr.len
  rw [hlb] at hvv hbl
  subst hvv
  have HR := Lib.hid hr
  have HM := Lib.hid (And.intro hM (And.intro hlb hB))
  obtain ⟨hle1, hle2⟩ := hle
  clear hu hf hds hdig hM hlb hr
  obtain ⟨Z, hZ⟩ : ∃ Z : Nat, (least - (M : Int)).toNat = Z := ⟨_, rfl⟩
  have HZ := Lib.hid hZ
  have hZl : Z ≤ 1000000 := by omega
  rcases hk5 with h5 | h5
  · subst h5
    go_enter Tryz.func197, Tryz.ntmps197
    go_wp2_with fail
    refine HP.out.mono ?_
    rintro e w1 ⟨vd, rfl, hrd, hb⟩
    obtain ⟨Ad, cd, hvd⟩ := hrd.len
    rw [HM.out.1] at hvd
    subst hvd
    have H1 := Lib.hid (And.intro (RwO.start (own_below HR.out hb)) (And.intro hrd hb))
    have hs1 := hb.size
    clear hrd hb HP
    go_wp2_with fail
    obtain ⟨D, hD⟩ : ∃ D : Int, least - (M : Int) = D := ⟨_, rfl⟩
    have hDZ : D.toNat = Z := by rw [← hD]; exact HZ.out
    have hDb : D ≤ 1000000 := by omega
    rw [hD]
    have HD := Lib.hid hD
    clear hD
    go_loopw [0, 32] (fun b i wr => ∃ (k lx : Nat) (Ax : Option Addr) (cx : Nat), k ≤ Z ∧ b = .slice Ax lx cx ∧ i = .int .i64 (k : Int) ∧ lx = lb + k ∧ Hid (RwO w1 wr B (.slice Av lb cv) (.slice Ax lx cx) (bs ++ List.replicate k 48))) (fun _ i _ => Z - (intOf i).toNat)
    case atStart => exact ⟨0, lb, Av, cv, Nat.zero_le _, rfl, rfl, by omega, Lib.hid (by rw [List.replicate_zero, List.append_nil]; exact H1.out.1)⟩
    case round =>
      obtain ⟨k, lx, Ax, cx, hk, rfl, rfl, hlx, hh⟩ := hrel
      by_cases hkZ : k < Z
      · have hki : (k : Int) < D := by omega
        obtain ⟨i0, hi0, hz0, hz1, hz2⟩ := info_parts infoU
        have hA := Lib.hid ((Below.refl wr.heap.size wr).alloc (Nat.le_refl _) (.cells #[.int .u8 48] 5))
        have hln : (bs ++ List.replicate k 48).length = lx := by rw [List.length_append, List.length_replicate, HM.out.2.1]; exact hlx.symm
        have HOWN : Hid (World.ownsRow (wr.alloc (.cells #[.int .u8 48] 5)) B 5 1 (.slice Ax lx cx) lx ((bs ++ List.replicate k 48).map fun b : UInt8 => Value.int .u8 (b.toNat : Int))) := Lib.hid (by have h := own_below hh.out.row hA.out; rwa [hln] at h)
        have hsz := hh.out.gr.size
        have HLN := Lib.hid (And.intro hln hlx)
        have hlxb : lx ≤ 2000000 := by omega
        have hB1 : B ≤ wr.heap.size := by have := HM.out.2.2; omega
        clear hln hlx
        go_wp2_with (at_builtin; refine wpList_append_own_at _ rfl _ _ 104 rfl B 5 i0 _ 1 1 Tryz.underlying104 hi0 hz0 hz1 hz2 rfl (by omega) (.slice Ax lx cx) lx _ rfl HOWN.out ⟨wr.heap.size, 0, none⟩ 1 1 [.int .u8 48] rfl rfl (byte_new _ _ _) (by simp [Value.oneCell']) (by simp only [maxLen]; omega) (by omega) (Nat.le_trans hB1 hA.out.size) ?_; intro v' w3 hr3 hg3 ha3 hat3; obtain ⟨Av', cv', hv'⟩ := own_slice hr3; subst hv'; have HR3 := Lib.hid (And.intro hr3 (And.intro hg3 hat3)); clear hr3 hg3 ha3 hat3)
        go_roundw
        case rel => exact ⟨k + 1, lx + 1, Av', cv', by omega, rfl, int_eq (by omega), by have := HLN.out.2; omega, Lib.hid (by
          have h := hh.out.append (x := 48) hA.out HLN.out.1 rfl HR3.out.1 HR3.out.2.1 HR3.out.2.2
          rw [List.append_assoc, ← List.replicate_succ'] at h
          exact h)⟩
        case measure => simp [intOf]; omega
      · obtain rfl : k = Z := by omega
        have hki : ¬ (k : Int) < D := by omega
        obtain ⟨b2, hb2⟩ : ∃ b2, bs ++ List.replicate k 48 = b2 := ⟨_, rfl⟩
        have hb2l : b2.length = lx := by rw [← hb2, List.length_append, List.length_replicate, HM.out.2.1]; exact hlx.symm
        have HB2 := Lib.hid hb2
        rw [hb2] at hh
        have hlxb : lx ≤ 2000000 := by omega
        have H2 := hh
        have HB2L := Lib.hid hb2l
        clear hb2 hb2l hlx hkZ
        go_wp2_with fail
        clear hki
        go_loopw [0, 12] (fun b i wr => ∃ (j ly : Nat) (Ay : Option Addr) (cy : Nat), j ≤ M ∧ b = .slice Ay ly cy ∧ i = .int .i64 ((j : Int) - 1) ∧ ly = lx + (M - j) ∧ Hid (RwO w1 wr B (.slice Av lb cv) (.slice Ay ly cy) (b2 ++ (ds.drop j).reverse))) (fun _ i _ => (intOf i + 1).toNat)
        case atStart => exact ⟨M, lx, Ax, cx, Nat.le_refl _, rfl, rfl, by omega, Lib.hid (by rw [List.drop_of_length_le (by rw [HM.out.1]; exact Nat.le_refl _), List.reverse_nil, List.append_nil]; exact H2.out)⟩
        case round =>
          clear H2 hh
          obtain ⟨j, ly, Ay, cy, hj, rfl, rfl, hly, hh⟩ := hrel
          by_cases hj0 : j = 0
          · subst hj0
            go_wp2_with fail
            go_ret
            refine ⟨_, rfl, ?_⟩
            have h := hh.out.from (H1.out.2.2)
            rw [List.drop_zero, ← HB2.out, List.append_assoc] at h
            have e : padD least.toNat ds.reverse = List.replicate k 48 ++ ds.reverse := by
              unfold padD
              rw [List.length_reverse, HM.out.1, show least.toNat - M = k by have := HD.out; omega]
            rw [e]
            exact h
          · obtain ⟨i, rfl⟩ : ∃ i, j = i + 1 := ⟨j - 1, by omega⟩
            rw [show (((i + 1 : Nat) : Int) - 1) = (i : Int) by omega]
            have hdi : i < ds.length := by rw [HM.out.1]; omega
            obtain ⟨x, hx⟩ : ∃ x : UInt8, ds[i] = x := ⟨_, rfl⟩
            obtain ⟨xn, hxn⟩ : ∃ xn : Nat, x.toNat = xn := ⟨_, rfl⟩
            have hdn : ds ≠ [] := by intro e; rw [e] at hdi; simp at hdi
            obtain ⟨g, cg, hge, hce⟩ := H1.out.2.1.bytes hdn
            injection hge with hA1 hM1 hc1
            subst hA1 hc1
            clear hM1
            have hgl : g < w1.heap.size := H1.out.2.1.own_lt g rfl
            have hgw : w.heap.size ≤ g := (World.ownsRow.lt H1.out.2.1 g rfl).1
            have hgn : Value.ownBlock (.slice Av lb cv) ≠ some g := fun e => by
              have := HR.out.own_lt g e
              omega
            have hcell : wr.cell? ⟨g, i, none⟩ = some (.int .u8 (xn : Int)) := by
              have h1 := hce i hdi
              rw [Nat.zero_add] at h1
              rw [hh.out.cell (p := ⟨g, i, none⟩) hgl hgn, h1, ← hxn, ← hx]
              congr 1
              simp [List.getD_eq_getElem?_getD, hdi]
            obtain ⟨i0, hi0, hz0, hz1, hz2⟩ := info_parts infoU
            have hA := Lib.hid ((Below.refl wr.heap.size wr).alloc (Nat.le_refl _) (.cells #[.int .u8 (xn : Int)] 5))
            have hln : (b2 ++ (ds.drop (i + 1)).reverse).length = ly := by rw [List.length_append, List.length_reverse, List.length_drop, HM.out.1, HB2L.out]; exact hly.symm
            have HOWN : Hid (World.ownsRow (wr.alloc (.cells #[.int .u8 (xn : Int)] 5)) B 5 1 (.slice Ay ly cy) ly ((b2 ++ (ds.drop (i + 1)).reverse).map fun b : UInt8 => Value.int .u8 (b.toNat : Int))) := Lib.hid (by have h := own_below hh.out.row hA.out; rwa [hln] at h)
            have hsz := hh.out.gr.size
            have HLN := Lib.hid (And.intro hln (And.intro hly (And.intro hx (And.intro hxn hdi))))
            have hlyb : ly ≤ 4000000 := by omega
            have hB1 : B ≤ wr.heap.size := by have := HM.out.2.2; omega
            have hii : (i : Int) < (M : Int) := by omega
            clear hln hly hxn hgl hgw hgn hce hdn
            go_wp2_with (at_builtin; refine wpList_append_own_at _ rfl _ _ 104 rfl B 5 i0 _ 1 1 Tryz.underlying104 hi0 hz0 hz1 hz2 rfl (by omega) (.slice Ay ly cy) ly _ rfl HOWN.out ⟨wr.heap.size, 0, none⟩ 1 1 [.int .u8 (xn : Int)] rfl rfl (byte_new _ _ _) (by simp [Value.oneCell']) (by simp only [maxLen]; omega) (by omega) (Nat.le_trans hB1 hA.out.size) ?_; intro v' w3 hr3 hg3 ha3 hat3; obtain ⟨Av', cv', hv'⟩ := own_slice hr3; subst hv'; have HR3 := Lib.hid (And.intro hr3 (And.intro hg3 hat3)); clear hr3 hg3 ha3 hat3)
            go_roundw
            case rel => exact ⟨i, ly + 1, Av', cv', by omega, rfl, int_eq (by omega), by have := HLN.out.2.1; omega, Lib.hid (by
              have h := hh.out.append (x := x) hA.out HLN.out.1 (by rw [HLN.out.2.2.2.1]) HR3.out.1 HR3.out.2.1 HR3.out.2.2
              rw [List.append_assoc] at h
              rw [rev_step HLN.out.2.2.2.2, HLN.out.2.2.1]
              exact h)⟩
            case measure => simp [intOf]
  · by_cases hnl : nl = 0
    · subst hnl
      clear h5
      go_enter Tryz.func197, Tryz.ntmps197
      go_wp2_with fail
      refine HP.out.mono ?_
      rintro e w1 ⟨vd, rfl, hrd, hb⟩
      obtain ⟨Ad, cd, hvd⟩ := hrd.len
      rw [HM.out.1] at hvd
      subst hvd
      have H1 := Lib.hid (And.intro (RwO.start (own_below HR.out hb)) (And.intro hrd hb))
      have hs1 := hb.size
      clear hrd hb HP
      go_wp2_with fail
      obtain ⟨D, hD⟩ : ∃ D : Int, least - (M : Int) = D := ⟨_, rfl⟩
      have hDZ : D.toNat = Z := by rw [← hD]; exact HZ.out
      have hDb : D ≤ 1000000 := by omega
      rw [hD]
      have HD := Lib.hid hD
      clear hD
      go_loopw [0, 32] (fun b i wr => ∃ (k lx : Nat) (Ax : Option Addr) (cx : Nat), k ≤ Z ∧ b = .slice Ax lx cx ∧ i = .int .i64 (k : Int) ∧ lx = lb + k ∧ Hid (RwO w1 wr B (.slice Av lb cv) (.slice Ax lx cx) (bs ++ List.replicate k 48))) (fun _ i _ => Z - (intOf i).toNat)
      case atStart => exact ⟨0, lb, Av, cv, Nat.zero_le _, rfl, rfl, by omega, Lib.hid (by rw [List.replicate_zero, List.append_nil]; exact H1.out.1)⟩
      case round =>
        obtain ⟨k, lx, Ax, cx, hk, rfl, rfl, hlx, hh⟩ := hrel
        by_cases hkZ : k < Z
        · have hki : (k : Int) < D := by omega
          obtain ⟨i0, hi0, hz0, hz1, hz2⟩ := info_parts infoU
          have hA := Lib.hid ((Below.refl wr.heap.size wr).alloc (Nat.le_refl _) (.cells #[.int .u8 48] 5))
          have hln : (bs ++ List.replicate k 48).length = lx := by rw [List.length_append, List.length_replicate, HM.out.2.1]; exact hlx.symm
          have HOWN : Hid (World.ownsRow (wr.alloc (.cells #[.int .u8 48] 5)) B 5 1 (.slice Ax lx cx) lx ((bs ++ List.replicate k 48).map fun b : UInt8 => Value.int .u8 (b.toNat : Int))) := Lib.hid (by have h := own_below hh.out.row hA.out; rwa [hln] at h)
          have hsz := hh.out.gr.size
          have HLN := Lib.hid (And.intro hln hlx)
          have hlxb : lx ≤ 2000000 := by omega
          have hB1 : B ≤ wr.heap.size := by have := HM.out.2.2; omega
          clear hln hlx
          go_wp2_with (at_builtin; refine wpList_append_own_at _ rfl _ _ 104 rfl B 5 i0 _ 1 1 Tryz.underlying104 hi0 hz0 hz1 hz2 rfl (by omega) (.slice Ax lx cx) lx _ rfl HOWN.out ⟨wr.heap.size, 0, none⟩ 1 1 [.int .u8 48] rfl rfl (byte_new _ _ _) (by simp [Value.oneCell']) (by simp only [maxLen]; omega) (by omega) (Nat.le_trans hB1 hA.out.size) ?_; intro v' w3 hr3 hg3 ha3 hat3; obtain ⟨Av', cv', hv'⟩ := own_slice hr3; subst hv'; have HR3 := Lib.hid (And.intro hr3 (And.intro hg3 hat3)); clear hr3 hg3 ha3 hat3)
          go_roundw
          case rel => exact ⟨k + 1, lx + 1, Av', cv', by omega, rfl, int_eq (by omega), by have := HLN.out.2; omega, Lib.hid (by
            have h := hh.out.append (x := 48) hA.out HLN.out.1 rfl HR3.out.1 HR3.out.2.1 HR3.out.2.2
            rw [List.append_assoc, ← List.replicate_succ'] at h
            exact h)⟩
          case measure => simp [intOf]; omega
        · obtain rfl : k = Z := by omega
          have hki : ¬ (k : Int) < D := by omega
          obtain ⟨b2, hb2⟩ : ∃ b2, bs ++ List.replicate k 48 = b2 := ⟨_, rfl⟩
          have hb2l : b2.length = lx := by rw [← hb2, List.length_append, List.length_replicate, HM.out.2.1]; exact hlx.symm
          have HB2 := Lib.hid hb2
          rw [hb2] at hh
          have hlxb : lx ≤ 2000000 := by omega
          have H2 := hh
          have HB2L := Lib.hid hb2l
          clear hb2 hb2l hlx hkZ
          go_wp2_with fail
          clear hki
          go_loopw [0, 12] (fun b i wr => ∃ (j ly : Nat) (Ay : Option Addr) (cy : Nat), j ≤ M ∧ b = .slice Ay ly cy ∧ i = .int .i64 ((j : Int) - 1) ∧ ly = lx + (M - j) ∧ Hid (RwO w1 wr B (.slice Av lb cv) (.slice Ay ly cy) (b2 ++ (ds.drop j).reverse))) (fun _ i _ => (intOf i + 1).toNat)
          case atStart => exact ⟨M, lx, Ax, cx, Nat.le_refl _, rfl, rfl, by omega, Lib.hid (by rw [List.drop_of_length_le (by rw [HM.out.1]; exact Nat.le_refl _), List.reverse_nil, List.append_nil]; exact H2.out)⟩
          case round =>
            clear H2 hh
            obtain ⟨j, ly, Ay, cy, hj, rfl, rfl, hly, hh⟩ := hrel
            by_cases hj0 : j = 0
            · subst hj0
              go_wp2_with fail
              go_ret
              refine ⟨_, rfl, ?_⟩
              have h := hh.out.from (H1.out.2.2)
              rw [List.drop_zero, ← HB2.out, List.append_assoc] at h
              have e : padD least.toNat ds.reverse = List.replicate k 48 ++ ds.reverse := by
                unfold padD
                rw [List.length_reverse, HM.out.1, show least.toNat - M = k by have := HD.out; omega]
              rw [e]
              exact h
            · obtain ⟨i, rfl⟩ : ∃ i, j = i + 1 := ⟨j - 1, by omega⟩
              rw [show (((i + 1 : Nat) : Int) - 1) = (i : Int) by omega]
              have hdi : i < ds.length := by rw [HM.out.1]; omega
              obtain ⟨x, hx⟩ : ∃ x : UInt8, ds[i] = x := ⟨_, rfl⟩
              obtain ⟨xn, hxn⟩ : ∃ xn : Nat, x.toNat = xn := ⟨_, rfl⟩
              have hdn : ds ≠ [] := by intro e; rw [e] at hdi; simp at hdi
              obtain ⟨g, cg, hge, hce⟩ := H1.out.2.1.bytes hdn
              injection hge with hA1 hM1 hc1
              subst hA1 hc1
              clear hM1
              have hgl : g < w1.heap.size := H1.out.2.1.own_lt g rfl
              have hgw : w.heap.size ≤ g := (World.ownsRow.lt H1.out.2.1 g rfl).1
              have hgn : Value.ownBlock (.slice Av lb cv) ≠ some g := fun e => by
                have := HR.out.own_lt g e
                omega
              have hcell : wr.cell? ⟨g, i, none⟩ = some (.int .u8 (xn : Int)) := by
                have h1 := hce i hdi
                rw [Nat.zero_add] at h1
                rw [hh.out.cell (p := ⟨g, i, none⟩) hgl hgn, h1, ← hxn, ← hx]
                congr 1
                simp [List.getD_eq_getElem?_getD, hdi]
              obtain ⟨i0, hi0, hz0, hz1, hz2⟩ := info_parts infoU
              have hA := Lib.hid ((Below.refl wr.heap.size wr).alloc (Nat.le_refl _) (.cells #[.int .u8 (xn : Int)] 5))
              have hln : (b2 ++ (ds.drop (i + 1)).reverse).length = ly := by rw [List.length_append, List.length_reverse, List.length_drop, HM.out.1, HB2L.out]; exact hly.symm
              have HOWN : Hid (World.ownsRow (wr.alloc (.cells #[.int .u8 (xn : Int)] 5)) B 5 1 (.slice Ay ly cy) ly ((b2 ++ (ds.drop (i + 1)).reverse).map fun b : UInt8 => Value.int .u8 (b.toNat : Int))) := Lib.hid (by have h := own_below hh.out.row hA.out; rwa [hln] at h)
              have hsz := hh.out.gr.size
              have HLN := Lib.hid (And.intro hln (And.intro hly (And.intro hx (And.intro hxn hdi))))
              have hlyb : ly ≤ 4000000 := by omega
              have hB1 : B ≤ wr.heap.size := by have := HM.out.2.2; omega
              have hii : (i : Int) < (M : Int) := by omega
              clear hln hly hxn hgl hgw hgn hce hdn
              go_wp2_with (at_builtin; refine wpList_append_own_at _ rfl _ _ 104 rfl B 5 i0 _ 1 1 Tryz.underlying104 hi0 hz0 hz1 hz2 rfl (by omega) (.slice Ay ly cy) ly _ rfl HOWN.out ⟨wr.heap.size, 0, none⟩ 1 1 [.int .u8 (xn : Int)] rfl rfl (byte_new _ _ _) (by simp [Value.oneCell']) (by simp only [maxLen]; omega) (by omega) (Nat.le_trans hB1 hA.out.size) ?_; intro v' w3 hr3 hg3 ha3 hat3; obtain ⟨Av', cv', hv'⟩ := own_slice hr3; subst hv'; have HR3 := Lib.hid (And.intro hr3 (And.intro hg3 hat3)); clear hr3 hg3 ha3 hat3)
              go_roundw
              case rel => exact ⟨i, ly + 1, Av', cv', by omega, rfl, int_eq (by omega), by have := HLN.out.2.1; omega, Lib.hid (by
                have h := hh.out.append (x := x) hA.out HLN.out.1 (by rw [HLN.out.2.2.2.1]) HR3.out.1 HR3.out.2.1 HR3.out.2.2
                rw [List.append_assoc] at h
                rw [rev_step HLN.out.2.2.2.2, HLN.out.2.2.1]
                exact h)⟩
              case measure => simp [intOf]
    · have hnli : ¬ (nl : Int) = 0 := by omega
      clear hnl
      go_enter Tryz.func197, Tryz.ntmps197
      go_wp2_with fail
      refine HP.out.mono ?_
      rintro e w1 ⟨vd, rfl, hrd, hb⟩
      obtain ⟨Ad, cd, hvd⟩ := hrd.len
      rw [HM.out.1] at hvd
      subst hvd
      have H1 := Lib.hid (And.intro (RwO.start (own_below HR.out hb)) (And.intro hrd hb))
      have hs1 := hb.size
      clear hrd hb HP h5 hnli
      go_wp2_with fail
      obtain ⟨D, hD⟩ : ∃ D : Int, least - (M : Int) = D := ⟨_, rfl⟩
      have hDZ : D.toNat = Z := by rw [← hD]; exact HZ.out
      have hDb : D ≤ 1000000 := by omega
      rw [hD]
      have HD := Lib.hid hD
      clear hD
      go_loopw [0, 32] (fun b i wr => ∃ (k lx : Nat) (Ax : Option Addr) (cx : Nat), k ≤ Z ∧ b = .slice Ax lx cx ∧ i = .int .i64 (k : Int) ∧ lx = lb + k ∧ Hid (RwO w1 wr B (.slice Av lb cv) (.slice Ax lx cx) (bs ++ List.replicate k 48))) (fun _ i _ => Z - (intOf i).toNat)
      case atStart => exact ⟨0, lb, Av, cv, Nat.zero_le _, rfl, rfl, by omega, Lib.hid (by rw [List.replicate_zero, List.append_nil]; exact H1.out.1)⟩
      case round =>
        obtain ⟨k, lx, Ax, cx, hk, rfl, rfl, hlx, hh⟩ := hrel
        by_cases hkZ : k < Z
        · have hki : (k : Int) < D := by omega
          obtain ⟨i0, hi0, hz0, hz1, hz2⟩ := info_parts infoU
          have hA := Lib.hid ((Below.refl wr.heap.size wr).alloc (Nat.le_refl _) (.cells #[.int .u8 48] 5))
          have hln : (bs ++ List.replicate k 48).length = lx := by rw [List.length_append, List.length_replicate, HM.out.2.1]; exact hlx.symm
          have HOWN : Hid (World.ownsRow (wr.alloc (.cells #[.int .u8 48] 5)) B 5 1 (.slice Ax lx cx) lx ((bs ++ List.replicate k 48).map fun b : UInt8 => Value.int .u8 (b.toNat : Int))) := Lib.hid (by have h := own_below hh.out.row hA.out; rwa [hln] at h)
          have hsz := hh.out.gr.size
          have HLN := Lib.hid (And.intro hln hlx)
          have hlxb : lx ≤ 2000000 := by omega
          have hB1 : B ≤ wr.heap.size := by have := HM.out.2.2; omega
          clear hln hlx
          go_wp2_with (at_builtin; refine wpList_append_own_at _ rfl _ _ 104 rfl B 5 i0 _ 1 1 Tryz.underlying104 hi0 hz0 hz1 hz2 rfl (by omega) (.slice Ax lx cx) lx _ rfl HOWN.out ⟨wr.heap.size, 0, none⟩ 1 1 [.int .u8 48] rfl rfl (byte_new _ _ _) (by simp [Value.oneCell']) (by simp only [maxLen]; omega) (by omega) (Nat.le_trans hB1 hA.out.size) ?_; intro v' w3 hr3 hg3 ha3 hat3; obtain ⟨Av', cv', hv'⟩ := own_slice hr3; subst hv'; have HR3 := Lib.hid (And.intro hr3 (And.intro hg3 hat3)); clear hr3 hg3 ha3 hat3)
          go_roundw
          case rel => exact ⟨k + 1, lx + 1, Av', cv', by omega, rfl, int_eq (by omega), by have := HLN.out.2; omega, Lib.hid (by
            have h := hh.out.append (x := 48) hA.out HLN.out.1 rfl HR3.out.1 HR3.out.2.1 HR3.out.2.2
            rw [List.append_assoc, ← List.replicate_succ'] at h
            exact h)⟩
          case measure => simp [intOf]; omega
        · obtain rfl : k = Z := by omega
          have hki : ¬ (k : Int) < D := by omega
          obtain ⟨b2, hb2⟩ : ∃ b2, bs ++ List.replicate k 48 = b2 := ⟨_, rfl⟩
          have hb2l : b2.length = lx := by rw [← hb2, List.length_append, List.length_replicate, HM.out.2.1]; exact hlx.symm
          have HB2 := Lib.hid hb2
          rw [hb2] at hh
          have hlxb : lx ≤ 2000000 := by omega
          have H2 := hh
          have HB2L := Lib.hid hb2l
          clear hb2 hb2l hlx hkZ
          go_wp2_with fail
          clear hki
          go_loopw [0, 12] (fun b i wr => ∃ (j ly : Nat) (Ay : Option Addr) (cy : Nat), j ≤ M ∧ b = .slice Ay ly cy ∧ i = .int .i64 ((j : Int) - 1) ∧ ly = lx + (M - j) ∧ Hid (RwO w1 wr B (.slice Av lb cv) (.slice Ay ly cy) (b2 ++ (ds.drop j).reverse))) (fun _ i _ => (intOf i + 1).toNat)
          case atStart => exact ⟨M, lx, Ax, cx, Nat.le_refl _, rfl, rfl, by omega, Lib.hid (by rw [List.drop_of_length_le (by rw [HM.out.1]; exact Nat.le_refl _), List.reverse_nil, List.append_nil]; exact H2.out)⟩
          case round =>
            clear H2 hh
            obtain ⟨j, ly, Ay, cy, hj, rfl, rfl, hly, hh⟩ := hrel
            by_cases hj0 : j = 0
            · subst hj0
              go_wp2_with fail
              go_ret
              refine ⟨_, rfl, ?_⟩
              have h := hh.out.from (H1.out.2.2)
              rw [List.drop_zero, ← HB2.out, List.append_assoc] at h
              have e : padD least.toNat ds.reverse = List.replicate k 48 ++ ds.reverse := by
                unfold padD
                rw [List.length_reverse, HM.out.1, show least.toNat - M = k by have := HD.out; omega]
              rw [e]
              exact h
            · obtain ⟨i, rfl⟩ : ∃ i, j = i + 1 := ⟨j - 1, by omega⟩
              rw [show (((i + 1 : Nat) : Int) - 1) = (i : Int) by omega]
              have hdi : i < ds.length := by rw [HM.out.1]; omega
              obtain ⟨x, hx⟩ : ∃ x : UInt8, ds[i] = x := ⟨_, rfl⟩
              obtain ⟨xn, hxn⟩ : ∃ xn : Nat, x.toNat = xn := ⟨_, rfl⟩
              have hdn : ds ≠ [] := by intro e; rw [e] at hdi; simp at hdi
              obtain ⟨g, cg, hge, hce⟩ := H1.out.2.1.bytes hdn
              injection hge with hA1 hM1 hc1
              subst hA1 hc1
              clear hM1
              have hgl : g < w1.heap.size := H1.out.2.1.own_lt g rfl
              have hgw : w.heap.size ≤ g := (World.ownsRow.lt H1.out.2.1 g rfl).1
              have hgn : Value.ownBlock (.slice Av lb cv) ≠ some g := fun e => by
                have := HR.out.own_lt g e
                omega
              have hcell : wr.cell? ⟨g, i, none⟩ = some (.int .u8 (xn : Int)) := by
                have h1 := hce i hdi
                rw [Nat.zero_add] at h1
                rw [hh.out.cell (p := ⟨g, i, none⟩) hgl hgn, h1, ← hxn, ← hx]
                congr 1
                simp [List.getD_eq_getElem?_getD, hdi]
              obtain ⟨i0, hi0, hz0, hz1, hz2⟩ := info_parts infoU
              have hA := Lib.hid ((Below.refl wr.heap.size wr).alloc (Nat.le_refl _) (.cells #[.int .u8 (xn : Int)] 5))
              have hln : (b2 ++ (ds.drop (i + 1)).reverse).length = ly := by rw [List.length_append, List.length_reverse, List.length_drop, HM.out.1, HB2L.out]; exact hly.symm
              have HOWN : Hid (World.ownsRow (wr.alloc (.cells #[.int .u8 (xn : Int)] 5)) B 5 1 (.slice Ay ly cy) ly ((b2 ++ (ds.drop (i + 1)).reverse).map fun b : UInt8 => Value.int .u8 (b.toNat : Int))) := Lib.hid (by have h := own_below hh.out.row hA.out; rwa [hln] at h)
              have hsz := hh.out.gr.size
              have HLN := Lib.hid (And.intro hln (And.intro hly (And.intro hx (And.intro hxn hdi))))
              have hlyb : ly ≤ 4000000 := by omega
              have hB1 : B ≤ wr.heap.size := by have := HM.out.2.2; omega
              have hii : (i : Int) < (M : Int) := by omega
              clear hln hly hxn hgl hgw hgn hce hdn
              go_wp2_with (at_builtin; refine wpList_append_own_at _ rfl _ _ 104 rfl B 5 i0 _ 1 1 Tryz.underlying104 hi0 hz0 hz1 hz2 rfl (by omega) (.slice Ay ly cy) ly _ rfl HOWN.out ⟨wr.heap.size, 0, none⟩ 1 1 [.int .u8 (xn : Int)] rfl rfl (byte_new _ _ _) (by simp [Value.oneCell']) (by simp only [maxLen]; omega) (by omega) (Nat.le_trans hB1 hA.out.size) ?_; intro v' w3 hr3 hg3 ha3 hat3; obtain ⟨Av', cv', hv'⟩ := own_slice hr3; subst hv'; have HR3 := Lib.hid (And.intro hr3 (And.intro hg3 hat3)); clear hr3 hg3 ha3 hat3)
              go_roundw
              case rel => exact ⟨i, ly + 1, Av', cv', by omega, rfl, int_eq (by omega), by have := HLN.out.2.1; omega, Lib.hid (by
                have h := hh.out.append (x := x) hA.out HLN.out.1 (by rw [HLN.out.2.2.2.1]) HR3.out.1 HR3.out.2.1 HR3.out.2.2
                rw [List.append_assoc] at h
                rw [rev_step HLN.out.2.2.2.2, HLN.out.2.2.1]
                exact h)⟩
              case measure => simp [intOf]
end Go.Proofs.YtgccfdfbnhldbaaGreatDoor.Nb

namespace Go.Proofs.YtgccfdfbnhldbaaGreatDoor.Nb
open Go Go.RowKit

/-- a number of words outlives what grows another block -/
theorem MagN.grownA {w w' : World} {A : Option Addr} {k c n L : Nat} {o : Option Nat} (h : MagN w (.slice A k c) n L) (hk : w.grownBy w' o) (hne : ∀ a, A = some a → o ≠ some a.block) : MagN w' (.slice A k c) n L := by
  obtain ⟨ws, ⟨A', c', e, h2, h3, h4, h5⟩, h6⟩ := h
  have e' := e
  injection e with e1 e2 e3
  subst e1
  refine ⟨ws, ⟨_, c', e', h2, h3, h4, fun hl => ?_⟩, h6⟩
  obtain ⟨b, off, hb0, hb, hc⟩ := h5 hl
  have hn := hne _ hb0
  exact ⟨b, off, hb0, Nat.lt_of_lt_of_le hb hk.size, fun j hj => (World.cell?_of_block (hk.block b hb hn.symm)).trans (hc j hj)⟩
/-- the digits below a scale -/
def wd (i : Nat) : Nat := 19 * 2 ^ i
/-- scales in memory: powers of ten, by how many noughts they have -/
def ScAt (w : World) (A : Option Addr) (n Ls : Nat) : Prop :=
  n = 0 ∨ ∃ g, A = some ⟨g, 0, none⟩ ∧ g < w.heap.size ∧ ∀ i, i < n → ∃ A' k' c', w.cell? ⟨g, 2 * i, none⟩ = some (.slice A' k' c') ∧ w.cell? ⟨g, 2 * i + 1, none⟩ = some (.int .i64 (wd i : Nat)) ∧ MagN w (.slice A' k' c') (10 ^ wd i) Ls
theorem ScAt.less {w : World} {A : Option Addr} {n m Ls : Nat} (h : ScAt w A n Ls) (hm : m ≤ n) : ScAt w A m Ls := by
  rcases h with rfl | ⟨g, h1, h2, h3⟩
  · exact .inl (by omega)
  · exact .inr ⟨g, h1, h2, fun i hi => h3 i (by omega)⟩
theorem wd_succ (n : Nat) : wd (n + 1) = 2 * wd n := by unfold wd; rw [Nat.pow_succ]; omega

theorem mag_ltB {w : World} {v : Value} {X L : Nat} (h : MagN w v X L) : X < 18446744073709551616 ^ L := by
  obtain ⟨ws, ⟨A, c, -, -, h2, h3, h4⟩, h5, h6, h7⟩ := h
  have h8 := val_lt h3
  rw [h6] at h8
  exact Nat.lt_of_lt_of_le h8 (Nat.pow_le_pow_right (by omega) h7)
theorem RwO.trans {w0 w w' : World} {B : Nat} {v0 v v' : Value} {bs bs' : List UInt8} (h : RwO w0 w B v0 v bs) (k : RwO w w' B v v' bs') : RwO w0 w' B v0 v' bs' := by
  refine ⟨k.row, ⟨k.gr.os.trans h.gr.os, k.gr.tape.trans h.gr.tape, k.gr.output.trans h.gr.output, Nat.le_trans h.gr.size k.gr.size, fun i hi hne => ?_⟩, ?_⟩
  · refine (k.gr.block i (Nat.lt_of_lt_of_le hi h.gr.size) fun e => ?_).trans (h.gr.block i hi hne)
    rcases h.own with h1 | ⟨g, h1, h3⟩
    · exact hne (e.trans h1)
    · rw [h1] at e; injection e with e; omega
  · rcases k.own with h1 | ⟨g, h1, h3⟩
    · rw [h1]; exact h.own
    · exact .inr ⟨g, h1, Nat.le_trans h.gr.size h3⟩

set_option maxRecDepth 8000 in
set_option maxHeartbeats 8000000 in
theorem spread_step (w0 : World) (n : Nat) (A : Option Addr) (c Ls : Nat) (hS : ScAt w0 A (n + 1) Ls) (hc : n + 1 ≤ c) (hLs : Ls ≤ 100000) (hLs1 : 1 ≤ Ls) (hn : n ≤ 10)
    (IH : ∀ (w : World) (v u : Value) (bs : List UInt8) (N L : Nat) (least : Int), Below w0.heap.size w0 w → Row w w0.heap.size v bs → MagN w u N L → 1 ≤ L → L ≤ 100000 → (bs ++ padD least.toNat (dig N)).length ≤ 1000000 → -1000000 ≤ least - 19 * 2 ^ n →
      Calls Tryz.prog 197 #[v, u, .int .u64 10, .slice A n c, .int .i64 least] w fun e w' => ∃ v', e = .returned v' ∧ RwO w w' w0.heap.size v v' (bs ++ padD least.toNat (dig N)))
    (w : World) (v u : Value) (bs : List UInt8) (N L : Nat) (least : Int) (hw : Below w0.heap.size w0 w) (hr : Row w w0.heap.size v bs) (hu : MagN w u N L) (hL1 : 1 ≤ L) (hL : L ≤ 100000) (hlen : (bs ++ padD least.toNat (dig N)).length ≤ 1000000) (hle : -1000000 ≤ least - 19 * 2 ^ (n + 1)) :
    Calls Tryz.prog 197 #[v, u, .int .u64 10, .slice A (n + 1) c, .int .i64 least] w fun e w' => ∃ v', e = .returned v' ∧ RwO w w' w0.heap.size v v' (bs ++ padD least.toNat (dig N)) := by
  have hlen2 : bs.length ≤ 1000000 ∧ (revDig N).length ≤ 1000000 ∧ least ≤ 1000000 := by
    rw [List.length_append, padD_len] at hlen
    unfold dig at hlen
    rw [List.length_reverse] at hlen
    omega
  have hp2 : (0 : Int) < 2 ^ n := by
    have := Nat.two_pow_pos n
    have e : ((2 ^ n : Nat) : Int) = 2 ^ n := by rw [Int.natCast_pow]; rfl
    omega
  by_cases hsm : N < 18446744073709551616 ^ 4
  · exact spread_base w0.heap.size v u bs N L A (n + 1) c least w hr hw.size hu (.inr hsm) (by omega) hlen2.1 hlen2.2.1 ⟨by rw [Int.pow_succ] at hle; omega, hlen2.2.2⟩
  · rcases hS with h0 | ⟨g, rfl, hg, hsc⟩
    · omega
    · obtain ⟨Av, cv, hvv⟩ := hr.len
      obtain ⟨lb, hlb⟩ : ∃ lb, bs.length = lb := ⟨_, rfl⟩
      rw [hlb] at hvv
      subst hvv
      obtain ⟨A0, k, c0, rfl⟩ := hu.slice
      have hk5 : ¬ k < 5 := by
        obtain ⟨ws, ⟨A', c', e, hm⟩, h2, h3, h4⟩ := hu
        injection e with _ e _
        intro hk
        have h5 := val_lt hm.2.2.1
        rw [h3] at h5
        have h6 : 18446744073709551616 ^ ws.length ≤ 18446744073709551616 ^ 4 := Nat.pow_le_pow_right (by omega) (by omega)
        omega
      obtain ⟨AP, kP, cP, p0, p1, p2⟩ := hsc n (by omega)
      obtain ⟨T, hT⟩ : ∃ T, 10 ^ wd n = T := ⟨_, rfl⟩
      obtain ⟨W, hW⟩ : ∃ W, wd n = W := ⟨_, rfl⟩
      have hT0 : 0 < T := by rw [← hT]; exact Nat.pow_pos (by omega)
      rw [hT] at p2
      rw [hW] at p1
      have hWl : W ≤ 19456 := by
        rw [← hW]; unfold wd
        have : 2 ^ n ≤ 2 ^ 10 := Nat.pow_le_pow_right (by omega) hn
        have e : (2 : Nat) ^ 10 = 1024 := by decide
        omega
      have hgw : g < w.heap.size := Nat.lt_of_lt_of_le hg hw.size
      have q0 := (hw.cell (p := ⟨g, 2 * n, none⟩) hg).trans p0
      have q1 := (hw.cell (p := ⟨g, 2 * n + 1, none⟩) hg).trans p1
      have HS := Lib.hid (And.intro hr (And.intro hu (And.intro (p2.below hw) (And.intro hw (And.intro hlb hW)))))
      have HX := Lib.hid (And.intro hlen (And.intro hle (And.intro hT hT0)))
      have HIH := Lib.hid IH
      rw [Nat.mul_comm 2 n] at q0 q1
      have q0' := fun (o : Obj) => (show (w.alloc o).cell? ⟨g, n * 2, none⟩ = some (.slice AP kP cP) from (((Below.refl w.heap.size w).alloc (Nat.le_refl _) o).cell (p := ⟨g, n * 2, none⟩) hgw).trans q0)
      have q1' := fun (o : Obj) => (show (w.alloc o).cell? ⟨g, n * 2 + 1, none⟩ = some (.int .i64 (W : Int)) from (((Below.refl w.heap.size w).alloc (Nat.le_refl _) o).cell (p := ⟨g, n * 2 + 1, none⟩) hgw).trans q1)
      have hwn : IntKind.i64.wrap (n : Int) = (n : Int) := by rw [IntKind.wrap_i64]; omega
      have hni : ((n + 1 : Nat) : Int) = (n : Int) + 1 := by omega
      have hkn : ((n : Int) + 1 == 0) = false := by simp; omega
      have hk5b : decide ((k : Int) < 5) = false := decide_eq_false (by omega)
      have hi0 : (0 : Int) ≤ (n : Int) := by omega
      have hi1 : (n : Int) < (n : Int) + 1 := by omega
      have hnn : (n : Int) ≤ (c : Int) := by omega
      clear hr hu hlen hle IH hsc p0 p1 p2 hlb hW hT hT0 hw hsm hp2 hlen2
      go_enter Tryz.func197, Tryz.ntmps197
      go_wp2_with fail
      clear hkn hk5b
      go_region
      obtain ⟨W1, hW1⟩ : ∃ W1, (w.alloc (.cells #[.slice AP kP cP, .int .i64 (W : Int)] 241)).drew = W1 := ⟨_, rfl⟩
      have h01 : Below w.heap.size w W1 := by rw [← hW1]; exact ((Below.refl _ _).alloc (Nat.le_refl _) _).drew
      have b0 : W1.cell? ⟨w.heap.size, 0, none⟩ = some (.slice AP kP cP) := by rw [← hW1]; simp [go_sem]
      have b1 : W1.cell? ⟨w.heap.size, 1, none⟩ = some (.int .i64 (W : Int)) := by rw [← hW1]; simp [go_sem]
      have hbl : w.heap.size < W1.heap.size := by rw [← hW1]; simp
      rw [hW1]
      have HCM := Lib.hid (compare_any (.slice A0 k c0) (.slice AP kP cP) N T (L + Ls) W1 ((HS.out.2.1.below h01).more (by omega)) ((HS.out.2.2.1.below h01).more (by omega)) (by omega))
      obtain ⟨cm, hcm⟩ : ∃ cm, cmpN N T = cm := ⟨_, rfl⟩
      rw [hcm] at HCM
      have HB := Lib.hid (And.intro h01 (And.intro b0 (And.intro b1 hbl)))
      clear q0 q1 q0' q1' hW1 b1 hwn h01
      go_wp2_with fail
      refine HCM.out.mono ?_
      rintro e w2 ⟨rfl, dr, rfl⟩
      have H2 : Hid (Below w.heap.size w (W1.drewN dr) ∧ (W1.drewN dr).cell? ⟨w.heap.size, 0, none⟩ = some (.slice AP kP cP) ∧ (W1.drewN dr).cell? ⟨w.heap.size, 1, none⟩ = some (.int .i64 (W : Int)) ∧ w.heap.size < (W1.drewN dr).heap.size) := Lib.hid ⟨below_dN HB.out.1 dr, HB.out.2.1, HB.out.2.2.1, HB.out.2.2.2⟩
      clear b0 hbl HCM HB
      generalize W1.drewN dr = W2 at *
      have HW2 := Lib.hid (HS.out.2.2.2.1.trans (H2.out.1.mono HS.out.2.2.2.1.size))
      by_cases hlt : N < T
      · have hcm0 : cm < 0 := by rw [← hcm]; unfold cmpN; rw [if_pos hlt]; omega
        have HI := Lib.hid (HIH.out W2 (.slice Av lb cv) (.slice A0 k c0) bs N L least HW2.out (own_below HS.out.1 H2.out.1) (HS.out.2.1.below H2.out.1) hL1 hL HX.out.1 (by
          have h9 := HX.out.2.1
          rw [Int.pow_succ] at h9
          have hp2 : (0 : Int) ≤ 2 ^ n := by
            have hpp := Nat.two_pow_pos n
            have e : ((2 ^ n : Nat) : Int) = 2 ^ n := by rw [Int.natCast_pow]; rfl
            omega
          omega))
        clear hcm hlt
        go_wp2_with fail
        refine HI.out.mono ?_
        rintro e w3 ⟨v', rfl, hrw⟩
        have HF := Lib.hid (hrw.from H2.out.1)
        clear hrw
        go_wp2_with fail
        go_ret
        exact ⟨_, rfl, HF.out⟩
      · have hcm0 : ¬ cm < 0 := by rw [← hcm]; unfold cmpN; rw [if_neg hlt]; split <;> omega
        obtain ⟨c0', c1', hbl2⟩ := id H2.out.2
        have HQ := Lib.hid (quotient_new (.slice A0 k c0) (.slice AP kP cP) N T (L + Ls) W2 ((HS.out.2.1.below H2.out.1).more (by omega)) ((HS.out.2.2.1.below H2.out.1).more (by omega)) HX.out.2.2.2 (by omega) (by omega) (by omega))
        obtain ⟨q, hq⟩ : ∃ q, N / T = q := ⟨_, rfl⟩
        obtain ⟨r, hr⟩ : ∃ r, N % T = r := ⟨_, rfl⟩
        rw [hq, hr] at HQ
        have HD : Hid (N = q * 10 ^ W + r ∧ r < 10 ^ W ∧ q ≠ 0) := Lib.hid (by
          rw [HS.out.2.2.2.2.2] at HX
          have hT := HX.out.2.2.1
          rw [hT]
          have hT0 := HX.out.2.2.2
          have h1 := Nat.div_add_mod N T
          have h2 := Nat.mod_lt N hT0
          have h3 := Nat.div_pos (Nat.le_of_not_lt hlt) hT0
          rw [hq, hr, Nat.mul_comm] at h1
          rw [hr] at h2
          rw [hq] at h3
          exact ⟨h1.symm, h2, by omega⟩)
        clear hcm hlt c1' hq hr
        go_wp2_with fail
        refine HQ.out.mono ?_
        rintro e w3 ⟨Aq, kq, cq, Ar, kr, cr, rfl, mq, mr, b3, hnew⟩
        have hb03 : Below w.heap.size w w3 := H2.out.1.trans (b3.mono H2.out.1.size)
        have H3 : Hid (Below w.heap.size w w3 ∧ MagN w3 (.slice Aq kq cq) q (L + Ls) ∧ MagN w3 (.slice Ar kr cr) r (L + Ls) ∧ NewO w Ar) := Lib.hid ⟨hb03, mq, mr, hnew.back H2.out.1.size⟩
        have hbx : w3.cell? ⟨w.heap.size, 1, none⟩ = some (.int .i64 (W : Int)) := (b3.cell (p := ⟨w.heap.size, 1, none⟩) hbl2).trans H2.out.2.2.1
        have hown : ∀ g', Value.ownBlock (.slice Av lb cv) = some g' → g' < w.heap.size := HS.out.1.own_lt
        have hp2 : (W : Int) = 19 * 2 ^ n := by
          rw [← HS.out.2.2.2.2.2]; unfold wd; rw [Int.natCast_mul, Int.natCast_pow]; rfl
        have hle1 : -1000000 ≤ least - (W : Int) - 19 * 2 ^ n := by
          have h9 := HX.out.2.1
          rw [Int.pow_succ] at h9
          omega
        have hle2 : least ≤ 1000000 := by
          have h9 := HX.out.1
          rw [List.length_append, padD_len] at h9
          omega
        have hwn0 : (0 : Int) ≤ (W : Int) := by omega
        have hle3 : -1000000 ≤ least := by omega
        have hsp := pad_split (least := least.toNat) HD.out.1 HD.out.2.1 HD.out.2.2
        rw [show least.toNat - W = (least - (W : Int)).toNat by omega] at hsp
        have HSP := Lib.hid hsp
        obtain ⟨bs1, hbs1⟩ : ∃ bs1, bs ++ padD (least - (W : Int)).toNat (dig q) = bs1 := ⟨_, rfl⟩
        have hbs2 : bs1 ++ padD W (dig r) = bs ++ padD least.toNat (dig N) := by rw [← hbs1, List.append_assoc, hsp]
        have hNL := mag_ltB HS.out.2.1
        have mq' := mq.less (L' := L) (by have := HD.out.1; have h9 : q * 1 ≤ q * 10 ^ W := Nat.mul_le_mul_left _ (Nat.pow_pos (by omega)); omega)
        have mr' := mr.less (L' := L) (by have := HD.out.1; omega)
        have HC1 : Hid (∀ V : World, Below w3.heap.size w3 V → Calls Tryz.prog 197 #[.slice Av lb cv, .slice Aq kq cq, .int .u64 10, .slice (some ⟨g, 0, none⟩) n c, .int .i64 (least - (W : Int))] V fun e w' => ∃ v', e = .returned v' ∧ RwO V w' w0.heap.size (.slice Av lb cv) v' bs1) := Lib.hid (by
          intro V hV
          have h9 := HIH.out V (.slice Av lb cv) (.slice Aq kq cq) bs q L (least - (W : Int)) (HS.out.2.2.2.1.trans ((hb03.trans (hV.mono hb03.size)).mono HS.out.2.2.2.1.size)) (own_below HS.out.1 (hb03.trans (hV.mono hb03.size))) (mq'.below hV) hL1 hL (by
            have h8 := HX.out.1
            rw [← hbs2, ← hbs1] at h8
            rw [List.length_append] at h8
            omega) hle1
          rw [hbs1] at h9
          exact h9)
        have HC2 : Hid (∀ (V V4 : World) (v1 : Value), Below w3.heap.size w3 V → RwO V V4 w0.heap.size (.slice Av lb cv) v1 bs1 → Calls Tryz.prog 197 #[v1, .slice Ar kr cr, .int .u64 10, .slice (some ⟨g, 0, none⟩) n c, .int .i64 (W : Int)] V4 fun e w' => ∃ v', e = .returned v' ∧ RwO V4 w' w0.heap.size v1 v' (bs ++ padD least.toNat (dig N))) := Lib.hid (by
          intro V V4 v1 hV h1
          have hbV : Below w.heap.size w V := hb03.trans (hV.mono hb03.size)
          have hB0 : Below w0.heap.size w0 V := HS.out.2.2.2.1.trans (hbV.mono HS.out.2.2.2.1.size)
          have hB4 : Below w0.heap.size w0 V4 := hB0.grown h1.gr hB0.size (fun k hk => (World.ownsRow.lt HS.out.1 k hk).1)
          have h9 := HIH.out V4 v1 (.slice Ar kr cr) bs1 r L (W : Int) hB4 h1.row ((mr'.below hV).grownA h1.gr (fun a ha e => by
            have g1 := HS.out.1.own_lt _ e
            have g2 := H3.out.2.2.2 a ha
            omega)) hL1 hL (by rw [Int.toNat_natCast, hbs2]; exact HX.out.1) (by omega)
          rw [Int.toNat_natCast, hbs2] at h9
          exact h9)
        have HF : Hid (∀ (V V4 V5 : World) (v1 v2 : Value), Below w3.heap.size w3 V → RwO V V4 w0.heap.size (.slice Av lb cv) v1 bs1 → RwO V4 V5 w0.heap.size v1 v2 (bs ++ padD least.toNat (dig N)) → RwO w V5 w0.heap.size (.slice Av lb cv) v2 (bs ++ padD least.toNat (dig N))) := Lib.hid (fun V V4 V5 v1 v2 hV h1 h2 => (h1.trans h2).from (hb03.trans (hV.mono hb03.size)))
        have hb3l : w.heap.size < w3.heap.size := Nat.lt_of_lt_of_le hbl2 b3.size
        have hne : Value.ownBlock (.slice Av lb cv) ≠ some w.heap.size := fun e => by have := hown _ e; omega
        have HK5 : Hid (∀ (V4 V5 : World) (v1 v2 : Value), Below w3.heap.size w3 w3.drew → RwO w3.drew V4 w0.heap.size (.slice Av lb cv) v1 bs1 → RwO V4 V5 w0.heap.size v1 v2 (bs ++ padD least.toNat (dig N)) → V4.cell? ⟨w.heap.size, 1, none⟩ = some (.int .i64 (W : Int)) → V5.cell? ⟨w.heap.size, 1, none⟩ = some (.int .i64 (W : Int))) := Lib.hid (fun V4 V5 v1 v2 _ h1 h2 h4 => by
          have hs4 := h1.gr.size
          have hs3 : w3.drew.heap.size = w3.heap.size := rfl
          refine (h2.cell (p := ⟨w.heap.size, 1, none⟩) (by show w.heap.size < V4.heap.size; omega) ?_).trans h4
          rcases h1.own with e | ⟨g', e, hg'⟩
          · rw [e]; exact hne
          · rw [e]; intro e2; injection e2 with e2; simp at e2; omega)
        have HNE := Lib.hid hne
        have HBX : Hid (w3.drew.cell? ⟨w.heap.size, 1, none⟩ = some (.int .i64 (W : Int))) := Lib.hid hbx
        have HK4 : Hid (∀ (V4 : World) (v1 : Value), RwO w3.drew V4 w0.heap.size (.slice Av lb cv) v1 bs1 → V4.cell? ⟨w.heap.size, 1, none⟩ = some (.int .i64 (W : Int))) := Lib.hid (fun V4 v1 h1 => (h1.cell (p := ⟨w.heap.size, 1, none⟩) hb3l hne).trans hbx)
        clear mq mr b3 hnew c0' hp2 hle1 hsp HQ hb03 mq' mr' hbs1 hbs2 hNL hown hne hbx
        go_wp2_with fail
        have hcur : Below w3.heap.size w3 w3.drew := (Below.refl _ _).drew
        have hwr : IntKind.i64.wrap (least - (W : Int)) = least - (W : Int) := by rw [IntKind.wrap_i64]; omega
        clear hni hi0 hi1 hnn hLs hWl hgw hc hcm0 hk5 hL hL1 hn hLs1 hle2
        go_region_held3 (fun w' => w'.cell? ⟨w.heap.size, 1, none⟩ = some (.int .i64 (W : Int)))
          (first | exact hk5 | exact hk4 | exact HBX.out)
          (first | (go_at_call_of 197 (Value.slice Aq kq cq); refine (HC1.out _ hcur).mono ?_; rintro e w4 ⟨v1, rfl, h1⟩; have hk4 := HK4.out _ _ h1) | (go_at_call_of 197 (Value.slice Ar kr cr); refine (HC2.out _ _ v1 hcur h1).mono ?_; rintro e w5 ⟨v2, rfl, h2⟩; have HFF := Lib.hid (HF.out _ _ _ _ _ hcur h1 h2); have hk5 := HK5.out _ _ _ _ hcur h1 h2 hk4))
        go_wp2_with fail
        go_ret
        exact ⟨_, rfl, HFF.out⟩
/-- spread: a number's digits behind others, with noughts ahead, whatever the scales -/
theorem spread_any (w0 : World) (Ls : Nat) (hLs : Ls ≤ 100000) (hLs1 : 1 ≤ Ls) : ∀ (n : Nat), n ≤ 11 → ∀ (A : Option Addr) (c : Nat), ScAt w0 A n Ls → n ≤ c → ∀ (w : World) (v u : Value) (bs : List UInt8) (N L : Nat) (least : Int), Below w0.heap.size w0 w → Row w w0.heap.size v bs → MagN w u N L → 1 ≤ L → L ≤ 100000 → (bs ++ padD least.toNat (dig N)).length ≤ 1000000 → -1000000 ≤ least - 19 * 2 ^ n →
      Calls Tryz.prog 197 #[v, u, .int .u64 10, .slice A n c, .int .i64 least] w fun e w' => ∃ v', e = .returned v' ∧ RwO w w' w0.heap.size v v' (bs ++ padD least.toNat (dig N))
  | 0, _, A, c, _, _, w, v, u, bs, N, L, least, hw, hr, hu, _, hL, hlen, hle => by
    have hlen2 : bs.length ≤ 1000000 ∧ (revDig N).length ≤ 1000000 ∧ least ≤ 1000000 := by
      rw [List.length_append, padD_len] at hlen
      unfold dig at hlen
      rw [List.length_reverse] at hlen
      omega
    exact spread_base w0.heap.size v u bs N L A 0 c least w hr hw.size hu (.inl rfl) (by omega) hlen2.1 hlen2.2.1 ⟨by simp at hle; omega, hlen2.2.2⟩
  | n + 1, hn, A, c, hS, hc, w, v, u, bs, N, L, least, hw, hr, hu, hL1, hL, hlen, hle =>
    spread_step w0 n A c Ls hS hc hLs hLs1 (by omega) (fun w v u bs N L least h1 h2 h3 h4 h5 h6 h7 => spread_any w0 Ls hLs hLs1 n (by omega) A c (hS.less (by omega)) (by omega) w v u bs N L least h1 h2 h3 h4 h5 h6 h7) w v u bs N L least hw hr hu hL1 hL hlen hle
end Go.Proofs.YtgccfdfbnhldbaaGreatDoor.Nb

namespace Go.Proofs.YtgccfdfbnhldbaaGreatDoor.Nb
open Go Go.RowKit

/-- scales, one behind the other -/
def flatV : List Value → Nat → List Value
  | [], _ => []
  | v :: l, i => v :: .int .i64 (wd i : Nat) :: flatV l (i + 1)
theorem flatV_snoc : ∀ (l : List Value) (i : Nat) (v : Value), flatV (l ++ [v]) i = flatV l i ++ [v, .int .i64 (wd (i + l.length) : Nat)]
  | [], i, v => by simp [flatV]
  | a :: l, i, v => by
    simp only [List.cons_append, flatV, flatV_snoc l (i + 1) v, List.length_cons]
    rw [show i + 1 + l.length = i + (l.length + 1) by omega]
theorem flatV_at : ∀ (l : List Value) (i j : Nat), j < l.length → (flatV l i)[2 * j]? = l[j]? ∧ (flatV l i)[2 * j + 1]? = some (.int .i64 (wd (i + j) : Nat))
  | [], _, _, h => by simp at h
  | v :: l, i, 0, _ => by simp [flatV]
  | v :: l, i, j + 1, h => by
    obtain ⟨h1, h2⟩ := flatV_at l (i + 1) j (by simp at h; omega)
    rw [show 2 * (j + 1) = 2 * j + 1 + 1 by omega]
    simp only [flatV, List.getElem?_cons_succ]
    exact ⟨h1, by rw [h2, show i + 1 + j = i + (j + 1) by omega]⟩
/-- the scales made so far, in memory -/
structure ScR (w : World) (B : Nat) (v : Value) (vs : List Value) (Ls : Nat) : Prop where
  row : w.ownsRow B 241 2 v vs.length (flatV vs 0)
  num : ∀ i, i < vs.length → ∃ A k c, vs[i]? = some (.slice A k c) ∧ MagN w (.slice A k c) (10 ^ wd i) Ls ∧ ∀ a, A = some a → v.ownBlock ≠ some a.block
theorem ScR.below {w w' : World} {B : Nat} {v : Value} {vs : List Value} {Ls : Nat} (h : ScR w B v vs Ls) (k : Below w.heap.size w w') : ScR w' B v vs Ls :=
  ⟨own_below h.row k, fun i hi => by
    obtain ⟨A, kk, c, h1, h2, h3⟩ := h.num i hi
    exact ⟨A, kk, c, h1, h2.below k, h3⟩⟩
theorem MagN.blk_lt {w : World} {A : Option Addr} {k c n L : Nat} (h : MagN w (.slice A k c) n L) (hn : 0 < n) : ∃ b off, A = some ⟨b, off, none⟩ ∧ b < w.heap.size := by
  obtain ⟨ws, ⟨A', c', e, h2, h3, h4, h5⟩, h6, h7, h8⟩ := h
  injection e with e1 e2 e3
  subst e1
  have hl : 0 < ws.length := by
    rcases Nat.eq_zero_or_pos ws.length with q | q
    · rw [List.length_eq_zero_iff.1 q] at h7; simp [val] at h7; omega
    · exact q
  obtain ⟨b, off, hb0, hb, -⟩ := h5 hl
  exact ⟨b, off, hb0, hb⟩
/-- one scale more -/
theorem ScR.append {w wa w3 : World} {B Ls : Nat} {v v' : Value} {vs : List Value} {A : Option Addr} {k c : Nat} (h : ScR w B v vs Ls) (ha : Below w.heap.size w wa) (hm : MagN w (.slice A k c) (10 ^ wd vs.length) Ls) (hne : ∀ a, A = some a → v.ownBlock ≠ some a.block)
    (hr : w3.ownsRow B 241 2 v' (vs.length + 1) (flatV vs 0 ++ [.slice A k c, .int .i64 (wd vs.length : Nat)])) (hg : wa.grownBy w3 v.ownBlock) (hat : v'.ownBlock = v.ownBlock ∨ v'.ownBlock = some wa.heap.size) : ScR w3 B v' (vs ++ [.slice A k c]) Ls := by
  have hnew : ∀ (A : Option Addr) (k c n : Nat), 0 < n → MagN w (.slice A k c) n Ls → (∀ a, A = some a → v.ownBlock ≠ some a.block) → ∀ a, A = some a → v'.ownBlock ≠ some a.block := by
    intro A k c n hn hm hne a ha'
    rcases hat with e | e
    · rw [e]; exact hne a ha'
    · rw [e]
      intro e2
      injection e2 with e2
      obtain ⟨b, off, hb0, hb⟩ := hm.blk_lt hn
      rw [ha'] at hb0
      injection hb0 with hb0
      rw [hb0] at e2
      have := ha.size
      simp at e2
      omega
  refine ⟨?_, fun i hi => ?_⟩
  · rw [List.length_append, List.length_cons, List.length_nil, flatV_snoc, show 0 + vs.length = vs.length by omega]
    exact hr
  · rw [List.length_append, List.length_cons, List.length_nil] at hi
    by_cases hl : i < vs.length
    · obtain ⟨A', k', c', h1, h2, h3⟩ := h.num i hl
      exact ⟨A', k', c', by rw [List.getElem?_append_left hl]; exact h1, (h2.below ha).grownA hg h3, hnew _ _ _ _ (Nat.pow_pos (by omega)) h2 h3⟩
    · obtain rfl : i = vs.length := by omega
      exact ⟨A, k, c, by simp, (hm.below ha).grownA hg hne, hnew _ _ _ _ (Nat.pow_pos (by omega)) hm hne⟩
/-- the scales as spread takes them -/
theorem ScR.at {w : World} {B Ls : Nat} {A : Option Addr} {n c : Nat} {vs : List Value} (h : ScR w B (.slice A n c) vs Ls) (hn : vs.length = n) : ScAt w A n Ls ∧ n ≤ c := by
  subst hn
  have hrow := h.row
  rcases hrow.2 with ⟨h1, h2⟩ | ⟨g, cap, cur, h1, h2, h3, h4, h5⟩
  · exact ⟨.inl (by omega), by omega⟩
  · injection h1 with e1 e2 e3
    subst e1 e3
    refine ⟨.inr ⟨g, rfl, (Array.getElem?_eq_some_iff.1 h3).1, fun i hi => ?_⟩, by omega⟩
    obtain ⟨A', k', c', g1, g2, -⟩ := h.num i hi
    obtain ⟨f1, f2⟩ := flatV_at vs 0 i hi
    rw [g1] at f1
    rw [Nat.zero_add] at f2
    exact ⟨A', k', c', (World.ownsRow.cellAt hrow (2 * i) (by omega)).trans f1, (World.ownsRow.cellAt hrow (2 * i + 1) (by omega)).trans f2, g2⟩
/-- so many scales are enough -/
theorem wd_words {w : World} {A : Option Addr} {k c i L : Nat} (h : MagN w (.slice A k c) (10 ^ wd i) L) : 63 * 2 ^ i < 64 * k := by
  obtain ⟨ws, ⟨A', c', e, hm⟩, h2, h3, h4⟩ := h
  injection e with _ e _
  have h5 := val_lt hm.2.2.1
  rw [h3, ← e] at h5
  have h6 : (2 : Nat) ^ (63 * 2 ^ i) ≤ 10 ^ wd i := by
    unfold wd
    rw [Nat.pow_mul, Nat.pow_mul]
    exact Nat.pow_le_pow_left (by decide) _
  have h7 : (18446744073709551616 : Nat) ^ k = 2 ^ (64 * k) := by rw [Nat.pow_mul]
  rw [h7] at h5
  exact (Nat.pow_lt_pow_iff_right (by omega)).1 (Nat.lt_of_le_of_lt h6 h5)
end Go.Proofs.YtgccfdfbnhldbaaGreatDoor.Nb
