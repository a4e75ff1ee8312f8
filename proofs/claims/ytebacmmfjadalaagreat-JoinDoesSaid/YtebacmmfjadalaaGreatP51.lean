/- V10 V11 in one text. -/
import Derived.Test.YtebacmmfjadalaaGreatP44
import Derived.Test.YtebacmmfjadalaaGreatP50
import Derived.Test.YtebacmmfjadalaaGreatP49

namespace Go.Proofs.YtebacmmfjadalaaGreat
open Go Go.RowKit

theorem pushE_parts {sns : List Sn} {se st : Int} {n : Nat} {bs : List Nat} {s : Sn} (h : pushE sns se st n bs = 0) (hs : sns[se.toNat]? = some s) : chkE se n bs = 0 ∧ Ck.unwE s.last st = 0 ∧ Ck.timeE s.o s.n s.d (Ck.unwV s.last st) = 0 := by
  unfold pushE at h
  split at h
  · rename_i q; exact absurd h q
  · rename_i q
    rw [hs] at h
    simp only at h
    split at h
    · rename_i q2; exact absurd h q2
    · rename_i q2
      exact ⟨by simpa using q, by simpa using q2, h⟩
theorem pushK_one {j : Jn} {s : Sn} {sq t : Int} (h : pushK j s sq t = 1) : known s sq = false ∧ tooOld s sq = false := by
  unfold pushK at h
  split at h
  · simp at h
  · rename_i q
    split at h
    · simp at h
    · rename_i q2
      exact ⟨by simpa using q, by simpa using q2⟩
theorem cntO_same (o : OJ) (k : Int) : (cntO o k).cl = o.cl ∧ (cntO o k).sen = o.sen ∧ (cntO o k).wait = o.wait ∧ (cntO o k).win = o.win ∧ (cntO o k).top = o.top ∧ (cntO o k).any = o.any ∧ (cntO o k).bound = o.bound := by
  unfold cntO
  split
  · exact ⟨rfl, rfl, rfl, rfl, rfl, rfl, rfl⟩
  · split <;> exact ⟨rfl, rfl, rfl, rfl, rfl, rfl, rfl⟩
theorem FO.cnt {y sb : Nat} {o : OJ} {oss : List OS} {k : Int} {b : Nat} (h : FO y sb (cntO o k) oss b) : FO y sb o oss b := by
  unfold FO at h ⊢
  rw [(cntO_same o k).2.2.1] at h
  exact h

theorem opush_how (y sb B : Nat) (o : OJ) (oss : List OS) (ys : List El) (cs : List (Int × Int × Int)) (j : Jn) (sns : List Sn) (xs told : List El) (se sq st : Int) (A : Option Addr) (n c : Nat) (bs : List Nat) (w : World) (hi : OI w y sb B o oss ys) (hro : RO cs j sns xs o oss ys) (Ac : Option Addr) (cc : Nat) (hcl : o.cl = .slice Ac cs.length cc) (hc : ClRow w Ac cs)
    (hfl : FlAt w A n bs) (hl : n * 8 ≤ 140737488355328) (h64 : Lt64 bs) (st0 : 0 ≤ st) (st1 : st ≤ 4294967295) (q0 : 0 ≤ sq) (q1 : sq ≤ 4294967295) (hjp : JP j sns xs told) (k : Nat) (hk : k ≤ 4000) (few : j.ct ≤ (k : Int) ∧ j.cd ≤ (k : Int) ∧ j.co ≤ (k : Int) ∧ j.cl ≤ (k : Int)) (hfar : ∀ b f, A = some ⟨b, f, none⟩ → OutO y sb o oss ys b ∧ B ≤ b)
    (kind er : Int) (j' : Jn) (sns' : List Sn) (xs' mid : List El) (hh : PushHow j sns xs se sq st n bs kind er j' sns' xs' mid) :
    Calls Tryz.prog 13 #[.pointer (some ⟨y, 0, none⟩), .agg #[.int .i64 se, .int .u32 sq, .int .u32 st, .slice A n c]] w fun e w' => ∃ mv o' oss' ys' mid', e = .returned (.tuple #[.int .i64 kind, mv, .int .i64 er]) ∧ Hid (OPL w w' cs y sb B o oss ys A j' sns' xs' mid mv o' oss' ys' mid') := by
  have hnum := hjp.num
  obtain ⟨w1, w2, w3, w4⟩ := few
  have e1 := hro.ct
  have e2 := hro.cd
  have e3 := hro.co
  have e4 := hro.cl
  have e5 := hro.ks
  have e6 := hjp.cnt
  have e7 := hjp.cs
  have n0 := hnum.c0
  have n1 := hnum.d0
  have n2 := hnum.o0
  have n3 := hnum.l0
  have n4 := hnum.k0
  have hlen : ys.length = xs.length := by have := hro.keys.length_eq; simpa using this
  cases hh with
  | bad h f1 f2 f3 f4 f5 f6 =>
    subst f1 f2 f3 f4 f5 f6
    refine (opush_bad y sb B o oss ys cs j' sns' xs' se sq st A n c bs w hi hro Ac cc hcl hc hfl hl h64 st0 st1 h).mono ?_
    rintro e w' ⟨rfl, hb⟩
    exact ⟨_, o, oss, ys, [], rfl, Lib.hid ⟨hi.below hb, hro, rfl, World.ownsRow_nil _ _ _ _, rfl, fun e he => by simp at he, Ft.of_below hb _, fun b hb => .inl hb, fun e he => .inl (by simpa using he)⟩⟩
  | cnt s hs h hk1 hk2 f2 f3 f4 f5 f6 =>
    subst f2 f3 f4 f5 f6
    obtain ⟨p1, p2, p3⟩ := pushE_parts h hs
    obtain ⟨se0, -, -⟩ := chkE_zero p1
    obtain ⟨sN, rfl⟩ := Int.eq_ofNat_of_zero_le se0
    rw [Int.toNat_natCast] at hs
    obtain ⟨u, hu, -⟩ := hro.at hs
    refine (opush_cnt y sb B o oss ys cs j sns' xs' sN sq st A n c bs w hi hro Ac cc hcl hc hfl hl h64 p1 s u hs hu _ _ rfl p2 rfl p3 st0 st1 q0 q1 (by omega) kind hk1.symm hk2 (by omega) (by omega) (by omega) (by omega) (by omega) (by omega)).mono ?_
    rintro e w' ⟨rfl, hp⟩
    exact ⟨_, cntO o kind, oss, ys, [], rfl, Lib.hid ⟨hp.out.1, hro.counted kind, (cntO_same o kind).1, World.ownsRow_nil _ _ _ _, rfl, fun e he => by simp at he, hp.out.2.mono (fun b _ hb => .inl hb), fun b hb => .inl hb.cnt, fun e he => .inl (by simpa using he)⟩⟩
  | took s e0 v' dn hs hse h hk1 f1 f2 hkey hdn hno hl' f3 f4 f5 f6 =>
    subst f1 f2 f3 f4 f5 f6
    obtain ⟨p1, p2, p3⟩ := pushE_parts h hs
    obtain ⟨sN, rfl⟩ := Int.eq_ofNat_of_zero_le hse
    rw [Int.toNat_natCast] at hs ⊢
    obtain ⟨u, hu, -⟩ := hro.at hs
    obtain ⟨g1, g2⟩ := pushK_one hk1
    exact opush_take y sb B o oss ys cs j sns xs sN sq st A n c bs w hi hro Ac cc hcl hc hfl hl h64 p1 s u hs hu _ _ rfl p2 rfl p3 st0 st1 q0 q1 told hjp (by omega) (by omega) (by omega) (by omega) g1 g2 hl' hfar (by omega) e0 hkey v'

/-- both joiners side by side -/
structure BJ (w W : World) (cs : List (Int × Int × Int)) (x B : Nat) (j : Jn) (sns : List Sn) (xs told : List El) (k : Nat) (y sb D : Nat) (o : OJ) (oss : List OS) (ys : List El) (Ac : Option Addr) (cc : Nat) : Prop where
  jr : JR W x B j sns xs told k
  oi : OI W y sb D o oss ys
  ro : RO cs j sns xs o oss ys
  cl : o.cl = .slice Ac cs.length cc
  ap : ∀ b, Out x j xs b ∨ OutO y sb o oss ys b
  wx : w.heap.size ≤ x ∧ ∀ g, j.sen.ownBlock = some g → w.heap.size ≤ g
  wy : w.heap.size ≤ y ∧ w.heap.size ≤ sb
  bel : Below w.heap.size w W
section
variable {w W : World} {cs : List (Int × Int × Int)} {x B : Nat} {j : Jn} {sns : List Sn} {xs told : List El} {k : Nat} {y sb D : Nat} {o : OJ} {oss : List OS} {ys : List El} {Ac : Option Addr} {cc : Nat}
theorem BJ.below (h : BJ w W cs x B j sns xs told k y sb D o oss ys Ac cc) {W' : World} (hb : Below W.heap.size W W') : BJ w W' cs x B j sns xs told k y sb D o oss ys Ac cc :=
  ⟨h.jr.below hb, h.oi.below hb, h.ro, h.cl, h.ap, h.wx, h.wy, h.bel.trans (hb.mono h.bel.size)⟩
theorem BJ.mono (h : BJ w W cs x B j sns xs told k y sb D o oss ys Ac cc) {m : Nat} (hm : k ≤ m) : BJ w W cs x B j sns xs told m y sb D o oss ys Ac cc :=
  ⟨h.jr.mono hm, h.oi, h.ro, h.cl, h.ap, h.wx, h.wy, h.bel⟩
theorem OI.low (h : OI W y sb D o oss ys) {b : Nat} (hb : FO y sb o oss b) {l : Nat} (l1 : l ≤ y) (l2 : l ≤ sb) : l ≤ b := by
  have := h.yB
  rcases hb with q | q | ⟨s, hs, q⟩ | q
  · omega
  · omega
  · have := ((h.nums s hs).lt q).1; omega
  · have := (h.row.lt q).1; omega
theorem OutO.no {b : Nat} (h : OutO y sb o oss ys b) : ¬ FO y sb o oss b := h.own
/-- what one joiner writes is none of the other's -/
theorem BJ.farO (h : BJ w W cs x B j sns xs told k y sb D o oss ys Ac cc) {c : Nat} (hc : c = x ∨ j.sen.ownBlock = some c ∨ j.wait.ownBlock = some c) : OutO y sb o oss ys c := by
  rcases h.ap c with q | q
  · exact absurd hc q.no
  · exact q
theorem BJ.far (h : BJ w W cs x B j sns xs told k y sb D o oss ys Ac cc) {c : Nat} (hc : FO y sb o oss c) : Out x j xs c := by
  rcases h.ap c with q | q
  · exact q
  · exact absurd hc q.own
/-- the program's Push, the reference's still to come -/
structure BP (w W W2 : World) (cs : List (Int × Int × Int)) (x B : Nat) (j : Jn) (sns : List Sn) (xs told : List El) (k : Nat) (y sb D : Nat) (o : OJ) (oss : List OS) (ys : List El) (Ac : Option Addr) (cc : Nat) (j' : Jn) (sns' : List Sn) (xs' mid : List El) : Prop where
  jr : JR W2 x B j' sns' xs' (told ++ mid) (k + 1)
  oi : OI W2 y sb D o oss ys
  ap : ∀ b, Out x j' xs' b ∨ OutO y sb o oss ys b
  bel : Below w.heap.size w W2
  old : BJ w W cs x B j sns xs told k y sb D o oss ys Ac cc
  size : W.heap.size ≤ W2.heap.size
  keep : ∀ c, c < W.heap.size → Out x j xs c → Out x j' xs' c
  sen : j'.sen = j.sen
theorem BJ.push (h : BJ w W cs x B j sns xs told k y sb D o oss ys Ac cc) {W2 : World} {se sq st : Int} {n : Nat} {bs : List Nat} {kind er : Int} {ov : Value} {j' : Jn} {sns' : List Sn} {xs' mid : List El}
    (hp : PushL W W2 x B j sns xs told k se sq st n bs kind er ov j' sns' xs' mid) : BP w W W2 cs x B j sns xs told k y sb D o oss ys Ac cc j' sns' xs' mid := by
  refine ⟨hp.jr, h.oi.ft hp.ft (fun b hb => h.farO hb), fun b => ?_, h.bel.trans (hp.ft.below h.bel.size (fun _ hc => h.jr.bnd h.wx hc)), h, hp.ft.size, fun c hc hq => hp.outs hq hc, hp.sen⟩
  rcases Nat.lt_or_ge b W.heap.size with q | q
  · rcases h.ap b with q2 | q2
    · exact .inl (hp.outs q2 q)
    · exact .inr q2
  · exact .inr (h.oi.out q)
theorem BP.below {W2 W3 : World} {j' : Jn} {sns' : List Sn} {xs' mid : List El} (h : BP w W W2 cs x B j sns xs told k y sb D o oss ys Ac cc j' sns' xs' mid) (hb : Below W2.heap.size W2 W3) : BP w W W3 cs x B j sns xs told k y sb D o oss ys Ac cc j' sns' xs' mid :=
  ⟨h.jr.below hb, h.oi.below hb, h.ap, h.bel.trans (hb.mono h.bel.size), h.old, Nat.le_trans h.size hb.size, h.keep, h.sen⟩
/-- behind both -/
theorem BP.done {W2 W4 : World} {j' : Jn} {sns' : List Sn} {xs' mid : List El} (h : BP w W W2 cs x B j sns xs told k y sb D o oss ys Ac cc j' sns' xs' mid) {A : Option Addr} (hA : ∀ b f, A = some ⟨b, f, none⟩ → Out x j' xs' b) {mv : Value} {o' : OJ} {oss' : List OS} {ys' mid' : List El}
    (hq : OPL W2 W4 cs y sb D o oss ys A j' sns' xs' mid mv o' oss' ys' mid') : BJ w W4 cs x B j' sns' xs' (told ++ mid) (k + 1) y sb D o' oss' ys' Ac cc := by
  have hfar : ∀ c, FO y sb o oss c → Out x j' xs' c := fun c hc => by
    rcases h.ap c with q | q
    · exact q
    · exact absurd hc q.own
  refine ⟨h.jr.ft hq.ft hfar, hq.oi, hq.ro, hq.cl.trans h.old.cl, fun b => ?_, (by rw [h.sen]; exact h.old.wx), h.old.wy, h.bel.trans (hq.ft.below h.bel.size (fun c hc => h.oi.low hc h.old.wy.1 h.old.wy.2))⟩
  by_cases hx : Out x j' xs' b
  · exact .inl hx
  · right
    have ho : OutO y sb o oss ys b := (h.ap b).resolve_left hx
    refine ⟨fun q => ?_, fun e he b' f hv q => ?_⟩
    · rcases hq.own b q with q2 | q2
      · exact ho.own q2
      · exact hx (h.jr.out q2)
    · injection q with q
      subst q
      rcases hq.new e (List.mem_append_right _ he) with q2 | q2
      · exact ho.val e q2 b f hv rfl
      · exact hx (hA b f (q2.symm.trans hv))
end
end Go.Proofs.YtebacmmfjadalaaGreat

namespace Go.Proofs.YtebacmmfjadalaaGreat
open Go Go.RowKit

theorem ClRow.below {w w' : World} {A : Option Addr} {cs : List (Int × Int × Int)} (h : ClRow w A cs) (hb : Below w.heap.size w w') : ClRow w' A cs := by
  rcases h with h | ⟨b, off, q1, q2, q3⟩
  · exact .inl h
  · exact .inr ⟨b, off, q1, Nat.lt_of_lt_of_le q2 hb.size, fun i hi => ⟨(hb.cell (p := ⟨b, _, none⟩) q2).trans (q3 i hi).1, (hb.cell (p := ⟨b, _, none⟩) q2).trans (q3 i hi).2.1, (hb.cell (p := ⟨b, _, none⟩) q2).trans (q3 i hi).2.2⟩⟩
theorem ro_start {cs : List (Int × Int × Int)} {win : Int} {sv : Value} {A : Option Addr} {cc sb : Nat} : RO cs ⟨sv, win, .slice none 0 0, false, 0, 0, 0, 0, 0, 0, 0⟩ (cs.map sn0) [] (oj0 A cc cs.length win sb) (List.replicate cs.length os0) [] := by
  refine ⟨rfl, fun h => ?_, fun h => ?_, rfl, rfl, rfl, rfl, rfl, rfl, by rw [List.length_map], by rw [List.length_replicate], fun i s hs => ?_, fun i s t hs ht => ?_, List.Perm.refl _, List.Pairwise.nil, fun t ht => ?_⟩
  · cases h
  · cases h
  · rw [List.getElem?_map] at hs
    obtain ⟨c, hc, rfl⟩ := Option.map_eq_some_iff.1 hs
    rw [List.getD_eq_getElem?_getD, hc]
    rfl
  · rw [List.getElem?_map] at hs
    obtain ⟨c, hc, rfl⟩ := Option.map_eq_some_iff.1 hs
    have ht' := List.eq_of_mem_replicate (List.mem_of_getElem? ht)
    subst ht'
    refine ⟨rfl, rfl, fun h => ?_, ⟨?_, ?_⟩, fun _ => rfl, fun q _ _ => ?_⟩
    · cases h
    · show (0 : Int) ≤ 0; omega
    · show (0 : Int) ≤ 4294967295; omega
    · rfl
  · rw [List.eq_of_mem_replicate ht]
    exact Int.le_refl _
theorem BJ.start {w w1 w2 w3 : World} {cs : List (Int × Int × Int)} {win : Int} {sv : Value} {A0 : Option Addr} {c0 y sb : Nat} (hE : newE cs win = 0) (h1 : Below w.heap.size w w1)
    (hs : SRow (w1.heap.size + 1) w2 sv (cs.map sn0)) (hj : JnAt w2 w1.heap.size ⟨sv, win, .slice none 0 0, false, 0, 0, 0, 0, 0, 0, 0⟩) (hz : ∀ i, w2.frozen? ⟨w1.heap.size, i, none⟩ = false) (hl : w1.heap.size < w2.heap.size) (hb : Below w1.heap.size w1 w2)
    (ho : OI w3 y sb w3.heap.size (oj0 A0 c0 cs.length win sb) (List.replicate cs.length os0) [] ∧ Below w2.heap.size w2 w3 ∧ w2.heap.size ≤ sb ∧ w2.heap.size ≤ y) :
    BJ w w3 cs w1.heap.size w2.heap.size ⟨sv, win, .slice none 0 0, false, 0, 0, 0, 0, 0, 0, 0⟩ (cs.map sn0) [] [] 0 y sb w3.heap.size (oj0 A0 c0 cs.length win sb) (List.replicate cs.length os0) [] A0 c0 := by
  obtain ⟨ho, hb3, hsb, hy⟩ := ho
  have jr2 := JR.start hE hs hj hz hl
  have s1 := h1.size
  have s2 := hb.size
  have s3 := hb3.size
  refine ⟨jr2.below hb3, ho, ro_start, rfl, fun b => ?_, ⟨s1, fun g hg => by have := hs.ge (show sv.ownBlock = some g from hg); omega⟩, ⟨by omega, by omega⟩, (h1.trans (hb.mono s1)).trans (hb3.mono (by omega))⟩
  rcases Nat.lt_or_ge b w2.heap.size with q | q
  · right
    refine ⟨fun hf => ?_, fun e he => by simp at he⟩
    have := ho.low hf hy hsb
    omega
  · exact .inl (jr2.out q)

/-- the horizon is the window below the top -/
def HorIs (j : Jn) : Prop := j.some = true → j.hor = max (j.top - j.win) (-1125899906842624)
theorem hor_how {j j' : Jn} {sns sns' : List Sn} {xs xs' mid : List El} {se sq st : Int} {n : Nat} {bs : List Nat} {kind er : Int} (h : PushHow j sns xs se sq st n bs kind er j' sns' xs' mid) (hh : HorIs j) : HorIs j' := by
  cases h with
  | bad h f1 f2 f3 f4 f5 f6 => rw [f3]; exact hh
  | cnt s hs h hk1 hk2 f2 f3 f4 f5 f6 =>
    obtain ⟨-, -, g3, g4, g5, -, -, g8⟩ := cntJ_same j kind
    rw [f3]
    unfold HorIs
    rw [g3, g4, g5, g8]
    exact hh
  | took s e0 v' dn hs hse h hk1 f1 f2 hkey hdn hno hl' f3 f4 f5 f6 =>
    rw [f3]
    intro _
    show riseH j _ = max (riseT j _ - j.win) _
    unfold riseH
    split
    · rfl
    · rename_i c
      have hs : j.some = true := by
        cases hs : j.some with
        | true => rfl
        | false => exact absurd (.inl hs) c
      have h1 := hh hs
      have h2 := (riseT_ge (j := j) (t := Ck.timeV s.o s.n s.d (Ck.unwV s.last st))).2 hs
      have h3 : ¬ j.hor < riseM j (Ck.timeV s.o s.n s.d (Ck.unwV s.last st)) := fun q => c (.inr q)
      unfold riseM at h3
      omega
theorem win_how {j j' : Jn} {sns sns' : List Sn} {xs xs' mid : List El} {se sq st : Int} {n : Nat} {bs : List Nat} {kind er : Int} (h : PushHow j sns xs se sq st n bs kind er j' sns' xs' mid) : j'.win = j.win := by
  cases h with
  | bad h f1 f2 f3 f4 f5 f6 => rw [f3]
  | cnt s hs h hk1 hk2 f2 f3 f4 f5 f6 => rw [f3]; exact (cntJ_same j kind).2.2.2.2.2.2.2
  | took s e0 v' dn hs hse h hk1 f1 f2 hkey hdn hno hl' f3 f4 f5 f6 => rw [f3]; rfl
/-- a reading that is late lies below the horizon -/
theorem late_how {j j' : Jn} {sns sns' : List Sn} {xs xs' mid : List El} {se sq st : Int} {n : Nat} {bs : List Nat} (h : PushHow j sns xs se sq st n bs 4 0 j' sns' xs' mid) :
    pushE sns se st n bs = 0 ∧ j.some = true ∧ ∃ s, sns[se.toNat]? = some s ∧ Ck.timeV s.o s.n s.d (Ck.unwV s.last st) < j.hor := by
  cases h with
  | bad h f1 f2 f3 f4 f5 f6 => omega
  | cnt s hs h hk1 hk2 f2 f3 f4 f5 f6 =>
    refine ⟨h, ?_⟩
    unfold pushK at hk1
    split at hk1
    · omega
    · split at hk1
      · omega
      · split at hk1
        · rename_i c
          simp only [Bool.and_eq_true, decide_eq_true_eq] at c
          exact ⟨c.1, s, hs, c.2⟩
        · omega
  | took s e0 v' dn hs hse h hk1 f1 f2 hkey hdn hno hl' f3 f4 f5 f6 => omega
/-- what JoinWindow asks of a reading: where it can be taken, it isn't below the window -/
def NearIs (j : Jn) (sns : List Sn) (se st : Int) (n : Nat) (bs : List Nat) (b : Bool) : Prop :=
  b = true → pushE sns se st n bs = 0 → j.some = true → ∀ s, sns[se.toNat]? = some s → j.top - j.win ≤ Ck.timeV s.o s.n s.d (Ck.unwV s.last st)
theorem near_late {j j' : Jn} {sns sns' : List Sn} {xs xs' mid : List El} {se sq st : Int} {n : Nat} {bs : List Nat} {b : Bool} (h : PushHow j sns xs se sq st n bs 4 0 j' sns' xs' mid) (hh : HorIs j) (hn : NearIs j sns se st n bs b) : b = false := by
  obtain ⟨h1, h2, s, hs, h3⟩ := late_how h
  cases b with
  | false => rfl
  | true =>
    have h4 := hn rfl h1 h2 s hs
    have h5 := hh h2
    have := (timeV_bd s.o s.n s.d (Ck.unwV s.last st)).1
    omega
end Go.Proofs.YtebacmmfjadalaaGreat
