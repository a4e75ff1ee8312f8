/- I7 in one text. -/
import Derived.Test.YtebacmmfjadalaaGreatP34
import Derived.Test.YtebacmmfjadalaaGreatP35

namespace Go.Proofs.YtebacmmfjadalaaGreat
open Go Go.RowKit Go.WideShapes

theorem ClRow.below {w w' : World} {A : Option Addr} {cs : List (Int × Int × Int)} (h : ClRow w A cs) (hb : Below w.heap.size w w') : ClRow w' A cs := by
  rcases h with h | ⟨b, off, q1, q2, q3⟩
  · exact .inl h
  · exact .inr ⟨b, off, q1, Nat.lt_of_lt_of_le q2 hb.size, fun i hi => ⟨(hb.cell (p := ⟨b, _, none⟩) q2).trans (q3 i hi).1, (hb.cell (p := ⟨b, _, none⟩) q2).trans (q3 i hi).2.1, (hb.cell (p := ⟨b, _, none⟩) q2).trans (q3 i hi).2.2⟩⟩
theorem erase_perm {l : List In} {i : Nat} {r : In} (h : l[i]? = some r) : (r :: l.eraseIdx i).Perm l := by
  obtain ⟨hi, hr⟩ := List.getElem?_eq_some_iff.1 h
  have e : l = l.take i ++ r :: l.drop (i + 1) := by
    rw [← hr, ← List.drop_eq_getElem_cons hi, List.take_append_drop]
  rw [List.eraseIdx_eq_take_drop_succ]
  exact List.perm_middle.symm.trans (List.Perm.of_eq e.symm)
/-- what is left lies in block g, apart from the joiner and from what it told -/
structure LG (w0 W : World) (x : Nat) (j : Jn) (xs : List El) (tv : Value) (g cap : Nat) (lf : List In) : Prop where
  lf : Lf W g cap lf
  out : Out x j xs g
  ne : tv.ownBlock ≠ some g
  wg : w0.heap.size ≤ g
/-- the values of what was told lie apart, too -/
def TO (W : World) (B : Nat) (j : Jn) (tv : Value) (Ag : Option Addr) (told : List El) : Prop := ∀ e ∈ told, ElOk W e ∧ Away e j.wait.ownBlock ∧ (∀ b f, e.v = some ⟨b, f, none⟩ → B ≤ b) ∧ Away e tv.ownBlock ∧ ∀ g, Ag = some ⟨g, 0, none⟩ → Away e (some g)
structure RD (w0 W : World) (cs : List (Int × Int × Int)) (ls : List In) (x B : Nat) (j : Jn) (sns : List Sn) (xs told : List El) (tv : Value) (Ag : Option Addr) (cap : Nat) (lf done : List In) (f : Bool) : Prop where
  tr : TR w0 W x B j sns xs told done.length tv
  si : SI cs sns done
  perm : (done ++ lf).Perm ls
  fine : f = true → ((told ++ xs).map El.key).Perm (done.map (rkey cs))
  left : lf = [] ∨ ∃ g, Ag = some ⟨g, 0, none⟩ ∧ LG w0 W x j xs tv g cap lf
  ag : ∀ g, Ag = some ⟨g, 0, none⟩ → Out x j xs g ∧ g < W.heap.size
  tok : TO W B j tv Ag told
section
variable {w0 W : World} {cs : List (Int × Int × Int)} {ls : List In} {x B : Nat} {j : Jn} {sns : List Sn} {xs told : List El} {tv : Value} {Ag : Option Addr} {cap : Nat} {lf done : List In} {f : Bool}
theorem LG.below {g : Nat} (h : LG w0 W x j xs tv g cap lf) {W' : World} (hb : Below W.heap.size W W') : LG w0 W' x j xs tv g cap lf := ⟨h.lf.keep (hb.block g h.lf.lt) hb.size, h.out, h.ne, h.wg⟩
theorem RD.below (h : RD w0 W cs ls x B j sns xs told tv Ag cap lf done f) {W' : World} (hb : Below W.heap.size W W') : RD w0 W' cs ls x B j sns xs told tv Ag cap lf done f :=
  ⟨h.tr.below hb, h.si, h.perm, h.fine, h.left.imp id (fun ⟨g, h1, h2⟩ => ⟨g, h1, h2.below hb⟩), fun g hg => ⟨(h.ag g hg).1, Nat.lt_of_lt_of_le (h.ag g hg).2 hb.size⟩, fun e he => ⟨(h.tok e he).1.below hb, (h.tok e he).2⟩⟩
theorem RD.new (h : RD w0 W cs ls x B j sns xs told tv Ag cap lf done f) (hd : ls.Pairwise (fun a b => ¬ (a.se = b.se ∧ a.sq = b.sq))) {i : Nat} {r : In} (hr : lf[i]? = some r) : ∀ d ∈ done, ¬ (d.se = r.se ∧ d.sq = r.sq) := fun d h1 => by
  have hp : (done ++ lf).Pairwise (fun a b => ¬ (a.se = b.se ∧ a.sq = b.sq)) := List.Pairwise.perm hd h.perm.symm (fun {a b} q ⟨q1, q2⟩ => q ⟨q1.symm, q2.symm⟩)
  exact (List.pairwise_append.1 hp).2.2 d h1 r (List.mem_of_getElem? hr)
theorem LG.pushed {g k : Nat} {W3 : World} {se sq st : Int} {n : Nat} {bs : List Nat} {kind er : Int} {ov : Value} {j' : Jn} {sns' : List Sn} {xs' mid : List El} (h : LG w0 W x j xs tv g cap lf) (hp : PushL W W3 x B j sns xs told k se sq st n bs kind er ov j' sns' xs' mid) : LG w0 W3 x j' xs' tv g cap lf := by
  refine ⟨h.lf.keep (hp.ft.block g h.lf.lt ?_) hp.ft.size, hp.outs h.out h.lf.lt, h.ne, h.wg⟩
  obtain ⟨o1, o2, o3, -⟩ := h.out
  rintro (q | q | q)
  · exact o1 q
  · exact o2 q
  · exact o3 q
theorem LG.appended {g : Nat} {W4 : World} {tv' : Value} (h : LG w0 W x j xs tv g cap lf) (hg : W.grownBy W4 tv.ownBlock) (ha : tv'.ownBlock = tv.ownBlock ∨ tv'.ownBlock = some W.heap.size) : LG w0 W4 x j xs tv' g cap lf := by
  refine ⟨h.lf.keep (hg.block g h.lf.lt (fun e => h.ne e.symm)) hg.size, h.out, ?_, h.wg⟩
  rcases ha with q | q
  · rw [q]; exact h.ne
  · rw [q]
    intro q'
    injection q' with q'
    have := h.lf.lt
    omega
theorem TO.pushed {k : Nat} {W3 : World} {se sq st : Int} {n : Nat} {bs : List Nat} {kind er : Int} {ov : Value} {j' : Jn} {sns' : List Sn} {xs' mid : List El} (h : TO W B j tv Ag told) (ht : TR w0 W x B j sns xs told k tv) (ha : ∀ g, Ag = some ⟨g, 0, none⟩ → Out x j xs g ∧ g < W.heap.size) (hp : PushL W W3 x B j sns xs told k se sq st n bs kind er ov j' sns' xs' mid) : TO W3 B j' tv Ag (told ++ mid) := fun e he => by
  rcases List.mem_append.1 he with q | q
  · obtain ⟨h1, h2, h3, h4, h5⟩ := h e q
    refine ⟨h1.ft hp.ft (fun b f hv hb => ?_), fun b f hv hq => ?_, h3, h4, h5⟩
    · have hB := h3 b f hv
      have hx := ht.jr.inv.xB
      rcases hb with hb | hb | hb
      · omega
      · have := (ht.jr.own b hb).2; omega
      · exact h2 b f hv hb
    · rcases hp.wait with w1 | ⟨g, w1, w2⟩
      · rw [w1] at hq; exact h2 b f hv hq
      · rw [w1] at hq
        injection hq with hq
        have := h1.lt hv
        omega
  · obtain ⟨h1, h2, h3, -⟩ := hp.via e q
    refine ⟨h1, h2, h3, fun b f hv hq => ?_, fun g hg b f hv hq => ?_⟩
    · rcases hp.new e (List.mem_append_left _ q) with n1 | n1
      · exact (ht.apart b hq).2.2.2 e n1 b f hv rfl
      · have := n1 b f hv
        have := (ht.row.lt hq).2
        omega
    · injection hq with hq
      rcases hp.new e (List.mem_append_left _ q) with n1 | n1
      · exact (ha g hg).1.2.2.2 e n1 b f hv (by rw [hq])
      · have := n1 b f hv
        have := (ha g hg).2
        omega
theorem TO.flushed {k : Nat} {W3 : World} {ov : Value} {j' : Jn} {mid : List El} (h : TO W B j tv Ag told) (ht : TR w0 W x B j sns xs told k tv) (ha : ∀ g, Ag = some ⟨g, 0, none⟩ → Out x j xs g ∧ g < W.heap.size) (hp : FlushL W W3 x B j sns xs told k ov j' mid) : TO W3 B j' tv Ag (told ++ mid) := fun e he => by
  rcases List.mem_append.1 he with q | q
  · obtain ⟨h1, h2, h3, h4, h5⟩ := h e q
    refine ⟨h1.ft hp.ft (fun b f hv hb => ?_), fun b f hv hq => ?_, h3, h4, h5⟩
    · have hB := h3 b f hv
      have hx := ht.jr.inv.xB
      rcases hb with hb | hb
      · omega
      · exact h2 b f hv hb
    · rw [hp.wait] at hq; exact h2 b f hv hq
  · obtain ⟨h1, h2, h3, -⟩ := hp.via e q
    refine ⟨h1, h2, h3, fun b f hv hq => ?_, fun g hg b f hv hq => ?_⟩
    · exact (ht.apart b hq).2.2.2 e (hp.sub e q) b f hv rfl
    · injection hq with hq
      exact (ha g hg).1.2.2.2 e (hp.sub e q) b f hv (by rw [hq])
theorem TO.appended {W4 : World} {tv' : Value} (h : TO W B j tv Ag told) (hg : W.grownBy W4 tv.ownBlock) (ha : tv'.ownBlock = tv.ownBlock ∨ tv'.ownBlock = some W.heap.size) : TO W4 B j tv' Ag told := fun e he => by
  obtain ⟨h1, h2, h3, h4, h5⟩ := h e he
  have hF : Ft W W4 (fun b => tv.ownBlock = some b) := ⟨hg.os, hg.tape, hg.output, hg.size, fun b hb hn => hg.block b hb (fun e => hn e.symm)⟩
  refine ⟨h1.ft hF (fun b f hv hb => h4 b f hv hb), h2, h3, fun b f hv hq => ?_, h5⟩
  rcases ha with q | q
  · rw [q] at hq; exact h4 b f hv hq
  · rw [q] at hq
    injection hq with hq
    have := h1.lt hv
    omega
/-- a reading was handed in, what came of it appended, the reading deleted -/
theorem RD.step {g i k : Nat} {r : In} {W5 : World} {kind : Int} {j' : Jn} {sns' : List Sn} {xs' mid : List El} {tv' : Value} (h : RD w0 W cs ls x B j sns xs told tv Ag cap lf done f) (hi : lf[i]? = some r) (hs : SI cs sns' (done ++ [r])) (hpm : kind = 1 → ((mid ++ xs').map El.key).Perm (xs.map El.key ++ [rkey cs r])) (hk : k = done.length + 1)
    (htr : TR w0 W5 x B j' sns' xs' (told ++ mid) k tv') (hlg : LG w0 W5 x j' xs' tv' g cap lf) (hA : Ag = some ⟨g, 0, none⟩) (hag : ∀ g, Ag = some ⟨g, 0, none⟩ → Out x j' xs' g ∧ g < W5.heap.size) (hto : TO W5 B j' tv' Ag (told ++ mid)) :
    RD w0 (W5.setCells g (0 + i * 4) (flat4 (lf.drop (i + 1)))) cs ls x B j' sns' xs' (told ++ mid) tv' Ag cap (lf.eraseIdx i) (done ++ [r]) (f && decide (kind = 1)) := by
  obtain ⟨hil, -⟩ := List.getElem?_eq_some_iff.1 hi
  have hF := Ft.cells g (flat4 (lf.drop (i + 1))) (0 + i * 4) W5
  refine ⟨?_, hs, ?_, fun q => ?_, .inr ⟨g, hA, hlg.lf.del hil, hlg.out, hlg.ne, hlg.wg⟩, fun g' hg' => ⟨(hag g' hg').1, Nat.lt_of_lt_of_le (hag g' hg').2 hF.size⟩, fun e he => ?_⟩
  · rw [List.length_append, List.length_singleton, ← hk]
    exact htr.other hF hlg.out hlg.ne hlg.wg
  · have hp := erase_perm hi
    rw [List.append_assoc]
    exact (List.Perm.append_left done hp).trans h.perm
  · simp only [Bool.and_eq_true, decide_eq_true_eq] at q
    have h1 := h.fine q.1
    have h2 := hpm q.2
    have e : (told ++ mid ++ xs').map El.key = told.map El.key ++ (mid ++ xs').map El.key := by rw [List.append_assoc, List.map_append]
    have e2 : (done ++ [r]).map (rkey cs) = done.map (rkey cs) ++ [rkey cs r] := by rw [List.map_append]; rfl
    rw [e, e2]
    refine (List.Perm.append_left _ h2).trans ?_
    rw [← List.append_assoc, ← List.map_append]
    exact h1.append_right _
  · obtain ⟨h1, h2, h3, h4, h5⟩ := hto e he
    exact ⟨h1.ft hF (fun b f hv hb => h5 g hA b f hv (by rw [hb])), h2, h3, h4, h5⟩
end
/-- the value of the pick -/
theorem pick_rem (p : Int) {L : Nat} (hL : 0 < L) : ∃ ii : Nat, ii < L ∧ (p.tmod (L : Int) + (L : Int)).tmod (L : Int) = (ii : Int) ∧ 0 ≤ p.tmod (L : Int) + (L : Int) ∧ p.tmod (L : Int) + (L : Int) < 2 * (L : Int) := by
  have h1 := Int.lt_tmod_of_pos p (show (0 : Int) < (L : Int) by omega)
  have h2 := Int.tmod_lt_of_pos p (show (0 : Int) < (L : Int) by omega)
  have h0 : 0 ≤ p.tmod (L : Int) + (L : Int) := by omega
  rw [Int.tmod_eq_emod_of_nonneg h0]
  have h3 := Int.emod_nonneg (p.tmod (L : Int) + (L : Int)) (show (L : Int) ≠ 0 by omega)
  have h4 := Int.emod_lt_of_pos (p.tmod (L : Int) + (L : Int)) (show (0 : Int) < (L : Int) by omega)
  exact ⟨((p.tmod (L : Int) + (L : Int)) % (L : Int)).toNat, by omega, by omega, h0, by omega⟩
def lenV : Value → Nat
  | .slice _ n _ => n
  | _ => 0
/-- all in their order, by the reference -/
structure WT (w W : World) (cs : List (Int × Int × Int)) (vd : Value) (zs : List El) (ls : List In) : Prop where
  row : TlAt W vd zs
  ok : ∀ e ∈ zs, ElOk W e
  keys : (zs.map El.key).Perm (ls.map (rkey cs))
  srt : zs.Pairwise (Le cmpK)
  bel : Below w.heap.size w W
  good : ∀ r ∈ ls, Good cs r
  dist : ls.Pairwise (fun a b => ¬ (a.se = b.se ∧ a.sq = b.sq))
theorem WT.below {w W W' : World} {cs : List (Int × Int × Int)} {vd : Value} {zs : List El} {ls : List In} (h : WT w W cs vd zs ls) (hb : Below W.heap.size W W') : WT w W' cs vd zs ls :=
  ⟨h.row.below hb, fun e he => (h.ok e he).below hb, h.keys, h.srt, h.bel.trans (hb.mono h.bel.size), h.good, h.dist⟩
theorem RD.start {w0 w4 w5 : World} {cs : List (Int × Int × Int)} {ls : List In} {x : Nat} {j : Jn} {A5 : Option Addr} {n c5 : Nat} (h : TR w0 w4 x w4.heap.size j (cs.map sn0) [] [] 0 (.slice none 0 0)) (hr : Row4 w4.heap.size w5 (.slice A5 n c5) ls) (hb : Below w4.heap.size w4 w5) :
    RD w0 w5 cs ls x w4.heap.size j (cs.map sn0) [] [] (.slice none 0 0) A5 c5 ls [] true := by
  refine ⟨h.below hb, SI.start cs, List.Perm.refl _, fun _ => List.Perm.refl _, ?_, fun g hg => ?_, fun e he => by simp at he⟩
  · cases ls with
    | nil => exact .inl rfl
    | cons a l =>
      obtain ⟨g, h1, h2, h3⟩ := hr.lf (by simp)
      exact .inr ⟨g, h1, h3, h.jr.out h2, by simp [Value.ownBlock], Nat.le_trans h.bel.size h2⟩
  · obtain ⟨h1, h2⟩ := hr.rd.2 g 0 hg
    exact ⟨h.jr.out h1, h2⟩
/-- all was told: the same as the reference's -/
theorem RD.told {w0 w W W' : World} {cs : List (Int × Int × Int)} {ls : List In} {x B : Nat} {j j' : Jn} {sns : List Sn} {xs told mid : List El} {tv ov : Value} {Ag : Option Addr} {cap k : Nat} {done : List In} {vd : Value} {zs : List El}
    (h : RD w0 W cs ls x B j sns xs told tv Ag cap [] done true) (hp : FlushL W W' x B j sns xs told k ov j' mid) (hz : WT w W cs vd zs ls) : (told ++ mid).map El.key = zs.map El.key := by
  refine keys_unique hp.jr.jp.srtk hz.srt ?_
  have h1 := h.fine rfl
  have hsub : mid.Perm xs := by
    rcases hp.how with ⟨-, -, h2, h3⟩ | ⟨hs, h2, -⟩
    · rw [h2, h3]
    · have hj := h.tr.jr
      obtain ⟨mid2, d1, d2, -, -⟩ := hj.jp.flush (v' := j.wait) hs (hj.hor hs)
      rw [d1] at h2
      rw [h2]
      exact d2
  have h2 : ((told ++ mid).map El.key).Perm ((told ++ xs).map El.key) := (List.Perm.append_left told hsub).map _
  refine h2.trans (h1.trans ?_)
  have h3 := h.perm
  rw [List.append_nil] at h3
  exact (h3.map _).trans hz.keys.symm
end Go.Proofs.YtebacmmfjadalaaGreat
