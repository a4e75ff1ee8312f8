/- T3 in one text. -/
import Derived.Test.YtebacmmfjadalaaGreatP25
import Derived.Test.YtebacmmfjadalaaGreatP21

namespace Go.Proofs.YtebacmmfjadalaaGreat
open Go Go.RowKit

theorem Row.keep {B : Nat} {w w' : World} {v : Value} {xs : List El} (h : Row B w v xs) (e : ∀ k, v.ownBlock = some k → k < w.heap.size → w'.heap[k]? = w.heap[k]?) : Row B w' v xs := by
  refine ⟨h.1, ?_⟩
  rcases h.2 with hn | ⟨g, cap, cur, hv, h1, h2, h3⟩
  · exact .inl hn
  · exact .inr ⟨g, cap, cur, hv, h1, (e g (by rw [hv]; rfl) (Array.getElem?_eq_some_iff.1 h2).1).trans h2, h3⟩
theorem Inv.ft {w W W' : World} {x B : Nat} {j : Jn} {sns : List Sn} {xs : List El} {F : Nat → Prop} (h : Inv w W x B j sns xs) (k : Ft W W' F) (hF : ∀ b, F b → b ≠ x ∧ j.sen.ownBlock ≠ some b ∧ j.wait.ownBlock ≠ some b) : Inv W' W' x B j sns xs := by
  have hxW : x < W.heap.size := by have := h.big; have := h.xB; omega
  have hx : W'.heap[x]? = W.heap[x]? := k.block x hxW (fun hf => (hF x hf).1 rfl)
  exact ⟨h.jn.same (fun i => World.cell?_of_block hx), h.sn.heap (fun g _ hg hl => k.block g hl (fun hf => (hF g hf).2.1 hg)), h.row.keep (fun g hg hl => k.block g hl (fun hf => (hF g hf).2.2 hg)), fun i => (World.frozen?_of_block hx).trans (h.fz i), Nat.le_trans h.big k.size, h.xB, Below.refl _ _⟩
/-- a joiner, what it told, what waits; k readings were handed to it -/
structure JR (W : World) (x B : Nat) (j : Jn) (sns : List Sn) (xs told : List El) (k : Nat) : Prop where
  inv : Inv W W x B j sns xs
  vi : VI W B j.wait xs
  own : ∀ g, j.sen.ownBlock = some g → x ≠ g ∧ g < B
  jp : JP j sns xs told
  hor : j.some = true → j.hor ≤ j.top + 1
  few : j.ct ≤ (k : Int) ∧ j.cd ≤ (k : Int) ∧ j.co ≤ (k : Int) ∧ j.cl ≤ (k : Int)
/-- a block is none of the joiner's -/
def Out (x : Nat) (j : Jn) (xs : List El) (b : Nat) : Prop := b ≠ x ∧ j.sen.ownBlock ≠ some b ∧ j.wait.ownBlock ≠ some b ∧ ∀ e ∈ xs, Away e (some b)
theorem JR.ft {W W' : World} {x B : Nat} {j : Jn} {sns : List Sn} {xs told : List El} {k : Nat} {F : Nat → Prop} (h : JR W x B j sns xs told k) (hk : Ft W W' F) (hF : ∀ b, F b → Out x j xs b) : JR W' x B j sns xs told k :=
  ⟨h.inv.ft hk (fun b hb => ⟨(hF b hb).1, (hF b hb).2.1, (hF b hb).2.2.1⟩), fun e he => by
    obtain ⟨h1, h2, h3, h4⟩ := h.vi e he
    exact ⟨h1.ft hk (fun b f hv hb => (hF b hb).2.2.2 e he b f hv rfl), h2, h3, h4⟩, h.own, h.jp, h.hor, h.few⟩
theorem JR.below {W W' : World} {x B : Nat} {j : Jn} {sns : List Sn} {xs told : List El} {k : Nat} (h : JR W x B j sns xs told k) (hb : Below W.heap.size W W') : JR W' x B j sns xs told k := h.ft (Ft.of_below hb (fun _ => False)) (fun _ hb => hb.elim)
theorem JR.mono {W : World} {x B : Nat} {j : Jn} {sns : List Sn} {xs told : List El} {k m : Nat} (h : JR W x B j sns xs told k) (hm : k ≤ m) : JR W x B j sns xs told m := by
  obtain ⟨f1, f2, f3, f4⟩ := h.few
  exact ⟨h.inv, h.vi, h.own, h.jp, h.hor, by omega, by omega, by omega, by omega⟩
/-- all blocks from the heap's end on are none of the joiner's -/
theorem JR.out {W : World} {x B : Nat} {j : Jn} {sns : List Sn} {xs told : List El} {k b : Nat} (h : JR W x B j sns xs told k) (hb : W.heap.size ≤ b) : Out x j xs b := by
  have h1 := h.inv.big
  have h2 := h.inv.xB
  refine ⟨by omega, fun hg => ?_, fun hg => ?_, fun e he b' f hv hq => ?_⟩
  · have := (h.own b hg).2; omega
  · have := (h.inv.row.lt hg).2; omega
  · injection hq with hq
    have := (h.vi e he).1.lt hv
    omega
theorem JR.len {W : World} {x B : Nat} {j : Jn} {sns : List Sn} {xs told : List El} {k : Nat} (h : JR W x B j sns xs told k) : told.length + xs.length ≤ k := by
  have := h.few.1; have := h.jp.cnt; omega
theorem JR.pushIn {W : World} {x B : Nat} {j : Jn} {sns : List Sn} {xs told : List El} {k : Nat} (h : JR W x B j sns xs told k) (hk : k ≤ 4000) : PushIn W x B j sns xs := by
  obtain ⟨f1, f2, f3, f4⟩ := h.few
  have hc := h.jp.cnt
  have hs := h.jp.cs
  exact ⟨h.inv, h.vi, h.own, h.jp.ok, h.jp.num, by omega, by omega, by omega, by omega, by omega, by omega⟩
theorem JP.counts {j : Jn} {sns : List Sn} {xs told : List El} (h : JP j sns xs told) (k : Int) : JP (cntJ j k) sns xs told := by
  have hn := h.num
  unfold cntJ
  split
  · exact ⟨h.ok, h.heap, h.know, h.dist, h.srt, h.low, h.high, h.top, h.none, ⟨hn.c0, hn.k0, by have := hn.d0; show 0 ≤ j.cd + 1; omega, hn.o0, hn.l0, hn.t0, hn.t1, hn.w0, hn.w1⟩, h.cnt, h.cs, h.srtk⟩
  · split
    · exact ⟨h.ok, h.heap, h.know, h.dist, h.srt, h.low, h.high, h.top, h.none, ⟨hn.c0, hn.k0, hn.d0, by have := hn.o0; show 0 ≤ j.co + 1; omega, hn.l0, hn.t0, hn.t1, hn.w0, hn.w1⟩, h.cnt, h.cs, h.srtk⟩
    · exact ⟨h.ok, h.heap, h.know, h.dist, h.srt, h.low, h.high, h.top, h.none, ⟨hn.c0, hn.k0, hn.d0, hn.o0, by have := hn.l0; show 0 ≤ j.cl + 1; omega, hn.t0, hn.t1, hn.w0, hn.w1⟩, h.cnt, h.cs, h.srtk⟩
theorem cntJ_same (j : Jn) (k : Int) : (cntJ j k).sen = j.sen ∧ (cntJ j k).wait = j.wait ∧ (cntJ j k).some = j.some ∧ (cntJ j k).hor = j.hor ∧ (cntJ j k).top = j.top ∧ (cntJ j k).ct = j.ct ∧ (cntJ j k).cs = j.cs ∧ (cntJ j k).win = j.win := by
  unfold cntJ
  split
  · exact ⟨rfl, rfl, rfl, rfl, rfl, rfl, rfl, rfl⟩
  · split <;> exact ⟨rfl, rfl, rfl, rfl, rfl, rfl, rfl, rfl⟩
theorem cntJ_few {j : Jn} {m : Nat} (k : Int) (h : j.ct ≤ (m : Int) ∧ j.cd ≤ (m : Int) ∧ j.co ≤ (m : Int) ∧ j.cl ≤ (m : Int)) : (cntJ j k).ct ≤ ((m + 1 : Nat) : Int) ∧ (cntJ j k).cd ≤ ((m + 1 : Nat) : Int) ∧ (cntJ j k).co ≤ ((m + 1 : Nat) : Int) ∧ (cntJ j k).cl ≤ ((m + 1 : Nat) : Int) := by
  obtain ⟨h1, h2, h3, h4⟩ := h
  unfold cntJ
  split
  · refine ⟨?_, ?_, ?_, ?_⟩ <;> simp only <;> omega
  · split <;> refine ⟨?_, ?_, ?_, ?_⟩ <;> simp only <;> omega
theorem riseH_le {j : Jn} {t : Int} (hn : JNum j) (h : j.some = true → j.hor ≤ j.top + 1) (t0 : -1125899906842624 ≤ t) : riseH j t ≤ riseT j t + 1 := by
  have hT := (riseT_ge (j := j) (t := t)).1
  have hT2 := (riseT_ge (j := j) (t := t)).2
  have hw := hn.w0
  unfold riseH riseM
  split
  · omega
  · rename_i hc
    have hs : j.some = true := by
      cases hs : j.some with
      | true => rfl
      | false => exact absurd (.inl hs) hc
    have := h hs
    have := hT2 hs
    omega

/-- what becomes of a joiner by a push -/
inductive PushHow (j : Jn) (sns : List Sn) (xs : List El) (se sq st : Int) (n : Nat) (bs : List Nat) (kind er : Int) (j' : Jn) (sns' : List Sn) (xs' mid : List El) : Prop where
  | bad (h : pushE sns se st n bs ≠ 0) (e1 : kind = 0) (e2 : er = pushE sns se st n bs) (e3 : j' = j) (e4 : sns' = sns) (e5 : xs' = xs) (e6 : mid = [])
  | cnt (s : Sn) (hs : sns[se.toNat]? = some s) (h : pushE sns se st n bs = 0) (hk : kind = pushK j s sq (Ck.timeV s.o s.n s.d (Ck.unwV s.last st))) (hk1 : kind ≠ 1) (e2 : er = 0) (e3 : j' = cntJ j kind) (e4 : sns' = sns) (e5 : xs' = xs) (e6 : mid = [])
  | took (s : Sn) (e0 : El) (v' : Value) (dn : Nat) (hs : sns[se.toNat]? = some s) (hse : 0 ≤ se) (h : pushE sns se st n bs = 0) (hk : pushK j s sq (Ck.timeV s.o s.n s.d (Ck.unwV s.last st)) = 1) (e1 : kind = 1) (e2 : er = 0)
      (hkey : e0.key = Ck.timeV s.o s.n s.d (Ck.unwV s.last st) :: se :: sq :: st :: (n : Int) :: bs.map keyN) (hdn : (s.most - sq) % 4294967296 = (dn : Int)) (hno : below' s sq = false ∨ (dn < 64 ∧ s.most - sq = (dn : Int) ∧ bitAt s dn = false))
      (hl : j.some = false ∨ j.hor ≤ Ck.timeV s.o s.n s.d (Ck.unwV s.last st))
      (e3 : j' = { riseJ j (Ck.timeV s.o s.n s.d (Ck.unwV s.last st)) with ct := j.ct + 1, wait := v', cs := j.cs + (tkT j xs (Ck.timeV s.o s.n s.d (Ck.unwV s.last st)) e0).1.length })
      (e4 : sns' = sns.set se.toNat (tkL s sq (Ck.unwV s.last st))) (e5 : xs' = (tkT j xs (Ck.timeV s.o s.n s.d (Ck.unwV s.last st)) e0).2) (e6 : mid = (tkT j xs (Ck.timeV s.o s.n s.d (Ck.unwV s.last st)) e0).1)
/-- what a push leaves -/
structure PushL (w w' : World) (x B : Nat) (j : Jn) (sns : List Sn) (xs told : List El) (k : Nat) (se sq st : Int) (n : Nat) (bs : List Nat) (kind er : Int) (ov : Value) (j' : Jn) (sns' : List Sn) (xs' mid : List El) : Prop where
  jr : JR w' x B j' sns' xs' (told ++ mid) (k + 1)
  out : Row w.heap.size w' ov mid
  ok : ∀ e ∈ mid, ElOk w' e
  ft : Ft w w' (fun b => b = x ∨ j.sen.ownBlock = some b ∨ j.wait.ownBlock = some b)
  sen : j'.sen = j.sen
  wait : j'.wait.ownBlock = j.wait.ownBlock ∨ ∃ g, j'.wait.ownBlock = some g ∧ w.heap.size ≤ g
  apart : ∀ g, ov.ownBlock = some g → j'.wait.ownBlock ≠ some g
  new : ∀ e ∈ mid ++ xs', e ∈ xs ∨ ∀ b f, e.v = some ⟨b, f, none⟩ → w.heap.size ≤ b
  nil : er ≠ 0 ∨ kind ≠ 1 → ov = .slice none 0 0 ∧ mid = [] ∧ j'.ct = j.ct
  one : er = 0 → kind = 1 → j'.ct = j.ct + 1
  how : PushHow j sns xs se sq st n bs kind er j' sns' xs' mid
  via : VI w' B j'.wait mid
/-- what is not the joiner's stays so -/
theorem PushL.outs {w w' : World} {x B : Nat} {j : Jn} {sns : List Sn} {xs told : List El} {k : Nat} {se sq st : Int} {n : Nat} {bs : List Nat} {kind er : Int} {ov : Value} {j' : Jn} {sns' : List Sn} {xs' mid : List El}
    (h : PushL w w' x B j sns xs told k se sq st n bs kind er ov j' sns' xs' mid) {b : Nat} (hb : Out x j xs b) (hl : b < w.heap.size) : Out x j' xs' b := by
  obtain ⟨h1, h2, h3, h4⟩ := hb
  refine ⟨h1, by rw [h.sen]; exact h2, fun hg => ?_, fun e he b' f hv hq => ?_⟩
  · rcases h.wait with q | ⟨g, q1, q2⟩
    · rw [q] at hg; exact h3 hg
    · rw [q1] at hg; injection hg with hg; omega
  · rcases h.new e (List.mem_append_right _ he) with q | q
    · exact h4 e q b' f hv hq
    · injection hq with hq
      have := q b' f hv
      omega

set_option maxRecDepth 8000 in
theorem JR.push (x B : Nat) (j : Jn) (sns : List Sn) (xs told : List El) (k : Nat) (se sq st : Int) (A : Option Addr) (n c : Nat) (bs : List Nat) (w : World) (h : JR w x B j sns xs told k) (hk4 : k ≤ 4000) (hfl : FlAt w A n bs) (hl : n * 8 ≤ 140737488355328) (hlt64 : Lt64 bs)
    (hfar : ∀ b f, A = some ⟨b, f, none⟩ → Out x j xs b) (st0 : 0 ≤ st) (st1 : st ≤ 4294967295) (q0 : 0 ≤ sq) (q1 : sq ≤ 4294967295) :
    Calls Tryz.prog 12 #[.pointer (some ⟨x, 0, none⟩), .agg #[.int .i64 se, .int .u32 sq, .int .u32 st, .slice A n c]] w fun e w' => ∃ kind er ov j' sns' xs' mid, e = .returned (.tuple #[.int .i64 kind, ov, .int .i64 er]) ∧ Hid (PushL w w' x B j sns xs told k se sq st n bs kind er ov j' sns' xs' mid) := by
  refine (push_all x B j sns xs se sq st A n c bs w (h.pushIn hk4) hfl hl hlt64 (fun b f hA => ⟨(hfar b f hA).1, (hfar b f hA).2.1, (hfar b f hA).2.2.1⟩) st0 st1 q0 q1).mono ?_
  intro e w' hP
  cases hP with
  | bad hE he hb =>
    refine ⟨0, _, _, j, sns, xs, [], he, Lib.hid ⟨?_, World.ownsRow_nil _ _ _ _, fun e he => by simp at he, Ft.of_below hb _, rfl, .inl rfl, fun g hg => by simp [Value.ownBlock] at hg, fun e he => .inl he, fun _ => ⟨rfl, rfl, rfl⟩, fun q _ => absurd q hE, .bad hE rfl rfl rfl rfl rfl rfl, fun e he => by simp at he⟩⟩
    rw [List.append_nil]
    exact (h.below hb).mono (Nat.le_succ k)
  | cnt s hs hE hk he hi hf =>
    obtain ⟨KD, hKD⟩ : ∃ y, pushK j s sq (Ck.timeV s.o s.n s.d (Ck.unwV s.last st)) = y := ⟨_, rfl⟩
    rw [hKD] at hk he hi
    obtain ⟨c1, c2, c3, c4, c5, c6, c7, c8⟩ := cntJ_same j KD
    refine ⟨KD, 0, _, cntJ j KD, sns, xs, [], he, Lib.hid ⟨?_, World.ownsRow_nil _ _ _ _, fun e he => by simp at he, hf.mono (fun b _ hb => .inl hb), c1, .inl (by rw [c2]), fun g hg => by simp [Value.ownBlock] at hg, fun e he => .inl he, fun _ => ⟨rfl, rfl, c6⟩, fun _ q => absurd q hk, .cnt s hs hE hKD.symm hk rfl rfl rfl rfl rfl, fun e he => by simp at he⟩⟩
    rw [List.append_nil]
    refine ⟨hi.rebase, ?_, ?_, h.jp.counts KD, ?_, cntJ_few KD h.few⟩
    · rw [c2]
      exact h.vi.ft hf (fun b hb => .inl (by rw [hb]; exact h.inv.xB))
    · rw [c1]; exact h.own
    · rw [c3, c4, c5]; exact h.hor
  | took s ov v' e0 sb dn hs hse hE hk he hsb hkey hdn hno hlt ht =>
    obtain ⟨T, hT⟩ : ∃ y, Ck.timeV s.o s.n s.d (Ck.unwV s.last st) = y := ⟨_, rfl⟩
    have hTb := timeV_bd s.o s.n s.d (Ck.unwV s.last st)
    have hhow : PushHow j sns xs se sq st n bs 1 0 { riseJ j T with ct := j.ct + 1, wait := v', cs := j.cs + (tkT j xs T e0).1.length } (sns.set se.toNat (tkL s sq (Ck.unwV s.last st))) (tkT j xs T e0).2 (tkT j xs T e0).1 :=
      .took s e0 v' dn hs hse hE hk rfl rfl hkey hdn hno hlt (by rw [hT]) rfl (by rw [hT]) (by rw [hT])
    rw [hT] at ht hkey hlt hTb
    have hse2 : ((se.toNat : Nat) : Int) = se := by omega
    rw [← hse2] at hkey
    have hjp := h.jp.take (cnt := Ck.unwV s.last st) (v' := v') hs hkey q0 q1 hdn hno hlt hTb.1 hTb.2
    obtain ⟨f1, f2, f3, f4⟩ := h.few
    refine ⟨1, 0, ov, _, _, _, _, he, Lib.hid ⟨⟨ht.inv.rebase, ?_, h.own, hjp, ?_, ?_⟩, ht.out, ?_, ?_, rfl, ht.own, ht.apart, ?_, ?_, fun _ _ => rfl, hhow, ht.vi.sub (fun e he => List.mem_append_left _ he)⟩⟩
    · exact ht.vi.sub (fun e he => List.mem_append_right _ he)
    · intro _
      exact riseH_le h.jp.num h.hor hTb.1
    · refine ⟨?_, ?_, ?_, ?_⟩
      · show j.ct + 1 ≤ _
        omega
      · show j.cd ≤ _
        omega
      · show j.co ≤ _
        omega
      · show j.cl ≤ _
        omega
    · exact fun e he => (ht.vi e (List.mem_append_left _ he)).1
    · refine ht.ft.mono (fun b _ hb => ?_)
      rcases hb with hb | hb | hb
      · exact .inl hb
      · exact .inr (.inl (by rw [hb]; exact hsb))
      · exact .inr (.inr hb)
    · intro e he
      have h1 := due_mem _ _ _ _ e he
      rcases h1 with h1 | h1
      · simp at h1
      · rcases List.mem_append.1 (upL_mem cmpK _ _ _ e h1) with h2 | h2
        · exact .inl h2
        · rw [List.mem_singleton.1 h2]
          exact .inr ht.fresh
    · rintro (q | q)
      · exact absurd rfl q
      · exact absurd rfl q

/-- what a flush leaves -/
structure FlushL (w w' : World) (x B : Nat) (j : Jn) (sns : List Sn) (xs told : List El) (k : Nat) (ov : Value) (j' : Jn) (mid : List El) : Prop where
  jr : JR w' x B j' sns [] (told ++ mid) k
  out : Row w.heap.size w' ov mid
  ok : ∀ e ∈ mid, ElOk w' e
  ft : Ft w w' (fun b => b = x ∨ j.wait.ownBlock = some b)
  sen : j'.sen = j.sen
  wait : j'.wait.ownBlock = j.wait.ownBlock
  apart : ∀ g, ov.ownBlock = some g → j'.wait.ownBlock ≠ some g
  ct : j'.ct = j.ct
  sub : ∀ e ∈ mid, e ∈ xs
  via : VI w' B j'.wait mid
  how : (j.some = false ∧ j' = j ∧ xs = [] ∧ mid = []) ∨ (j.some = true ∧ mid = (dueL cmpK (xs.length + 1) xs (j.top + 1) []).1 ∧ j' = { j with hor := j.top + 1, wait := j'.wait, cs := j.cs + mid.length })
theorem FlushL.outs {w w' : World} {x B : Nat} {j : Jn} {sns : List Sn} {xs told : List El} {k : Nat} {ov : Value} {j' : Jn} {mid : List El}
    (h : FlushL w w' x B j sns xs told k ov j' mid) {b : Nat} (hb : Out x j xs b) : Out x j' [] b :=
  ⟨hb.1, by rw [h.sen]; exact hb.2.1, by rw [h.wait]; exact hb.2.2.1, fun e he => by simp at he⟩
theorem JR.flush (x B : Nat) (j : Jn) (sns : List Sn) (xs told : List El) (k : Nat) (w : World) (h : JR w x B j sns xs told k) (hk4 : k ≤ 4000) :
    Calls Tryz.prog 16 #[.pointer (some ⟨x, 0, none⟩)] w fun e w' => ∃ ov j' mid, e = .returned ov ∧ Hid (FlushL w w' x B j sns xs told k ov j' mid) := by
  cases hs : j.some with
  | false =>
    obtain ⟨hx, ht⟩ := h.jp.none hs
    subst hx ht
    refine (flush_none x B j sns [] w w h.inv hs).mono ?_
    rintro e w' ⟨rfl, hb⟩
    exact ⟨_, j, [], rfl, Lib.hid ⟨h.below hb, World.ownsRow_nil _ _ _ _, fun e he => by simp at he, Ft.of_below hb _, rfl, rfl, fun g hg => by simp [Value.ownBlock] at hg, rfl, fun e he => he, fun e he => by simp at he, .inl ⟨hs, rfl, rfl, rfl⟩⟩⟩
  | true =>
    have hn := h.jp.num
    have hc := h.jp.cnt
    have hq := h.jp.cs
    obtain ⟨f1, f2, f3, f4⟩ := h.few
    refine (flush_some x B j sns xs w w h.inv h.vi h.own hs (by omega) (by omega) (by omega) (by have := hn.t0; omega) (by have := hn.t1; omega)).mono ?_
    rintro e w' ⟨ov, v', rfl, hh⟩
    obtain ⟨mid, d1, d2, d3, d4⟩ := h.jp.flush (v' := v') hs (h.hor hs)
    have hF := hh.out
    refine ⟨ov, { j with hor := j.top + 1, wait := v', cs := j.cs + mid.length }, mid, rfl, Lib.hid ⟨⟨?_, fun e he => by simp at he, h.own, d4, fun _ => Int.le_refl _, f1, f2, f3, f4⟩, ?_, ?_, hF.ft, rfl, hF.own, hF.apart, rfl, fun e he => d2.mem_iff.1 he, ?_, .inr ⟨hs, by rw [d1], rfl⟩⟩⟩
    · have := hF.inv
      rw [d1] at this
      exact this.rebase
    · have := hF.out
      rw [d1] at this
      exact this
    · have := hF.vi
      rw [d1] at this
      exact fun e he => (this e (List.mem_append_left _ he)).1
    · have := hF.vi
      rw [d1] at this
      exact this.sub (fun e he => List.mem_append_left _ he)
end Go.Proofs.YtebacmmfjadalaaGreat
