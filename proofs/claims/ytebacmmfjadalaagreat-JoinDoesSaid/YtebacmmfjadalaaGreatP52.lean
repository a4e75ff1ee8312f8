/- V12 U4 in one text. -/
import Derived.Test.YtebacmmfjadalaaGreatP51
import Derived.Test.YtebacmmfjadalaaGreatP27
import Derived.BigQuiet
import Derived.Deep.QuietTactic
import Derived.Test.YtebacmmfjadalaaGreatP25

namespace Go.Proofs.YtebacmmfjadalaaGreat
open Go Go.RowKit

/-- what hangs on the keys alone -/
theorem key_three {a b : El} (h : a.key = b.key) : a.at_ = b.at_ ∧ a.se = b.se ∧ a.sq = b.sq := by
  unfold El.key at h
  injection h with h1 h
  injection h with h2 h
  injection h with h3 h
  exact ⟨h1, h2, h3⟩
theorem key_mem {xs ys : List El} (h : ys.map El.key = xs.map El.key) {e : El} (he : e ∈ ys) : ∃ d ∈ xs, e.at_ = d.at_ ∧ e.se = d.se ∧ e.sq = d.sq := by
  have h1 : e.key ∈ xs.map El.key := by rw [← h]; exact List.mem_map_of_mem he
  obtain ⟨d, hd, hk⟩ := List.mem_map.1 h1
  exact ⟨d, hd, key_three hk.symm⟩
theorem heap_keys {xs ys : List El} (h : ys.map El.key = xs.map El.key) (hh : Heap cmpK xs xs.length) : Heap cmpK ys ys.length := by
  have hl : ys.length = xs.length := by have := congrArg List.length h; simpa using this
  have hg : ∀ i, (ys[i]?).map El.key = (xs[i]?).map El.key := fun i => by rw [← List.getElem?_map, ← List.getElem?_map, h]
  intro i h0 h1 a b ha hb
  have g1 := hg i
  have g2 := hg ((i - 1) / 2)
  rw [hb] at g1
  rw [ha] at g2
  obtain ⟨b', hb', kb⟩ := Option.map_eq_some_iff.1 (show (xs[i]?).map El.key = some b.key from g1.symm)
  obtain ⟨a', ha', ka⟩ := Option.map_eq_some_iff.1 (show (xs[(i - 1) / 2]?).map El.key = some a.key from g2.symm)
  have h2 := hh i h0 (by omega) a' b' ha' hb'
  unfold Le cmpK at h2 ⊢
  rw [← kb, ← ka]
  exact h2
theorem JP.rekey {j : Jn} {sns : List Sn} {xs xs' told : List El} {s' v' : Value} (h : JP j sns xs told) (hk : xs'.map El.key = xs.map El.key) : JP { j with sen := s', wait := v' } sns xs' told := by
  have hl : xs'.length = xs.length := by have := congrArg List.length hk; simpa using this
  refine ⟨h.ok, heap_keys hk h.heap, fun e he => ?_, ?_, h.srt, h.low, fun e he => ?_, fun e he => ?_, fun hs => ?_, ⟨h.num.c0, h.num.k0, h.num.d0, h.num.o0, h.num.l0, h.num.t0, h.num.t1, h.num.w0, h.num.w1⟩, by rw [hl]; exact h.cnt, h.cs, h.srtk⟩
  · rcases List.mem_append.1 he with q | q
    · exact h.know e (List.mem_append_left _ q)
    · obtain ⟨d, hd, -, d2, d3⟩ := key_mem hk q
      rw [d2, d3]
      exact h.know d (List.mem_append_right _ hd)
  · have hd := h.dist
    have hm : (told ++ xs').map El.key = (told ++ xs).map El.key := by rw [List.map_append, List.map_append, hk]
    have hr : ∀ l : List El, l.Pairwise (fun a b => ¬ (a.se = b.se ∧ a.sq = b.sq)) ↔ (l.map El.key).Pairwise (fun a b => ¬ (a.getD 1 0 = b.getD 1 0 ∧ a.getD 2 0 = b.getD 2 0)) := fun l => by
      rw [List.pairwise_map]
      rfl
    rw [hr] at hd ⊢
    rw [hm]
    exact hd
  · obtain ⟨d, hd, d1, -⟩ := key_mem hk he
    rw [d1]
    exact h.high d hd
  · obtain ⟨d, hd, d1, -⟩ := key_mem hk he
    rw [d1]
    exact h.top d hd
  · obtain ⟨h1, h2⟩ := h.none hs
    rw [h1] at hl
    exact ⟨List.length_eq_zero_iff.1 hl, h2⟩
section
variable {w W : World} {cs : List (Int × Int × Int)} {x B : Nat} {j : Jn} {sns : List Sn} {xs told : List El} {k : Nat} {y sb D : Nat} {o : OJ} {oss : List OS} {ys : List El} {Ac : Option Addr} {cc : Nat}
theorem RO.rekey (h : RO cs j sns xs o oss ys) {xs' : List El} {s' v' : Value} (hk : xs'.map El.key = xs.map El.key) : RO cs { j with sen := s', wait := v' } sns xs' o oss ys :=
  ⟨h.any, h.top, h.bound, h.win, h.ct, h.cd, h.co, h.cl, h.ks, h.len, h.olen, h.clk, h.sn, by rw [hk]; exact h.keys, h.srt, h.few⟩
/-- behind a flush of both -/
theorem BJ.flush (h : BJ w W cs x B j sns xs told k y sb D o oss ys Ac cc) {W2 W3 : World} {ov : Value} {j' : Jn} {mid : List El} (hp : FlushL W W2 x B j sns xs told k ov j' mid) (hq : OI W3 y sb D (flO o ys.length) oss [] ∧ Ft W2 W3 (fun b => b = y)) :
    ys.map El.key = mid.map El.key ∧ Row W.heap.size W3 ov mid ∧ (∀ e ∈ mid, ElOk W3 e) ∧ (∀ e ∈ ys, ElOk W3 e) ∧ Row D W3 o.wait ys ∧ BJ w W3 cs x B j' sns [] (told ++ mid) k y sb D (flO o ys.length) oss [] Ac cc := by
  have hfx : ∀ b, (b = x ∨ j.wait.ownBlock = some b) → OutO y sb o oss ys b := fun b hb => h.farO (hb.imp id .inr)
  have oi2 : OI W2 y sb D o oss ys := h.oi.ft hp.ft hfx
  have hy : Out x j xs y := h.far (.inl rfl)
  have hyW : y < W.heap.size := by have := h.oi.big; have := h.oi.yB; omega
  have hRO : ys.map El.key = mid.map El.key ∧ RO cs j' sns [] (flO o ys.length) oss [] := by
    rcases hp.how with ⟨h1, h2, h3, h4⟩ | ⟨h1, h2, h3⟩
    · subst h2 h3 h4
      have hys : ys = [] := by
        have := h.ro.keys.length_eq
        simp only [List.length_map, List.length_nil] at this
        exact List.length_eq_zero_iff.1 this
      subst hys
      refine ⟨rfl, ?_⟩
      have ha : o.any = false := h.ro.any.trans h1
      have hks := h.ro.ks
      refine ⟨h.ro.any, h.ro.top, fun q => ?_, h.ro.win, h.ro.ct, h.ro.cd, h.ro.co, h.ro.cl, ?_, h.ro.len, h.ro.olen, h.ro.clk, h.ro.sn, h.ro.keys, h.ro.srt, h.ro.few⟩
      · rw [h1] at q; cases q
      · show o.cs + ((([] : List El).length : Nat) : Int) = _
        simpa using hks
    · obtain ⟨mid', d1, d2, d3, -⟩ := h.jr.jp.flush (v' := j'.wait) h1 (h.jr.hor h1)
      rw [d1] at h2
      simp only at h2
      subst h2
      obtain ⟨f1, f2⟩ := ro_flush (v' := j'.wait) (w' := .slice none 0 0) h.ro h.jr.hor h1 d2 d3
      refine ⟨f1, ?_⟩
      rw [← h3] at f2
      have he : flO o ys.length = { o with bound := max o.bound (o.top + 1), wait := .slice none 0 0, cs := o.cs + ys.length } := by
        unfold flO
        rw [if_pos (h.ro.any.trans h1)]
      rw [he]
      exact f2
  refine ⟨hRO.1, ?_, fun e he => (hp.ok e he).ft hq.2 (fun b f hv hb => ?_), fun e he => ((oi2.vals e he).1).ft hq.2 (fun b f hv hb => ?_), ?_, ⟨hp.jr.ft hq.2 (fun b hb => ?_), hq.1, hRO.2, h.cl, fun b => ?_, by rw [hp.sen]; exact h.wx, h.wy, ?_⟩⟩
  · exact hp.out.keep (fun g hg hl => hq.2.block g hl (by have := (hp.out.lt hg).1; omega))
  · exact hy.2.2.2 e (hp.sub e he) b f hv (by rw [hb])
  · have := (oi2.vals e he).2.2.2.2 b f hv
    have := h.oi.yB
    omega
  · exact oi2.row.keep (fun g hg hl => hq.2.block g hl (by have := (oi2.row.lt hg).1; have := h.oi.yB; omega))
  · rw [hb]; exact hp.outs hy
  · rcases h.ap b with q | q
    · exact .inl (hp.outs q)
    · refine .inr ⟨fun hf => q.own ?_, fun e he => by simp at he⟩
      rcases hf with hf | hf | hf | hf
      · exact .inl hf
      · exact .inr (.inl hf)
      · exact .inr (.inr (.inl hf))
      · simp [flO, Value.ownBlock] at hf
  · have b2 := h.bel.trans (hp.ft.below h.bel.size (fun c hc => h.jr.bnd h.wx (hc.imp id .inr)))
    exact b2.trans (hq.2.below b2.size (fun c hc => by rw [hc]; exact h.wy.1))
/-- a clone beside the reference's joiner, and the one that is left -/
theorem BJ.clone (h : BJ w W cs x B j sns xs told k y sb D o oss ys Ac cc) {W2 : World} {x' B' : Nat} {s' v' : Value} {xs' : List El} (hp : CloneP W W2 j sns xs x' B' s' v' xs') :
    BJ w W2 cs x' B' { j with sen := s', wait := v' } sns xs' told k y sb D o oss ys Ac cc ∧ BJ w W2 cs x B j sns xs told k y sb D o oss ys Ac cc ∧ ∀ b, Out x j xs b ∨ Out x' { j with sen := s', wait := v' } xs' b := by
  have hsz := h.bel.size
  have hnew : ∀ b, b < W.heap.size → Out x' { j with sen := s', wait := v' } xs' b := fun b hb => by
    have h1 := hp.wx
    have h2 := hp.inv.xB
    refine ⟨by omega, fun hg => ?_, fun hg => ?_, fun e he b' f hv q => ?_⟩
    · have := h1.2 b hg; omega
    · have := (hp.inv.row.lt hg).1; omega
    · injection q with q
      have := (hp.vi e he).2.2.1 b' f hv
      omega
  refine ⟨⟨⟨hp.inv, hp.vi, hp.own, h.jr.jp.rekey hp.keys, h.jr.hor, h.jr.few⟩, h.oi.below hp.bel, h.ro.rekey hp.keys, h.cl, fun b => ?_, ⟨Nat.le_trans hsz hp.wx.1, fun g hg => Nat.le_trans hsz (hp.wx.2 g hg)⟩, h.wy, h.bel.trans (hp.bel.mono hsz)⟩, h.below hp.bel, fun b => ?_⟩
  · rcases Nat.lt_or_ge b W.heap.size with q | q
    · exact .inl (hnew b q)
    · exact .inr (h.oi.out q)
  · rcases Nat.lt_or_ge b W.heap.size with q | q
    · exact .inr (hnew b q)
    · exact .inl (h.jr.out q)
/-- the one that is left goes its own way -/
theorem BJ.aside {x' B' : Nat} {j2 : Jn} {xs2 : List El} (h : BJ w W cs x' B' j2 sns xs2 told k y sb D o oss ys Ac cc) (h0 : BJ w W cs x B j sns xs told k y sb D o oss ys Ac cc) (ap : ∀ b, Out x j xs b ∨ Out x' j2 xs2 b) {W2 : World} {se sq st : Int} {n : Nat} {bs : List Nat} {kind er : Int} {ov : Value} {j' : Jn} {sns' : List Sn} {xs' mid : List El}
    (hp : PushL W W2 x B j sns xs told k se sq st n bs kind er ov j' sns' xs' mid) : BJ w W2 cs x' B' j2 sns xs2 told k y sb D o oss ys Ac cc :=
  ⟨h.jr.other ap hp.ft, h.oi.ft hp.ft (fun _ hb => h0.farO hb), h.ro, h.cl, h.ap, h.wx, h.wy, h.bel.trans (hp.ft.below h.bel.size (fun _ hc => h0.jr.bnd h0.wx hc))⟩
/-- what was told stays readable behind the reference's push -/
theorem BP.kept {W2 W4 : World} {se sq st : Int} {n : Nat} {bs : List Nat} {kind er : Int} {ov : Value} {j' : Jn} {sns' : List Sn} {xs' mid : List El} (h : BJ w W cs x B j sns xs told k y sb D o oss ys Ac cc) (hp : PushL W W2 x B j sns xs told k se sq st n bs kind er ov j' sns' xs' mid) (hq : Ft W2 W4 (FO y sb o oss)) :
    Row W.heap.size W4 ov mid ∧ ∀ e ∈ mid, ElOk W4 e := by
  refine ⟨hp.out.keep (fun g hg hl => hq.block g hl (fun hf => ?_)), fun e he => (hp.ok e he).ft hq (fun b f hv hf => ?_)⟩
  · have h1 := (hp.out.lt hg).1
    have h2 := h.oi.lt hf
    omega
  · rcases hp.new e (List.mem_append_left _ he) with q | q
    · exact (h.far hf).2.2.2 e q b f hv rfl
    · have h1 := q b f hv
      have h2 := h.oi.lt hf
      omega
end
end Go.Proofs.YtebacmmfjadalaaGreat

namespace Go.Proofs.YtebacmmfjadalaaGreat
open Go Go.RowKit Go.WideShapes

set_option maxHeartbeats 1000000 in
theorem horizon_any (x : Nat) (j : Jn) (w : World) (hj : JnAt w x j) : Calls Tryz.prog 23 #[.pointer (some ⟨x, 0, none⟩)] w fun e w' => e = .returned (.tuple #[.int .i64 (if j.some = true then j.hor else 0), .bool j.some]) ∧ Below w.heap.size w w' := by
  cases hs : j.some with
  | true => exact horizon_some x j w hj hs
  | false =>
    obtain ⟨S, win, V, sm, top, hor, ct, cd, co, cl, cs⟩ := j
    obtain ⟨-, -, -, g3, -, g5, -, g11⟩ := hj
    simp only at g3 g5 hs ⊢
    subst hs
    go_enter Tryz.func23, Tryz.ntmps23
    go_wp2_with fail
    refine (ready_any x true w g11).mono ?_
    rintro e w1 ⟨rfl, rfl⟩
    go_wp2_with fail
    go_ret2
    exact ⟨rfl, Below.refl _ _⟩

set_option maxRecDepth 100000 in
set_option maxHeartbeats 16000000 in
theorem state_any {w W : World} {cs : List (Int × Int × Int)} {x B : Nat} {j : Jn} {sns : List Sn} {xs told : List El} {k y sb D : Nat} {o : OJ} {oss : List OS} {ys : List El} {Ac : Option Addr} {cc : Nat} (h : BJ w W cs x B j sns xs told k y sb D o oss ys Ac cc) (hk : k ≤ 4000) (se sq st : Int) (A : Option Addr) (n c : Nat) (q0 : 0 ≤ sq) (q1 : sq ≤ 4294967295) :
    Calls Tryz.prog 20 #[.pointer (some ⟨x, 0, none⟩), .pointer (some ⟨y, 0, none⟩), .agg #[.int .i64 se, .int .u32 sq, .int .u32 st, .slice A n c]] W fun e w' => e = .returned (.bool true) ∧ Below W.heap.size W w' := by
  have HB1 := Lib.hid ((Below.refl W.heap.size W).alloc (Nat.le_refl _) (.cells #[.int .i64 se, .int .u32 sq, .int .u32 st, .slice A n c] 38))
  have HJ := Lib.hid (fun W' (hW : Below W.heap.size W W') => h.below hW)
  have HR := Lib.hid h.ro
  have HLEN := Lib.hid h.jr.len
  have HOK := Lib.hid h.jr.jp.ok
  have HFEW : Hid (j.ct ≤ 4000) := Lib.hid (by have := h.jr.few.1; omega)
  have HHZ := Lib.hid (horizon_any x j _ (h.below HB1.out).jr.inv.jn)
  obtain ⟨hz, hhz⟩ : ∃ z, (if j.some = true then j.hor else 0) = z := ⟨_, rfl⟩
  rw [hhz] at HHZ
  have HZ := Lib.hid hhz
  clear h hhz
  go_enter Tryz.func20, Tryz.ntmps20
  go_wp2_with fail
  refine HHZ.out.mono ?_
  rintro e w2 ⟨rfl, hb2⟩
  have r0 : w2.cell? ⟨W.heap.size, 0, none⟩ = some (.int .i64 se) := (hb2.cell (p := ⟨W.heap.size, 0, none⟩) (by simp)).trans (by simp [go_sem])
  have r1 : w2.cell? ⟨W.heap.size, 1, none⟩ = some (.int .u32 sq) := (hb2.cell (p := ⟨W.heap.size, 1, none⟩) (by simp)).trans (by simp [go_sem])
  have hbx : W.heap.size < w2.heap.size := Nat.lt_of_lt_of_le (by simp) hb2.size
  have HB2 := Lib.hid (HB1.out.trans (hb2.mono HB1.out.size))
  generalize hbxe : W.heap.size = bx at *
  have HBX := Lib.hid hbxe
  clear hb2 HB1 HHZ hbxe
  have G := (HJ.out w2 HB2.out).oi.at_
  have g2 := G 2 (by omega)
  have g3 := G 3 (by omega)
  have g5 := G 5 (by omega)
  have g6 := G 6 (by omega)
  have g7 := G 7 (by omega)
  have g8 := G 8 (by omega)
  have g9 := G 9 (by omega)
  have g10 := G 10 (by omega)
  have g11 := G 11 (by omega)
  simp only [OJ.row, List.getElem?_cons_zero, List.getElem?_cons_succ] at g2 g3 g5 g6 g7 g8 g9 g10 g11
  rw [HR.out.any] at g5
  rw [HR.out.ct] at g7
  rw [HR.out.cd] at g8
  rw [HR.out.co] at g9
  rw [HR.out.cl] at g10
  rw [HR.out.ks] at g11
  obtain ⟨WA, WC, hwv⟩ := (HJ.out w2 HB2.out).oi.row.slice
  rw [hwv] at g3
  have HWV := Lib.hid hwv
  obtain ⟨SA, SC, hsen, hsa⟩ := (HJ.out w2 HB2.out).oi.sen
  rw [hsen] at g2
  have HSA := Lib.hid hsa
  obtain ⟨m, hm⟩ : ∃ m, oss.length = m := ⟨_, rfl⟩
  rw [hm] at g2
  obtain ⟨yl, hyl⟩ : ∃ m, ys.length = m := ⟨_, rfl⟩
  rw [hyl] at g3
  have HYL := Lib.hid hyl
  have HM := Lib.hid hm
  obtain ⟨b, hb⟩ : ∃ b, j.some = b := ⟨_, rfl⟩
  rw [hb] at g5 ⊢
  obtain ⟨j0, hj0⟩ : ∃ z, j.ct = z := ⟨_, rfl⟩
  obtain ⟨j1, hj1⟩ : ∃ z, j.cd = z := ⟨_, rfl⟩
  obtain ⟨j2, hj2⟩ : ∃ z, j.co = z := ⟨_, rfl⟩
  obtain ⟨j3, hj3⟩ : ∃ z, j.cl = z := ⟨_, rfl⟩
  obtain ⟨j4, hj4⟩ : ∃ z, j.cs = z := ⟨_, rfl⟩
  rw [hj0] at g7
  rw [hj1] at g8
  rw [hj2] at g9
  rw [hj3] at g10
  rw [hj4] at g11
  have HJN := Lib.hid (And.intro hj0 (And.intro hj1 (And.intro hj2 (And.intro hj3 hj4))))
  obtain ⟨ob, hob⟩ : ∃ z, o.bound = z := ⟨_, rfl⟩
  rw [hob] at g6
  have HOB : Hid ((b = true → ob = hz) ∧ (b = false → hz = 0)) := Lib.hid ⟨fun e => by
    have h1 := HZ.out
    rw [hb, e, if_pos rfl] at h1
    rw [← hob, HR.out.bound (hb.trans e), h1], fun e => by
    have h1 := HZ.out
    rw [hb, e] at h1
    simpa using h1.symm⟩
  have HBE := Lib.hid hb
  have hy2 : y < w2.heap.size := by have h1 := (HJ.out w2 HB2.out).oi.big; have h2 := (HJ.out w2 HB2.out).oi.yB; omega
  clear G hwv hsen hsa hm hyl hj0 hj1 hj2 hj3 hj4 hb hob
  go_upto_if 19 with (fail)
  go_cut [9] from 11 to 23 (fun v wx => v = .int .i64 hz ∧ w2 = wx)
  case first =>
    cases b
    · have h0 := HOB.out.2 rfl
      subst h0
      go_wp2_with fail
      go_meet
      exact ⟨rfl, rfl⟩
    · have h0 := HOB.out.1 rfl
      subst h0
      go_wp2_with fail
      go_meet
      exact ⟨rfl, rfl⟩
  case rest =>
    obtain ⟨rfl, rfl⟩ := hcut
    clear HOB g6
    go_upto_region 5 with fail
    go_cut [10] from 24 to 49 (fun v wx => v = .bool (seenB sns se sq) ∧ Hid (Below w2.heap.size w2 wx))
    case first =>
      have HD := Lib.hid (fun nq => (show Below w2.heap.size w2 (w2.drewN nq) from ⟨rfl, rfl, rfl, Nat.le_refl _, fun _ _ => rfl⟩))
      by_cases c0 : 0 ≤ se
      case neg =>
        have c1 : decide (0 ≤ se) = false := by simpa using c0
        have HV : Hid (seenB sns se sq = false) := Lib.hid (by unfold seenB; rw [if_pos (by omega)])
        go_quiet (fail)
        go_wp2_with fail
        go_meet
        exact ⟨by rw [HV.out], Lib.hid (HD.out _)⟩
      case pos =>
      obtain ⟨sN, rfl⟩ := Int.eq_ofNat_of_zero_le c0
      by_cases c1 : (sN : Int) < (m : Int)
      case neg =>
        have c2 : decide ((sN : Int) < (m : Int)) = false := by simpa using c1
        have HV : Hid (seenB sns sN sq = false) := Lib.hid (by
          unfold seenB
          rw [if_neg (by omega), Int.toNat_natCast, List.getElem?_eq_none (by have := HM.out; have := HR.out.len; have := HR.out.olen; omega)])
        go_quiet (fail)
        go_wp2_with fail
        go_meet
        exact ⟨by rw [HV.out], Lib.hid (HD.out _)⟩
      case pos =>
      have hsl : sN < sns.length := by have := HM.out; have := HR.out.len; have := HR.out.olen; omega
      obtain ⟨s, hs⟩ : ∃ s, sns[sN]? = some s := ⟨sns[sN], List.getElem?_eq_getElem hsl⟩
      obtain ⟨u, hu, hrs⟩ := HR.out.at hs
      have hsa : SA = some ⟨sb, 0, none⟩ := by
        rcases HSA.out with h | h
        · have := HM.out; omega
        · exact h
      subst hsa
      have HV : Hid (seenB sns sN sq = hasO u.any u.top u.ts sq) := Lib.hid (by
        unfold seenB
        rw [if_neg (by omega), Int.toNat_natCast, hs]
        exact (hrs.has sq q0 q1).symm)
      have hbd0 := hrs.bd.1
      have hbd1 := hrs.bd.2
      have OI2 := (HJ.out w2 HB2.out).oi
      have S := OI2.sn sN _ hu
      have s0 := S 0 (by omega)
      have s1 := S 1 (by omega)
      have s2 := S 2 (by omega)
      have s3 := S 3 (by omega)
      simp only [OS.row, List.getElem?_cons_zero, List.getElem?_cons_succ, Nat.add_zero] at s0 s1 s2 s3
      obtain ⟨tA, tC, hutv⟩ := (OI2.nums u (List.mem_of_getElem? hu)).slice
      rw [hutv] at s3
      obtain ⟨ul, hul⟩ : ∃ z, u.last = z := ⟨_, rfl⟩
      obtain ⟨ut, hut⟩ : ∃ z, u.top = z := ⟨_, rfl⟩
      obtain ⟨ua, hua⟩ : ∃ z, u.any = z := ⟨_, rfl⟩
      obtain ⟨uts, huts⟩ : ∃ z, u.ts = z := ⟨_, rfl⟩
      rw [hul] at s0
      rw [hut] at s1 hbd0 hbd1
      rw [hua] at s2
      rw [huts] at s3
      rw [hut, hua, huts] at HV
      obtain ⟨tn, htn⟩ : ∃ z, uts.length = z := ⟨_, rfl⟩
      rw [htn] at s3
      have htl : tn ≤ 1099511627776 := by
        have h1 := HR.out.few u (List.mem_of_getElem? hu)
        have h2 := HR.out.ct
        have h3 := HFEW.out
        rw [huts, htn] at h1
        omega
      have HNUM : Hid (∀ W', Below w2.heap.size w2 W' → NumAt W' tA tn uts) := Lib.hid (fun W' hW => by
        have h := (OI2.nums u (List.mem_of_getElem? hu))
        rw [hutv, huts, htn] at h
        exact h.num.below hW)
      have HHA := Lib.hid (fun W' (hW : NumAt W' tA tn uts) => ohas_any ul ut ua tA tn tC uts sq W' hW htl q0 q1 hbd0 hbd1)
      have hs2 : sb < w2.heap.size := by have := OI2.big; have := OI2.sB; omega
      have hcur : Below w2.heap.size w2 w2.drew := (Below.refl _ _).drew
      clear S OI2 hs hu hrs hutv hul hut hua huts htn hsl hbd0 hbd1
      go_region_held3 (fun w' => w'.cell? ⟨y, 2, none⟩ = some (.slice (some ⟨sb, 0, none⟩) m SC) ∧ w'.cell? ⟨bx, 0, none⟩ = some (.int .i64 sN) ∧ w'.cell? ⟨bx, 1, none⟩ = some (.int .u32 sq) ∧ w'.cell? ⟨sb, sN * 4, none⟩ = some (.int .i64 ul) ∧ w'.cell? ⟨sb, sN * 4 + 1, none⟩ = some (.int .u32 ut) ∧ w'.cell? ⟨sb, sN * 4 + 2, none⟩ = some (.bool ua) ∧ w'.cell? ⟨sb, sN * 4 + 3, none⟩ = some (.slice tA tn tC))
        (first | exact ⟨(hcur.cell (by exact hy2)).trans g2, (hcur.cell (by exact hbx)).trans r0, (hcur.cell (by exact hbx)).trans r1, (hcur.cell (by exact hs2)).trans s0, (hcur.cell (by exact hs2)).trans s1, (hcur.cell (by exact hs2)).trans s2, (hcur.cell (by exact hs2)).trans s3⟩)
        (first | (go_at_call 39; refine (HHA.out _ (HNUM.out _ hcur)).mono ?_; rintro e w5 ⟨rfl, hb5⟩; replace hcur := back_of hcur hb5; clear hb5))
      have HCU := Lib.hid hcur
      clear hcur
      go_wp2_with fail
      go_meet
      exact ⟨by rw [HV.out], HCU⟩
    case rest =>
      obtain ⟨rfl, hb5⟩ := hcut
      rename World => w5
      obtain ⟨sB, hsB⟩ : ∃ z, seenB sns se sq = z := ⟨_, rfl⟩
      rw [hsB]
      have HB5 := Lib.hid (show Below bx W w5 from HB2.out.trans (hb5.out.mono (Nat.le_of_lt hbx)))
      have p3 := (hb5.out.cell (p := ⟨y, 3, none⟩) hy2).trans g3
      have p5 := (hb5.out.cell (p := ⟨y, 5, none⟩) hy2).trans g5
      have p7 := (hb5.out.cell (p := ⟨y, 7, none⟩) hy2).trans g7
      have p8 := (hb5.out.cell (p := ⟨y, 8, none⟩) hy2).trans g8
      have p9 := (hb5.out.cell (p := ⟨y, 9, none⟩) hy2).trans g9
      have p10 := (hb5.out.cell (p := ⟨y, 10, none⟩) hy2).trans g10
      have p11 := (hb5.out.cell (p := ⟨y, 11, none⟩) hy2).trans g11
      have q0' := (hb5.out.cell (p := ⟨bx, 0, none⟩) hbx).trans r0
      have q1' := (hb5.out.cell (p := ⟨bx, 1, none⟩) hbx).trans r1
      have hy5 := Nat.lt_of_lt_of_le hy2 hb5.out.size
      have hbx5 := Nat.lt_of_lt_of_le hbx hb5.out.size
      have HJ5 := Lib.hid (fun W' (hW : Below w5.heap.size w5 W') => HJ.out W' (HB5.out.trans (hW.mono (Nat.le_of_lt hbx5))))
      have HWT := Lib.hid (fun W' (hW : Below w5.heap.size w5 W') => waiting_any x B j sns xs W' W' (HJ5.out W' hW).jr.inv (HJ5.out W' hW).jr.vi (by have := HLEN.out; omega))
      have HCT := Lib.hid (fun W' (hW : Below w5.heap.size w5 W') => counts_any x j W' (HJ5.out W' hW).jr.inv.jn (by have h1 := (HJ5.out W' hW).jr.inv.big; have h2 := (HJ5.out W' hW).jr.inv.xB; omega))
      rw [HJN.out.1, HJN.out.2.1, HJN.out.2.2.1, HJN.out.2.2.2.1, HJN.out.2.2.2.2] at HCT
      have HSE := Lib.hid (fun W' (hW : Below w5.heap.size w5 W') => seen_any x B j sns xs se sq W' (HJ5.out W' hW).jr.inv HOK.out q0 q1)
      rw [hsB] at HSE
      have HSA2 : Hid (∀ wv es w6, Below w5.heap.size w5 w6 → TlAt w6 wv es → (es.map El.key).Perm (xs.map El.key) → es.Pairwise (Le cmpK) → (∀ a ∈ es, ElOk w6 a) → Calls Tryz.prog 17 #[wv, .slice WA yl WC] w6 fun e w' => e = .returned (.bool true) ∧ Below w6.heap.size w6 w') := Lib.hid (fun wv es w6 hW h1 h2 h3 h4 => by
        have hB := HJ5.out w6 hW
        have hrow := hB.oi.row
        rw [HWV.out, HYL.out] at hrow
        have hkk : es.map El.key = ys.map El.key := keys_unique h3 hB.ro.srt (h2.trans hB.ro.keys.symm)
        have h := tsame_any wv (.slice WA yl WC) es ys w6 h1 hrow.tl h4 (fun e he => (hB.oi.vals e he).1) (by
          have h5 := congrArg List.length hkk
          simp only [List.length_map] at h5
          have h6 := hB.ro.keys.length_eq
          simp only [List.length_map] at h6
          have := HLEN.out
          omega)
        rw [decide_eq_true hkk] at h
        exact h)
      have hcur : Below w5.heap.size w5 w5.drew := (Below.refl _ _).drew
      clear hb5 g2 g3 g5 g7 g8 g9 g10 g11 r0 r1 hsB HJ HB2
      go_upto_region 6 with fail
      go_region_held3 (fun w' => w'.cell? ⟨y, 3, none⟩ = some (.slice WA yl WC) ∧ w'.cell? ⟨y, 5, none⟩ = some (.bool b) ∧ w'.cell? ⟨y, 7, none⟩ = some (.int .i64 j0) ∧ w'.cell? ⟨y, 8, none⟩ = some (.int .i64 j1) ∧ w'.cell? ⟨y, 9, none⟩ = some (.int .i64 j2) ∧ w'.cell? ⟨y, 10, none⟩ = some (.int .i64 j3) ∧ w'.cell? ⟨y, 11, none⟩ = some (.int .i64 j4) ∧ w'.cell? ⟨bx, 0, none⟩ = some (.int .i64 se) ∧ w'.cell? ⟨bx, 1, none⟩ = some (.int .u32 sq))
        (first | exact ⟨(hcur.cell (by exact hy5)).trans p3, (hcur.cell (by exact hy5)).trans p5, (hcur.cell (by exact hy5)).trans p7, (hcur.cell (by exact hy5)).trans p8, (hcur.cell (by exact hy5)).trans p9, (hcur.cell (by exact hy5)).trans p10, (hcur.cell (by exact hy5)).trans p11, (hcur.cell (by exact hbx5)).trans q0', (hcur.cell (by exact hbx5)).trans q1'⟩)
        (first | (go_at_call 17; refine (HSM.out).mono ?_; rintro e w7 ⟨rfl, hb7⟩; replace hcur := back_of hcur hb7; clear hb7) | (go_at_call 45; refine (HWT.out _ hcur).mono ?_; rintro e w6 ⟨wv, es, rfl, hWt⟩; replace hcur := back_of hcur hWt.out.2.2.2.2; have HSM := Lib.hid (HSA2.out wv es _ hcur hWt.out.1.tl hWt.out.2.1 hWt.out.2.2.1 hWt.out.2.2.2.1); obtain ⟨wA, wc, rfl⟩ := hWt.out.1.slice) | (go_at_call 46; refine (HCT.out _ hcur).mono ?_; rintro e w8 ⟨rfl, hb8⟩; replace hcur := back_of hcur hb8; clear hb8) | (go_at_call 47; refine (HSE.out _ hcur).mono ?_; rintro e w9 ⟨rfl, hb9⟩; replace hcur := back_of hcur hb9; clear hb9))
      have HCU := Lib.hid (HB5.out.trans (hcur.mono (Nat.le_of_lt hbx5)))
      clear hcur
      go_wp2_with fail
      go_ret
      exact ⟨rfl, by rw [HBX.out]; exact HCU.out⟩
end Go.Proofs.YtebacmmfjadalaaGreat
