/- ClockFits: for every list of pairs the law answers true. Condition: the library's table of trailing zeros lies as its initialiser lays it (tied by the card). -/
import Derived.WalkKit
import Derived.ProofKit
import Derived.SizedLaws
import Derived.Lib.SmallJoins
import Derived.Test.YtiohemofidphjaaDoorRows
import Derived.OpenShut
import Derived.Test.YtiohemofidphjaaDoorF2
import Derived.Test.YtiohemofidphjaaDoorF1
import Derived.Maps.AppendAt
import Derived.OwnWalk
import Derived.Deep.Slices
import Derived.Deep.Fields
import Derived.ChangeSame
import Derived.Test.YtiohemofidphjaaDoorA7
import Derived.Test.YtiohemofidphjaaDoorS2
import Derived.Lib.LaidTab
import Derived.LaidMore
import Derived.Stop.Joined
import Derived.Test.YtiohemofidphjaaDoorS7
import Derived.Test.YtiohemofidphjaaDoorA6
import Derived.Test.YtiohemofidphjaaDoorTie
import Derived.Test.YtiohemofidphjaaDoorCards
import Derived.SevenTiedAt

namespace Go.Proofs.YtiohemofidphjaaDoor.Ck
open Go Go.ChangeShapes Go.WideShapes Go.ChangeAt Go.RowKit
variable {H : Type} {enc : TypeId × Value → H} {P : Program}

theorem trodAll_below (hl : laidOutB P = true) {W W' : World} (hb : Below W.heap.size W W') : ∀ {ts : List TypeId} {vs : List Value} {ds : List (DataW H)} {ps : List MemPlace},
    (∀ t ∈ ts, P.readableRec t = true ∧ t < P.types.size) → (∀ x ∈ ps, x.block < W.heap.size) → DataW.TrodAll enc P W 0 (fun _ => true) true ts vs ds ps →
    DataW.TrodAll enc P W' 0 (fun b => decide (b < W.heap.size)) true ts vs ds ps
  | [], [], [], _, _, _, h => h
  | t :: ts, v :: vs, d :: ds, ps, hr, hlt, ⟨p, q, h1, h2, e⟩ => by
    subst e
    exact ⟨p, q, Below.trod hl (hr t (List.mem_cons_self ..)).1 (hr t (List.mem_cons_self ..)).2 h1 hb (fun x hx => hlt x (List.mem_append_left _ hx)),
      trodAll_below hl hb (fun t ht => hr t (List.mem_cons_of_mem _ ht)) (fun x hx => hlt x (List.mem_append_right _ hx)) h2, rfl⟩

/-- A law's end: it answered true, and below the first new block the world is as it was: so each argument reads as it did. -/
theorem law_post {f : Func} {s : ChangeSpec} {W W' : World} {args : Array Value} {ds : List (DataW H)} {before : List MemPlace} {tb : TypeId} {apart : Bool}
    (hl : laidOutB P = true) (hr : ∀ t ∈ f.params.toList, P.readableRec t = true ∧ t < P.types.size) (hrt : f.resultTypes = #[tb]) (ht : P.underlying tb = some .bool)
    (hs : s.vars = []) (hfn : s.fn H (ds ++ []) = { results := [.lit (.bool true)], args := ds })
    (hW : DataW.Whole enc P f.params.toList s.vars apart W args.toList ds [] before) (hb : Below W.heap.size W W') :
    s.post enc P f apart true false false W args (.bool true) W' := by
  have hW' := hW
  obtain ⟨p, q, hA, hV, rfl, hfz, hnd⟩ := hW
  rw [hs] at hV
  obtain ⟨-, rfl⟩ := trodVars_none hV
  simp only [List.append_nil] at hW'
  have hlt : ∀ x ∈ p, x.block < W.heap.size := fun x hx => hW'.lt x hx
  refine ⟨ds, [], p, [], p, [], hW', ?_, ?_, ?_, ?_, fun h => by cases h⟩
  · rw [hfn, hrt]
    exact trodAll_mk1 (shut_bool ht true)
  · rw [hfn]
    exact trodAll_below hl hb hr hlt hA
  · rw [hfn, hs]
    rfl
  · exact hb.frame _
end Go.Proofs.YtiohemofidphjaaDoor.Ck

namespace Go.Proofs.YtiohemofidphjaaDoor
open Go.ChangeShapes Go.WideShapes Go.ChangeAt Go.RowKit Go.Joins

theorem own : ownKnob Tryd.prog.godebug = none := by kernel_rfl
theorem cells_clock : Tryd.prog.cellsOf 24 = 3 := by kernel_rfl
theorem laid : laidOutB Tryd.prog = true := by kernel_rfl
def readableAll (P : Program) (ts : List TypeId) : Bool := ts.all fun t => P.readableRec t && decide (t < P.types.size)
theorem readable_of {P : Program} {ts : List TypeId} (h : readableAll P ts = true) : ∀ t ∈ ts, P.readableRec t = true ∧ t < P.types.size := by
  simpa [readableAll] using h

section
variable {H : Type} {enc : TypeId × Value → H}
set_option maxRecDepth 100000 in
theorem open_clock {W : World} {r : Reach} {b0 base : Nat} {sp : Nat → Bool} {held : Bool} {v : Value} {d : DataW H} {p : List MemPlace}
    (hv : Value.okWide Tryd.prog W r b0 24 v) (h : DataW.Trod enc Tryd.prog W base sp held 24 v d p) :
    ∃ o n k : Int, v = .agg #[.int .i64 o, .int .i64 n, .int .i64 k] ∧ (Lit.int .i64 o).wf = true ∧ (Lit.int .i64 n).wf = true ∧ (Lit.int .i64 k).wf = true := by
  obtain ⟨c0, c1, c2, y0, y1, y2, m, rfl, -, -, h0, h1, h2⟩ := open_agg3 Tryd.underlying24 (by kernel_rfl) cells_clock hv h
  obtain ⟨o, e0, -, w0⟩ := DataW.trod_int Tryd.underlying2 h0
  obtain ⟨n, e1, -, w1⟩ := DataW.trod_int Tryd.underlying2 h1
  obtain ⟨k, e2, -, w2⟩ := DataW.trod_int Tryd.underlying2 h2
  simp at e0 e1 e2
  subst e0 e1 e2
  exact ⟨o, n, k, rfl, w0, w1, w2⟩
end
end Go.Proofs.YtiohemofidphjaaDoor

namespace Go.Proofs.YtiohemofidphjaaDoor
open Go Go.RowKit

theorem fit_long (A : Option Addr) (n c : Nat) (ps : List (Int × Int)) (w : World) (hlen : ps.length = n) (hn : 1024 < n) (hm : n ≤ 9223372036854775807) :
    Calls Tryd.prog 5 #[.slice A n c] w fun e w' => e = .returned (fitR ps) ∧ Below w.heap.size w w' := by
  have HL := Lib.hid hlen
  clear hlen
  have hn' : (1024 : Int) < (n : Int) := by omega
  go_enter Tryd.func5, Tryd.ntmps5
  go_wp2_with fail
  exact bodyPost_ret (by simp only [results, Tryd.results5]; simp [go_sem]; try rfl) rfl ⟨by rw [fitR_bad (Ck.fitE_long (by rw [HL.out]; exact hn)) (by decide)], (Below.refl _ _).alloc (Nat.le_refl _) _⟩

theorem fit_zero (A : Option Addr) (c : Nat) (w : World) :
    Calls Tryd.prog 5 #[.slice A 0 c] w fun e w' => e = .returned (fitR []) ∧ Below w.heap.size w w' := by
  go_enter Tryd.func5, Tryd.ntmps5
  go_wp2_with fail
  refine wp_loop_rounds 1 ?_
  rw [rounds_succ]
  go_wp2_with fail
  exact bodyPost_ret (by simp only [results, Tryd.results5]; simp [go_sem]; try rfl) rfl ⟨by rw [fitR_bad (Ck.fitE_few (by decide) (by decide)) (by decide)], (Below.refl _ _).alloc (Nat.le_refl _) _⟩

theorem inL_one {p : Int × Int} (h : Ck.inT p.1 = true) (h' : Ck.inT p.2 = true) : Ck.inL [p] = true := by
  rw [Ck.inL, decide_eq_true_eq]
  intro j hj
  have : j = 0 := by simp at hj; omega
  subst this
  exact ⟨h, h'⟩

set_option maxRecDepth 8000 in
set_option maxHeartbeats 1000000 in
theorem fit_one (b off c : Nat) (x y : Int) (w : World) (hb : b < w.heap.size)
    (h1 : w.cell? ⟨b, off, none⟩ = some (.int .i64 x)) (h2 : w.cell? ⟨b, off + 1, none⟩ = some (.int .i64 y)) :
    Calls Tryd.prog 5 #[.slice (some ⟨b, off, none⟩) 1 c] w fun e w' => e = .returned (fitR [(x, y)]) ∧ Below w.heap.size w w' := by
  have hbn : ¬ b = w.heap.size := by omega
  have HE : Hid (Below w.heap.size w ((w.alloc (.cells #[.int .i64 0, .int .i64 0, .int .i64 0] 24)).alloc (.cells #[.int .i64 x, .int .i64 y] 44))) := Lib.hid (((Below.refl _ _).alloc (Nat.le_refl _) _).alloc (by simp) _)
  by_cases ix : Ck.inT x = true
  · have IX := Lib.hid ix
    clear ix
    by_cases iy : Ck.inT y = true
    · have IY := Lib.hid iy
      clear iy
      go_enter Tryd.func5, Tryd.ntmps5
      go_wp2_with fail
      refine wp_loop_rounds 2 ?_
      rw [rounds_succ]
      go_wp2_with (go_at_call 14; refine (withinT _ _).mono ?_; (first | rw [IX.out] | rw [IY.out]); rintro e w' ⟨rfl, rfl⟩)
      rw [rounds_succ]
      go_wp2_with fail
      exact bodyPost_ret (by simp only [results, Tryd.results5]; simp [go_sem]; try rfl) rfl ⟨by rw [fitR_bad (Ck.fitE_few (inL_one IX.out IY.out) (by simp)) (by decide)], HE.out⟩
    · have iy' : Ck.inT y = false := by simpa using iy
      have IY := Lib.hid iy'
      clear iy iy'
      go_enter Tryd.func5, Tryd.ntmps5
      go_wp2_with fail
      refine wp_loop_rounds 2 ?_
      rw [rounds_succ]
      go_wp2_with (go_at_call 14; refine (withinT _ _).mono ?_; (first | rw [IX.out] | rw [IY.out]); rintro e w' ⟨rfl, rfl⟩)
      exact bodyPost_ret (by simp only [results, Tryd.results5]; simp [go_sem]; try rfl) rfl ⟨by rw [fitR_bad (Ck.fitE_range (ps := [(x, y)]) (by simp) (j := 0) (by simp) (.inr IY.out)) (by decide)], HE.out⟩
  · have ix' : Ck.inT x = false := by simpa using ix
    have IX := Lib.hid ix'
    clear ix ix'
    go_enter Tryd.func5, Tryd.ntmps5
    go_wp2_with fail
    refine wp_loop_rounds 2 ?_
    rw [rounds_succ]
    go_wp2_with (go_at_call 14; refine (withinT _ _).mono ?_; rw [IX.out]; rintro e w' ⟨rfl, rfl⟩)
    exact bodyPost_ret (by simp only [results, Tryd.results5]; simp [go_sem]; try rfl) rfl ⟨by rw [fitR_bad (Ck.fitE_range (ps := [(x, y)]) (by simp) (j := 0) (by simp) (.inl IX.out)) (by decide)], HE.out⟩

theorem fit_any {v : Value} {ps : List (Int × Int)} {w : World} (h : Prs w v ps) (hm : ∀ A n c, v = .slice A n c → c ≤ 9223372036854775807) :
    Calls Tryd.prog 5 #[v] w fun e w' => e = .returned (fitR ps) ∧ Below w.heap.size w w' := by
  obtain ⟨A, c, rfl, hc, hcell⟩ := h
  have hcm := hm _ _ _ rfl
  clear hm
  rcases Nat.lt_or_ge 1024 ps.length with hl | hl
  · exact fit_long A _ c ps w rfl hl (by omega)
  rcases Nat.lt_or_ge ps.length 2 with h2 | h2
  · match ps, h2 with
    | [], _ => exact fit_zero A c w
    | [p], _ =>
      obtain ⟨b, off, rfl, hb, hj⟩ := hcell (by simp)
      have := hj 0 (by simp)
      simp only [Nat.zero_mul, Nat.add_zero] at this
      exact fit_one b off c p.1 p.2 w hb this.1 this.2
  · obtain ⟨b, off, rfl, hb, hj⟩ := hcell (by omega)
    exact fit_walk b off c _ ps w rfl hb hj hl h2 hc hcm
end Go.Proofs.YtiohemofidphjaaDoor

namespace Go.Proofs.YtiohemofidphjaaDoor.Ck

def clampK (k : Int) : Int := if k < 1 ∨ 1000 < k then 1 else k
theorem clampK_bd (k : Int) : 1 ≤ clampK k ∧ clampK k ≤ 1000 := by unfold clampK; split <;> omega
def sumK (zs : Nat → Int) : Nat → Int
  | 0 => 0
  | t + 1 => sumK zs t + clampK (zs t)
theorem sumK_bd (zs : Nat → Int) : ∀ t : Nat, (t : Int) ≤ sumK zs t ∧ sumK zs t ≤ 1000 * (t : Int)
  | 0 => by simp [sumK]
  | t + 1 => by have := sumK_bd zs t; have := clampK_bd (zs t); simp only [sumK]; omega
theorem sumK_mono (zs : Nat → Int) (i : Nat) : ∀ j, i < j → sumK zs i < sumK zs j := by
  intro j
  induction j with
  | zero => omega
  | succ j ih =>
    intro h
    have := clampK_bd (zs j)
    simp only [sumK]
    rcases Nat.lt_or_ge i j with h1 | h1
    · have := ih h1; omega
    · rw [show i = j by omega]; omega
def madeP (o n d : Int) (zs : Nat → Int) (j : Nat) : Int × Int := (sumK zs (j + 1) * d, o + sumK zs (j + 1) * n)
def madeL (o n d : Int) (zs : Nat → Int) (t : Nat) : List (Int × Int) := (List.range t).map (madeP o n d zs)
theorem madeL_length (o n d : Int) (zs : Nat → Int) (t : Nat) : (madeL o n d zs t).length = t := by simp [madeL]
theorem madeL_get {o n d : Int} {zs : Nat → Int} {t j : Nat} (h : j < t) : (madeL o n d zs t).getD j (0, 0) = madeP o n d zs j := by
  simp [madeL, List.getD_eq_getElem?_getD, List.getElem?_range h]
theorem madeL_succ (o n d : Int) (zs : Nat → Int) (t : Nat) : madeL o n d zs (t + 1) = madeL o n d zs t ++ [madeP o n d zs t] := by
  simp [madeL, List.range_succ]

theorem sumK_count {zs : Nat → Int} {t : Nat} (ht : t ≤ 1024) {d : Int} (d1 : 1 ≤ d) (d2 : d ≤ 1000000000) : 0 ≤ sumK zs t * d ∧ sumK zs t * d ≤ 1024000000000000 := by
  have := sumK_bd zs t
  refine ⟨Int.mul_nonneg (by omega) (by omega), ?_⟩
  have h1 : sumK zs t * d ≤ 1024000 * d := Int.mul_le_mul_of_nonneg_right (by omega) (by omega)
  omega

section
variable {o n d : Int} {zs : Nat → Int} {t : Nat}
theorem made_at_div (hd : 1 ≤ d) (K : Int) : o + K * d * n / d = o + K * n := by
  rw [show K * d * n = K * n * d by rw [Int.mul_assoc, Int.mul_comm d n, Int.mul_assoc], Int.mul_ediv_cancel _ (by omega)]
theorem made_in (hk : okc o n d = true) (ht : t ≤ 1024) (hT : ∀ j, j < t → inT (o + sumK zs (j + 1) * n) = true) : inL (madeL o n d zs t) = true := by
  rw [inL, decide_eq_true_eq, madeL_length]
  intro j hj
  rw [madeL_get hj]
  obtain ⟨n0, n1, d0, d1, o0, o1⟩ := okc_iff.1 hk
  have := sumK_count (zs := zs) (t := j + 1) (by omega) d0 d1
  exact ⟨inT_iff.2 (by simp only [madeP]; omega), hT j hj⟩
theorem made_up (hk : okc o n d = true) : upL (madeL o n d zs t) = true := by
  rw [upL, decide_eq_true_eq, madeL_length]
  intro j hj
  rw [madeL_get (by omega), madeL_get (by omega)]
  obtain ⟨n0, n1, d0, d1, o0, o1⟩ := okc_iff.1 hk
  have hm := sumK_mono zs (j + 1) (j + 1 + 1) (by omega)
  have h1 : sumK zs (j + 1) * d < sumK zs (j + 1 + 1) * d := Int.mul_lt_mul_of_pos_right hm (by omega)
  have h2 : sumK zs (j + 1) * n < sumK zs (j + 1 + 1) * n := Int.mul_lt_mul_of_pos_right hm (by omega)
  simp only [madeP]
  omega
theorem made_ends (h2 : 2 ≤ t) : fstP (madeL o n d zs t) = madeP o n d zs 0 ∧ lstP (madeL o n d zs t) = madeP o n d zs (t - 1) := by
  unfold fstP lstP
  rw [madeL_length, madeL_get (by omega), madeL_get (by omega)]
  exact ⟨rfl, rfl⟩
theorem made_line (hk : okc o n d = true) (h2 : 2 ≤ t) : fitN (fstP (madeL o n d zs t)) (lstP (madeL o n d zs t)) = rateN n.toNat d.toNat ∧ fitD (fstP (madeL o n d zs t)) (lstP (madeL o n d zs t)) = rateD n.toNat d.toNat := by
  obtain ⟨n0, n1, d0, d1, o0, o1⟩ := okc_iff.1 hk
  rw [(made_ends h2).1, (made_ends h2).2]
  exact fit_made n0 d0 (sumK_mono zs _ _ (by omega))
theorem rate_le (hn : 1 ≤ n) (hd : 1 ≤ d) : 1 ≤ rateN n.toNat d.toNat ∧ rateN n.toNat d.toNat ≤ n ∧ 1 ≤ rateD n.toNat d.toNat ∧ rateD n.toNat d.toNat ≤ d := by
  obtain ⟨g, hg, e1, e2, p1, p2⟩ := rate_parts (x := n.toNat) (y := d.toNat) (by omega) (by omega)
  have q1 : rateN n.toNat d.toNat ≤ (g : Int) * rateN n.toNat d.toNat := by
    have := Int.mul_le_mul_of_nonneg_right (show (1 : Int) ≤ g by omega) (show 0 ≤ rateN n.toNat d.toNat by omega); omega
  have q2 : rateD n.toNat d.toNat ≤ (g : Int) * rateD n.toNat d.toNat := by
    have := Int.mul_le_mul_of_nonneg_right (show (1 : Int) ≤ g by omega) (show 0 ≤ rateD n.toNat d.toNat by omega); omega
  omega
theorem made_ok (hk : okc o n d = true) (h2 : 2 ≤ t) : fitOk (fstP (madeL o n d zs t)) (lstP (madeL o n d zs t)) = true := by
  obtain ⟨n0, n1, d0, d1, o0, o1⟩ := okc_iff.1 hk
  have hl := made_line (zs := zs) hk h2
  have hr := rate_le n0 d0
  unfold fitOk rateOk
  unfold fitN fitD at hl
  rw [hl.1, hl.2, decide_eq_true_eq]
  omega
theorem made_o (hk : okc o n d = true) (h2 : 2 ≤ t) : fitO (fstP (madeL o n d zs t)) (lstP (madeL o n d zs t)) = o := by
  obtain ⟨n0, n1, d0, d1, o0, o1⟩ := okc_iff.1 hk
  have hl := made_line (zs := zs) hk h2
  unfold fitO
  rw [hl.1, hl.2, (made_ends h2).1]
  simp only [madeP]
  rw [made_at n0 d0]
  omega
theorem made_e (hk : okc o n d = true) (h2 : 2 ≤ t) (ht : t ≤ 1024) (hT : ∀ j, j < t → inT (o + sumK zs (j + 1) * n) = true) : fitE (madeL o n d zs t) = 0 := by
  obtain ⟨n0, n1, d0, d1, o0, o1⟩ := okc_iff.1 hk
  exact fitE_ok (by rw [madeL_length]; exact ht) (by rw [madeL_length]; exact h2) (made_in hk ht hT) (made_up hk) (made_ok hk h2) (by rw [made_o hk h2, inT_iff]; omega)
theorem made_miss (hk : okc o n d = true) (h2 : 2 ≤ t) : ∀ j, j ≤ t → missN o (rateN n.toNat d.toNat) (rateD n.toNat d.toNat) (madeL o n d zs t) j = 0
  | 0, _ => rfl
  | j + 1, h => by
    obtain ⟨n0, n1, d0, d1, o0, o1⟩ := okc_iff.1 hk
    have ih := made_miss hk h2 j (by omega)
    simp only [missN]
    rw [ih, madeL_get (by omega)]
    simp only [madeP]
    rw [made_at n0 d0]
    omega
theorem made_w (hk : okc o n d = true) (h2 : 2 ≤ t) : fitW (madeL o n d zs t) = 0 := by
  have hl := made_line (zs := zs) hk h2
  unfold fitW
  rw [made_o hk h2, hl.1, hl.2, made_miss hk h2 _ (by rw [madeL_length]; omega)]
theorem made_found (hk : okc o n d = true) (h2 : 2 ≤ t) : fitN (fstP (madeL o n d zs t)) (lstP (madeL o n d zs t)) * d = n * fitD (fstP (madeL o n d zs t)) (lstP (madeL o n d zs t)) := by
  obtain ⟨n0, n1, d0, d1, o0, o1⟩ := okc_iff.1 hk
  rw [(made_line hk h2).1, (made_line hk h2).2]
  exact made_rate n0 d0
end

/-- the times of the first and the last pair by the fit -/
theorem fit_times {ps : List (Int × Int)} (h : fitE ps = 0) :
    timeOk (fitO (fstP ps) (lstP ps)) (fitN (fstP ps) (lstP ps)) (fitD (fstP ps) (lstP ps)) (fstP ps).1 = true ∧ fitO (fstP ps) (lstP ps) + (fstP ps).1 * fitN (fstP ps) (lstP ps) / fitD (fstP ps) (lstP ps) = (fstP ps).2 ∧
    timeOk (fitO (fstP ps) (lstP ps)) (fitN (fstP ps) (lstP ps)) (fitD (fstP ps) (lstP ps)) (lstP ps).1 = true ∧ fitO (fstP ps) (lstP ps) + (lstP ps).1 * fitN (fstP ps) (lstP ps) / fitD (fstP ps) (lstP ps) = (lstP ps).2 := by
  obtain ⟨_, h2, hi, hu, hk, ho⟩ := fitE_zero h
  obtain ⟨e1, e2⟩ := upL_ends hu h2
  have i1 := inL_at hi (j := 0) (by omega)
  have i2 := inL_at hi (j := ps.length - 1) (by omega)
  have f1 := fit_first (fstP ps) (lstP ps)
  have f2 := fit_last e1 e2
  have hc : okc (fitO (fstP ps) (lstP ps)) (fitN (fstP ps) (lstP ps)) (fitD (fstP ps) (lstP ps)) = true := by rw [fit_okc hu h2 hk, ho]
  exact ⟨timeOk_iff.2 ⟨hc, i1.1, by rw [f1]; exact i1.2⟩, f1, timeOk_iff.2 ⟨hc, i2.1, by rw [f2]; exact i2.2⟩, f2⟩
theorem fitW_nonneg (ps : List (Int × Int)) : 0 ≤ fitW ps := missN_nonneg _ _ _ _ _
end Go.Proofs.YtiohemofidphjaaDoor.Ck

namespace Go.Proofs.YtiohemofidphjaaDoor
open Go Go.RowKit Go.ChangeShapes Go.WideShapes Go.Deep

theorem cell_lt {w : World} {a : Addr} {v : Value} (h : w.cell? a = some v) : a.block < w.heap.size := by
  rcases Nat.lt_or_ge a.block w.heap.size with h' | h'
  · exact h'
  · rw [World.cell?, Array.getElem?_eq_none h'] at h
    simp at h

theorem infoP : (Tryd.prog.info? 44).map (fun i => (i.zero, i.size, i.bytes)) = some (some (.agg #[.int .i64 0, .int .i64 0]), 2, 16) := by kernel_rfl

/-- pairs as cells -/
def flat : List (Int × Int) → List Value
  | [] => []
  | p :: l => .int .i64 p.1 :: .int .i64 p.2 :: flat l
theorem flat_length : ∀ ps : List (Int × Int), (flat ps).length = ps.length * 2
  | [] => rfl
  | p :: l => by simp [flat, flat_length l]; omega
theorem flat_get : ∀ (ps : List (Int × Int)) (j : Nat), j < ps.length → (flat ps)[j * 2]? = some (.int .i64 (ps.getD j (0, 0)).1) ∧ (flat ps)[j * 2 + 1]? = some (.int .i64 (ps.getD j (0, 0)).2)
  | [], _, h => by simp at h
  | p :: l, 0, _ => by simp [flat]
  | p :: l, j + 1, h => by
    have := flat_get l j (by simpa using h)
    rw [show (j + 1) * 2 = j * 2 + 1 + 1 by omega]
    simpa [flat] using this
theorem flat_one : ∀ ps : List (Int × Int), ∀ u ∈ flat ps, u.oneCell' = true
  | [], u, h => by simp [flat] at h
  | p :: l, u, h => by
    simp only [flat, List.mem_cons] at h
    rcases h with rfl | rfl | h
    · rfl
    · rfl
    · exact flat_one l u h
theorem flat_append : ∀ a b : List (Int × Int), flat (a ++ b) = flat a ++ flat b
  | [], b => rfl
  | p :: l, b => by simp [flat, flat_append l b]

/-- an owned row of pairs is a list of pairs -/
theorem Prs.of_own {w : World} {base : Nat} {v : Value} {ps : List (Int × Int)} (h : w.ownsRow base 44 2 v ps.length (flat ps)) : Prs w v ps ∧ ∀ A n c, v = .slice A n c → c ≤ 9223372036854775807 := by
  rcases h.2 with ⟨rfl, hl⟩ | ⟨g, cap, cur, rfl, hb, hh, hc, hm, hs, ht⟩
  · refine ⟨⟨none, 0, by rw [hl], by omega, fun h0 => by omega⟩, fun A n c e => ?_⟩
    injection e with _ _ e
    omega
  · refine ⟨⟨_, cap, rfl, hc, fun h0 => ⟨g, 0, rfl, (h.lt g rfl).2, fun j hj => ?_⟩⟩, fun A n c e => ?_⟩
    · have hf := flat_get ps j hj
      have hl := flat_length ps
      have hcl := h.cells (g := g) rfl
      have e1 := hcl (j * 2) _ hf.1
      have e2 := hcl (j * 2 + 1) _ hf.2
      rw [add_plain] at e1 e2
      exact ⟨e1, e2⟩
    · injection e with _ _ e
      simp only [maxLen] at hm
      omega

set_option maxRecDepth 100000 in
theorem run_append_pairs (w : World) (v : Value) (ps : List (Int × Int)) (h : Prs w v ps) (hl : ps.length * 16 ≤ 140737488355328) (ty : TypeId) :
    ∃ v' w', (Builtin.append_ #[22, 22] ty #[.slice none 0 0, v]).run Tryd.prog w = .ok v' w' ∧ (Prs w' v' ps ∧ ∀ A n c, v' = .slice A n c → c ≤ 9223372036854775807) ∧ Below w.heap.size w w' := by
  obtain ⟨i0, hi0, hz0, hz1, hz2⟩ := info_parts infoP
  obtain ⟨A, c, rfl, hc0, hcell⟩ := h
  rcases A with _ | ad
  · have h0 : ps.length = 0 := by
      rcases Nat.eq_zero_or_pos ps.length with h0 | h0
      · exact h0
      · obtain ⟨b, off, e, -⟩ := hcell h0
        cases e
    have hn : ps = [] := List.eq_nil_of_length_eq_zero h0
    subst hn
    refine ⟨.slice none 0 0, w, ?_, Prs.of_own (base := 0) (World.ownsRow_nil _ _ _ _), Below.refl _ _⟩
    simp [Builtin.append_, run_underlying Tryd.underlying22, sizeOf, typeInfo, hi0, Builtin.lenOf, Builtin.firstCells]
  · have hnews : ∀ j u, (flat ps)[j]? = some u → w.cell? (ad.add j) = some u := by
      intro j u hu
      have hj : j < ps.length * 2 := by
        have := (List.getElem?_eq_some_iff.1 hu).1
        rwa [flat_length] at this
      obtain ⟨b, off, e, -, hcl⟩ := hcell (by omega)
      injection e with e
      subst e
      have hq := flat_get ps (j / 2) (by omega)
      have hcq := hcl (j / 2) (by omega)
      rw [add_plain]
      rcases (show j = j / 2 * 2 ∨ j = j / 2 * 2 + 1 by omega) with hjj | hjj
      · rw [hjj] at hu ⊢
        rw [hq.1] at hu
        rw [← hu]
        exact hcq.1
      · rw [hjj] at hu ⊢
        rw [hq.2] at hu
        rw [← hu]
        exact hcq.2
    obtain ⟨v', w', hrun, hown, hg, -, -⟩ := run_append_own_at (P := Tryd.prog) w w.heap.size 22 ty 44 i0 _ 2 16 Tryd.underlying22 hi0 hz0 hz1 hz2 rfl (by omega) (.slice none 0 0) 0 [] (World.ownsRow_nil _ _ _ _)
      ad ps.length c (flat ps) (flat_length ps) hnews (flat_one ps) (by simp only [maxLen]; omega) (by omega) (Nat.le_refl _)
    refine ⟨v', w', hrun, ?_, (Below.refl _ _).grown hg (Nat.le_refl _) (by simp [Value.ownBlock])⟩
    rw [Nat.zero_add, List.nil_append] at hown
    exact Prs.of_own hown

section
variable (w : World)
theorem wp_append_pairs {o : Oper} {a : Act} {K : Act → World → Prop} {Q : Exit → Act → World → Prop} (s x : Operand)
    (ho : o.op = .call { callee := .builtin .append, args := #[s, x], argTypes := #[22, 22] }) (v : Value) (ps : List (Int × Int)) (hs : a.eval s = .slice none 0 0) (hx : a.eval x = v) (hm : Prs w v ps) (hl : ps.length * 16 ≤ 140737488355328)
    (h : ∀ v' w', (Prs w' v' ps ∧ ∀ A n c, v' = .slice A n c → c ≤ 9223372036854775807) → Below w.heap.size w w' → K (a.put o.dst v') w') : o.wp Tryd.prog a w K Q := by
  obtain ⟨v', w', hrun, h2, h3⟩ := run_append_pairs w v ps hm hl o.type
  unfold Oper.wp execOp
  simp only [ho, resolve, invoke, builtin, Sem.run_bind, Sem.run_pure, Result.andThen_ok, List.map_toArray, List.map_cons, List.map_nil, hs, hx, hrun]
  exact h v' w' h2 h3
theorem wpList_append_pairs {ops : Array Oper} {rest : List Oper} {o : Oper} {a : Act} {Q : Exit → Act → World → Prop} (hgd : o.guard = none) (s x : Operand)
    (ho : o.op = .call { callee := .builtin .append, args := #[s, x], argTypes := #[22, 22] }) (v : Value) (ps : List (Int × Int)) (hs : a.eval s = .slice none 0 0) (hx : a.eval x = v) (hm : Prs w v ps) (hl : ps.length * 16 ≤ 140737488355328)
    (h : ∀ v' w', (Prs w' v' ps ∧ ∀ A n c, v' = .slice A n c → c ≤ 9223372036854775807) → Below w.heap.size w w' → wpList Tryd.prog ops Q rest (a.put o.dst v') w') : wpList Tryd.prog ops Q (o :: rest) a w :=
  wpList_plain hgd fun _ hK => wp_append_pairs w s x ho v ps hs hx hm hl fun v' w' h2 h3 => hK _ _ (h v' w' h2 h3)
end

section
variable {H : Type} {enc : TypeId × Value → H}
theorem cells22e : Tryd.prog.cellsOf 44 = 2 := by kernel_rfl
theorem bytesP : Tryd.prog.bytesOf 44 = 16 := by kernel_rfl
set_option maxRecDepth 100000 in
/-- an argument that is a list of pairs -/
theorem open_pairs {W : World} {r : Reach} {b0 base : Nat} {sp : Nat → Bool} {held : Bool} {v : Value} {d : DataW H} {p : List MemPlace}
    (hv : Value.okWide Tryd.prog W r b0 22 v) (h : DataW.Trod enc Tryd.prog W base sp held 22 v d p) :
    ∃ ps : List (Int × Int), Prs W v ps ∧ (ps.length = 0 ∨ ∃ es sps, d = .slice es sps ∧ es.length = ps.length) ∧ ∀ A n c, v = .slice A n c → c ≤ 9223372036854775807 := by
  obtain ⟨a0, len, cap, rfl⟩ := okWide_slice Tryd.underlying22 hv
  obtain ⟨fuel, hf⟩ := h
  rcases open_slice Tryd.underlying22 hf with ⟨hcs, hx⟩ | ⟨a, len', cap', m, n, D, Pl, hcs, hb, hl, hm, hmm, hx, hi⟩
  · simp only [Value.cells, List.cons.injEq, Value.slice.injEq, and_true] at hcs
    obtain ⟨rfl, rfl, rfl⟩ := hcs
    exact ⟨[], ⟨none, 0, rfl, by simp, fun h0 => by simp at h0⟩, .inl rfl, fun A n c e => by injection e with _ _ e; omega⟩
  · simp only [Value.cells, List.cons.injEq, Value.slice.injEq, and_true] at hcs
    obtain ⟨rfl, rfl, rfl⟩ := hcs
    rw [cells22e] at hi
    have hmlen : len ≤ m := by rw [hmm]; split <;> omega
    have hrow : ∀ i, i < len → ∃ x y : Int, W.cell? (a.add (i * 2)) = some (.int .i64 x) ∧ W.cell? (a.add (i * 2 + 1)) = some (.int .i64 y) := by
      intro i hi'
      obtain ⟨cs', hc, ht'⟩ := hi i (by omega)
      obtain ⟨xs, n', hn', hy, hlen, hyl, hfld⟩ := DataW.trod_struct Tryd.underlying44 ht'
      obtain ⟨_, hcl, hat⟩ := World.cells?_some hc
      match cs', hcl with
      | [c0, c1], _ =>
        have g0 := hfld 0 _ rfl
        have g1 := hfld 1 _ rfl
        have a0 := hat 0 (by omega)
        have a1 := hat 1 (by omega)
        obtain ⟨x, e0, -, -⟩ := DataW.trod_int Tryd.underlying2 (show DataW.trod enc Tryd.prog W base sp held _ 2 [c0] = some _ from g0.trans (List.getElem?_eq_getElem (show 0 < xs.length by rw [hyl]; decide)))
        obtain ⟨y, e1, -, -⟩ := DataW.trod_int Tryd.underlying2 (show DataW.trod enc Tryd.prog W base sp held _ 2 [c1] = some _ from g1.trans (List.getElem?_eq_getElem (show 1 < xs.length by rw [hyl]; decide)))
        simp at e0 e1
        subst e0 e1
        refine ⟨x, y, ?_, ?_⟩
        · have := a0; rw [Go.Deep.add_add] at this; simpa using this
        · have := a1; rw [Go.Deep.add_add] at this; simpa using this
    have hsk : ∀ i, ∃ q : Int × Int, i < len → W.cell? (a.add (i * 2)) = some (.int .i64 q.1) ∧ W.cell? (a.add (i * 2 + 1)) = some (.int .i64 q.2) := by
      intro i
      by_cases hi' : i < len
      · obtain ⟨x, y, e1, e2⟩ := hrow i hi'
        exact ⟨(x, y), fun _ => ⟨e1, e2⟩⟩
      · exact ⟨(0, 0), fun h => absurd h hi'⟩
    obtain ⟨f, hf'⟩ := Classical.axiomOfChoice hsk
    have hlf : ((List.range len).map f).length = len := by simp
    have hgf : ∀ j, j < len → ((List.range len).map f).getD j (0, 0) = f j := fun j hj => by simp [List.getD_eq_getElem?_getD, List.getElem?_range hj]
    refine ⟨(List.range len).map f, ⟨some a, cap, by rw [hlf], by rw [hlf]; exact hl, fun h0 => ?_⟩, .inr ⟨_, _, by simp only [Prod.mk.injEq] at hx; exact hx.1, by simp⟩, fun A n c e => by injection e with _ _ e; simp only [maxLen] at hm; omega⟩
    rw [hlf] at h0 ⊢
    obtain ⟨b, off, spot⟩ := a
    have hspot : spot = none := by simpa [Addr.add] using World.cell?_spot (hf' 0 h0).1
    subst hspot
    refine ⟨b, off, rfl, ?_, fun j hj => ?_⟩
    · exact cell_lt (hf' 0 h0).1
    · rw [hgf j hj]
      have := hf' j hj
      rw [add_plain, add_plain] at this
      exact this
end
end Go.Proofs.YtiohemofidphjaaDoor

namespace Go.Proofs.YtiohemofidphjaaDoor
open Go Go.RowKit

theorem fitR_parts (ps : List (Int × Int)) : ∃ O N D W E : Int, fitR ps = .tuple #[.agg #[.int .i64 O, .int .i64 N, .int .i64 D], .int .i64 W, .int .i64 E] ∧ Ck.fitE ps = E ∧
    (E = 0 → Ck.fitO (Ck.fstP ps) (Ck.lstP ps) = O ∧ Ck.fitN (Ck.fstP ps) (Ck.lstP ps) = N ∧ Ck.fitD (Ck.fstP ps) (Ck.lstP ps) = D ∧ Ck.fitW ps = W) := by
  by_cases h : Ck.fitE ps = 0
  · exact ⟨_, _, _, _, 0, by unfold fitR; rw [if_pos h]; rfl, h, fun _ => ⟨rfl, rfl, rfl, rfl⟩⟩
  · exact ⟨0, 0, 0, 0, _, by unfold fitR; rw [if_neg h], rfl, fun h' => absurd h' h⟩
theorem fit_is {ps : List (Int × Int)} {O N D W E : Int} (h : fitR ps = .tuple #[.agg #[.int .i64 O, .int .i64 N, .int .i64 D], .int .i64 W, .int .i64 E]) {v : Value} {w : World}
    (hP : Prs w v ps ∧ ∀ A n c, v = .slice A n c → c ≤ 9223372036854775807) :
    Calls Tryd.prog 5 #[v] w fun e w' => e = .returned (.tuple #[.agg #[.int .i64 O, .int .i64 N, .int .i64 D], .int .i64 W, .int .i64 E]) ∧ Below w.heap.size w w' := by
  have := fit_any hP.1 hP.2
  rwa [h] at this

theorem two_new {wr : World} {o1 o2 : Obj} {B : Nat} {w0 : World} (h : Below B w0 wr) (hB : B ≤ wr.heap.size) : Below B w0 ((wr.alloc o1).alloc o2).drew :=
  ((Below.alloc h hB _).alloc (by simp; omega) _).drew

/-- the two pairs' copies and the fit, behind calls -/
structure Two (W3 : World) (db g h : Nat) (O N D x y x' y' : Int) (wx : World) : Prop where
  g0 : g < wx.heap.size
  h0 : h < wx.heap.size
  d0 : db < wx.heap.size
  c0 : wx.cell? ⟨g, 0, none⟩ = some (.int .i64 x)
  c1 : wx.cell? ⟨g, 1, none⟩ = some (.int .i64 y)
  c2 : wx.cell? ⟨h, 0, none⟩ = some (.int .i64 x')
  c3 : wx.cell? ⟨h, 1, none⟩ = some (.int .i64 y')
  c4 : wx.cell? ⟨db, 0, none⟩ = some (.int .i64 O)
  c5 : wx.cell? ⟨db, 1, none⟩ = some (.int .i64 N)
  c6 : wx.cell? ⟨db, 2, none⟩ = some (.int .i64 D)
  bl : Below W3.heap.size W3 wx
theorem Two.on {W3 : World} {db g h : Nat} {O N D x y x' y' : Int} {wx w' : World} (t : Two W3 db g h O N D x y x' y' wx) (hb : Below wx.heap.size wx w') : Two W3 db g h O N D x y x' y' w' :=
  ⟨Nat.lt_of_lt_of_le t.g0 hb.size, Nat.lt_of_lt_of_le t.h0 hb.size, Nat.lt_of_lt_of_le t.d0 hb.size, (hb.cell (by exact t.g0)).trans t.c0, (hb.cell (by exact t.g0)).trans t.c1, (hb.cell (by exact t.h0)).trans t.c2, (hb.cell (by exact t.h0)).trans t.c3,
    (hb.cell (by exact t.d0)).trans t.c4, (hb.cell (by exact t.d0)).trans t.c5, (hb.cell (by exact t.d0)).trans t.c6, t.bl.trans (hb.mono t.bl.size)⟩

theorem pair_news {w : World} {g : Nat} {x y : Int} (c0 : w.cell? ⟨g, 0, none⟩ = some (.int .i64 x)) (c1 : w.cell? ⟨g, 1, none⟩ = some (.int .i64 y)) : ∀ j u, (flat [(x, y)])[j]? = some u → w.cell? ((⟨g, 0, none⟩ : Addr).add j) = some u := by
  intro j u hu
  rw [Go.WideShapes.add_plain, Nat.zero_add]
  match j, hu with
  | 0, hu => simp [flat] at hu; rw [← hu]; exact c0
  | 1, hu => simp [flat] at hu; rw [← hu]; exact c1
  | j + 2, hu => simp [flat] at hu
theorem wpList_append_pair (w : World) {ops : Array Oper} {rest : List Oper} {o : Oper} {a : Act} {Q : Exit → Act → World → Prop} (hgd : o.guard = none) (s x : Operand)
    (ho : o.op = .call { callee := .builtin .append, args := #[s, x], argTypes := #[22, 22] }) (base : Nat) (v : Value) (ps : List (Int × Int)) (hs : a.eval s = v) (hown : w.ownsRow base 44 2 v ps.length (flat ps))
    (g : Nat) (p q : Int) (hx : a.eval x = .slice (some ⟨g, 0, none⟩) 1 1) (c0 : w.cell? ⟨g, 0, none⟩ = some (.int .i64 p)) (c1 : w.cell? ⟨g, 1, none⟩ = some (.int .i64 q)) (hl : ps.length ≤ 1024) (hbase : base ≤ w.heap.size)
    (h : ∀ v' w', w'.ownsRow base 44 2 v' (ps ++ [(p, q)]).length (flat (ps ++ [(p, q)])) → Below base w w' → wpList Tryd.prog ops Q rest (a.put o.dst v') w') : wpList Tryd.prog ops Q (o :: rest) a w := by
  obtain ⟨i0, hi0, hz0, hz1, hz2⟩ := info_parts infoP
  refine wpList_append_own_at w hgd s x 22 ho base 44 i0 _ 2 16 Tryd.underlying22 hi0 hz0 hz1 hz2 rfl (by omega) v ps.length (flat ps) hs hown ⟨g, 0, none⟩ 1 1 (flat [(p, q)]) hx rfl (pair_news c0 c1) (flat_one _) (by simp only [maxLen]; omega) (by omega) hbase ?_
  intro v' w' h1 h2 _ _
  refine h v' w' ?_ ((Below.refl _ _).grown h2 hbase (fun k hk => (hown.lt k hk).1))
  rw [flat_append, List.length_append]
  exact h1
theorem own_below {w w' : World} {base e size n : Nat} {v : Value} {xs : List Value} (h : w.ownsRow base e size v n xs) (hb : Below w.heap.size w w') : w'.ownsRow base e size v n xs :=
  h.kept (row := none) ⟨hb.os, hb.tape, hb.output, hb.size, fun k hk _ => hb.block k hk⟩ (by cases v.ownBlock <;> simp)
theorem below_on {w a b : World} (h : Below w.heap.size w a) (k : Below a.heap.size a b) : Below w.heap.size w b := h.trans (k.mono h.size)

end Go.Proofs.YtiohemofidphjaaDoor

namespace Go.Proofs.YtiohemofidphjaaDoor
open Go Go.RowKit Bg

def laidD : List (String × DataW Unit) := [("math/bits.deBruijn32tab", Rows.laid_math_bits_deBruijn32tab)]
theorem gTab : Tryd.prog.globalNamed "math/bits.deBruijn32tab" = some 2 := by kernel_rfl
theorem tTab : (Tryd.prog.globals[2]?).map (·.type) = some 114 := by kernel_rfl
theorem tab_data : (Rows.laid_math_bits_deBruijn32tab : DataW Unit) = Lib.tabData .u8 (Lib.deBruijn32tab.map fun n : Nat => (n : Int)) := rfl
theorem tab_cell {w : World} {a : Addr} {v : Value} (h : w.cell? a = some v) : a.block < w.heap.size := by
  rcases Nat.lt_or_ge a.block w.heap.size with h' | h'
  · exact h'
  · rw [World.cell?, Array.getElem?_eq_none h'] at h
    simp at h
theorem tab_of_laid {W : World} (h : laidMetH Tryd.prog laidD W) : Tab W := by
  rw [MakeChecks.laidMetH_plain _ _ _ (by kernel_rfl)] at h
  unfold laidD at h
  rw [tab_data] at h
  have ht := Lib.tabIs_of_head gTab tTab Tryd.underlying114 Tryd.underlying5 (by kernel_rfl) (by kernel_rfl) h
  have hc : ∀ j, j < 32 → W.cell? ⟨2, j, none⟩ = some (.int .u8 (Lib.deBruijn32tab.getD j 0 : Nat)) := fun j hj => by
    rw [ht.cell gTab j (by simpa [Lib.deBruijn32tab] using hj)]
    have hl : j < Lib.deBruijn32tab.length := by simpa [Lib.deBruijn32tab] using hj
    rw [List.getD_eq_getElem?_getD, List.getD_eq_getElem?_getD, List.getElem?_map, List.getElem?_eq_getElem hl]
    rfl
  exact ⟨tab_cell (hc 0 (by omega)), hc⟩
theorem door_met (os : Os) (args : Array Value) : laidMetH Tryd.prog laidD ((World.doorLaid Tryd.prog 14 os).forCall (fun _ _ => 0) ⟨#[], args, []⟩).memory :=
  laidMetH_of_parts3 (fuel := 8) (laidMet_of_run' 8 (by kernel_rfl) (by kernel_rfl)) (by kernel_rfl) (by kernel_rfl)
end Go.Proofs.YtiohemofidphjaaDoor

namespace Go.Proofs.YtiohemofidphjaaDoor
open Go Go.RowKit Bg

set_option maxRecDepth 8000 in
theorem rfit_long (A : Option Addr) (n c : Nat) (ps : List (Int × Int)) (w : World) (hlen : ps.length = n) (hn : 1024 < n) (hm : n ≤ 9223372036854775807) :
    Calls Tryd.prog 6 #[.slice A n c] w fun e w' => e = .returned (fitR ps) ∧ Below w.heap.size w w' := by
  have HL := Lib.hid hlen
  clear hlen
  have hn' : (1024 : Int) < (n : Int) := by omega
  go_enter Tryd.func6, Tryd.ntmps6
  go_wp2_with fail
  exact bodyPost_ret (by simp only [results, Tryd.results6]; simp [go_sem]; try rfl) rfl ⟨by rw [fitR_bad (Ck.fitE_long (by rw [HL.out]; exact hn)) (by decide)], FitS.start w⟩

set_option maxRecDepth 8000 in
theorem rfit_zero (A : Option Addr) (c : Nat) (w : World) :
    Calls Tryd.prog 6 #[.slice A 0 c] w fun e w' => e = .returned (fitR []) ∧ Below w.heap.size w w' := by
  go_enter Tryd.func6, Tryd.ntmps6
  go_wp2_with fail
  refine wp_loop_rounds 1 ?_
  rw [rounds_succ]
  go_wp2_with fail
  exact bodyPost_ret (by simp only [results, Tryd.results6]; simp [go_sem]; try rfl) rfl ⟨by rw [fitR_bad (Ck.fitE_few (by decide) (by decide)) (by decide)], FitS.start w⟩

set_option maxRecDepth 8000 in
set_option maxHeartbeats 2000000 in
theorem rfit_one (b off c : Nat) (x y : Int) (w : World) (hb : b < w.heap.size)
    (h1 : w.cell? ⟨b, off, none⟩ = some (.int .i64 x)) (h2 : w.cell? ⟨b, off + 1, none⟩ = some (.int .i64 y)) :
    Calls Tryd.prog 6 #[.slice (some ⟨b, off, none⟩) 1 c] w fun e w' => e = .returned (fitR [(x, y)]) ∧ Below w.heap.size w w' := by
  have hbn : ¬ b = w.heap.size := by omega
  have hbm : ¬ b = w.heap.size + 1 := by omega
  have hbl : b < w.heap.size + 1 := by omega
  have HE : Hid (Below w.heap.size w (((w.alloc (.cells #[.int .i64 0, .int .i64 0, .int .i64 0] 24)).alloc (.cells #[.int .i64 0, .int .i64 0, .int .i64 0] 24)).alloc (.cells #[.int .i64 x, .int .i64 y] 44))) := Lib.hid ((FitS.start w).alloc (by simp; omega) _)
  by_cases hgood : (-1125899906842624 ≤ x ∧ x ≤ 1125899906842624) ∧ -1125899906842624 ≤ y ∧ y ≤ 1125899906842624
  · obtain ⟨⟨x1, x2⟩, y1, y2⟩ := hgood
    have HI := Lib.hid (inL_one (p := (x, y)) (Ck.inT_iff.2 ⟨x1, x2⟩) (Ck.inT_iff.2 ⟨y1, y2⟩))
    go_enter Tryd.func6, Tryd.ntmps6
    go_wp2_with fail
    refine wp_loop_rounds 2 ?_
    rw [rounds_succ]
    go_wp2_with fail
    rw [rounds_succ]
    go_wp2_with fail
    exact bodyPost_ret (by simp only [results, Tryd.results6]; simp [go_sem]; try rfl) rfl ⟨by rw [fitR_bad (Ck.fitE_few HI.out (by simp)) (by decide)], HE.out⟩
  · have hbad : Hid (fitR [(x, y)] = .tuple #[.agg #[.int .i64 0, .int .i64 0, .int .i64 0], .int .i64 0, .int .i64 1]) := Lib.hid (fitR_bad (Ck.fitE_range (ps := [(x, y)]) (by simp) (j := 0) (by simp) (by
      show Ck.inT x = false ∨ Ck.inT y = false
      rw [← Bool.not_eq_true, ← Bool.not_eq_true, Ck.inT_iff, Ck.inT_iff]; omega)) (by decide))
    rcases (by omega : x < -1125899906842624 ∨ (-1125899906842624 ≤ x ∧ 1125899906842624 < x) ∨ (-1125899906842624 ≤ x ∧ x ≤ 1125899906842624 ∧ y < -1125899906842624) ∨ (-1125899906842624 ≤ x ∧ x ≤ 1125899906842624 ∧ -1125899906842624 ≤ y ∧ 1125899906842624 < y)) with h | ⟨h, h'⟩ | ⟨h, h', h''⟩ | ⟨h, h', h'', h'''⟩
    all_goals (clear hgood; go_enter Tryd.func6, Tryd.ntmps6; go_wp2_with fail; refine wp_loop_rounds 2 ?_; rw [rounds_succ]; go_wp2_with fail)
    all_goals exact bodyPost_ret (by simp only [results, Tryd.results6]; simp [go_sem]; try rfl) rfl ⟨by rw [hbad.out], HE.out⟩

theorem rfit_any {v : Value} {ps : List (Int × Int)} {w : World} (h : Prs w v ps) (hm : ∀ A n c, v = .slice A n c → c ≤ 9223372036854775807) (hT : Tab w) :
    Calls Tryd.prog 6 #[v] w fun e w' => e = .returned (fitR ps) ∧ Below w.heap.size w w' := by
  obtain ⟨A, c, rfl, hc, hcell⟩ := h
  have hcm := hm _ _ _ rfl
  clear hm
  rcases Nat.lt_or_ge 1024 ps.length with hl | hl
  · exact rfit_long A _ c ps w rfl hl (by omega)
  rcases Nat.lt_or_ge ps.length 2 with h2 | h2
  · match ps, h2 with
    | [], _ => exact rfit_zero A c w
    | [p], _ =>
      obtain ⟨b, off, rfl, hb, hj⟩ := hcell (by simp)
      have := hj 0 (by simp)
      simp only [Nat.zero_mul, Nat.add_zero] at this
      exact rfit_one b off c p.1 p.2 w hb this.1 this.2
  · obtain ⟨b, off, rfl, hb, hj⟩ := hcell (by omega)
    exact rfit_walk b off c _ ps w rfl hb hj hl h2 hT
end Go.Proofs.YtiohemofidphjaaDoor

namespace Go.Proofs.YtiohemofidphjaaDoor
open Go Go.RowKit Bg

set_option maxRecDepth 8000 in
set_option maxHeartbeats 4000000 in
theorem fits_walk (A : Option Addr) (m c : Nat) (ps : List (Int × Int)) (w : World) (hm : ps.length = m)
    (hP : Prs w (.slice A m c) ps) (hcc : c ≤ 9223372036854775807) (hl : ps.length * 16 ≤ 140737488355328) (hT : Tab w) :
    Calls Tryd.prog 3 #[.slice A m c] w fun e w' => e = .returned (.bool true) ∧ Below w.heap.size w w' := by
  have HP := Lib.hid hP
  have HM := Lib.hid hm
  have HT := Lib.hid hT
  obtain ⟨O, N, D, W, E, hfit, -, -⟩ := fitR_parts ps
  have HF := Lib.hid hfit
  have HR := Lib.hid (fun (W1 : World) (h : Below w.heap.size w W1) => (rfit_any (hP.below h) (fun _ _ _ e => by injection e with _ _ e; omega) (hT.below h)))
  rw [hfit] at HR
  clear hfit hP hm hT
  go_enter Tryd.func3, Tryd.ntmps3
  go_wp2_with (first | (at_builtin; refine wpList_append_pairs _ rfl _ _ rfl (.slice A m c) ps rfl rfl HP.out hl ?_; intro v1 w1 hP1 hb1; have HPL := Lib.hid hP1; have HB1 := Lib.hid hb1; clear hP1 hb1) | (go_at_call 5; refine (fit_is HF.out HPL.out).mono ?_; rintro e w2 ⟨rfl, hb2⟩; have HB2 := Lib.hid (HB1.out.trans (hb2.mono HB1.out.size)); clear hb2) | (go_at_call 6; refine (HR.out _ (HB2.out.alloc HB2.out.size _)).mono ?_; rintro e w3 ⟨rfl, hb3⟩; have HB3 := Lib.hid hb3; obtain ⟨q0, q1, q2, -, q4⟩ := new_clk w2 O N D 24; have c0 := (hb3.cell (p := ⟨w2.heap.size, 0, none⟩) (by exact q4)).trans q0; have c1 := (hb3.cell (p := ⟨w2.heap.size, 1, none⟩) (by exact q4)).trans q1; have c2 := (hb3.cell (p := ⟨w2.heap.size, 2, none⟩) (by exact q4)).trans q2; have c3 := Nat.lt_of_lt_of_le q4 hb3.size; clear hb3 q0 q1 q2 q4) | (go_at_call 7; refine (awake_true _).mono ?_; rintro e w4 ⟨rfl, hb4⟩; have HB4 := Lib.hid hb4; clear hb4))
  go_ret
  exact ⟨by first | rfl | simp, below_on ((below_on (HB2.out.alloc HB2.out.size _) HB3.out).alloc (Nat.le_trans HB2.out.size (Nat.le_of_lt c3)) _) HB4.out⟩
end Go.Proofs.YtiohemofidphjaaDoor

namespace Go.Proofs.YtiohemofidphjaaDoor
open Go Go.ChangeShapes Go.WideShapes Go.ChangeAt Go.RowKit Bg

set_option maxRecDepth 100000 in
theorem fits_all {W : World} {H : Type} {enc : TypeId × Value → H} {v : Value} {d : DataW H} {p : List MemPlace} {r : Reach} {b0 : Nat}
    (hsz : (DataW.weightsEach Tryd.prog [22] [d]).all (· ≤ reachBytes) = true)
    (hv : Value.okWide Tryd.prog W r b0 22 v) (h : DataW.Trod enc Tryd.prog W 0 (fun _ => true) true 22 v d p) (hT : Tab W) :
    Calls Tryd.prog 3 #[v] W fun e w' => e = .returned (.bool true) ∧ Below W.heap.size W w' := by
  obtain ⟨ps, hP, hd, hcap⟩ := open_pairs hv h
  have hl : ps.length * 16 ≤ 140737488355328 := by
    rcases hd with h0 | ⟨es, sps, rfl, he⟩
    · omega
    · have := sized_slice hsz (j := 0) rfl rfl Tryd.underlying22
      rw [bytesP, he] at this
      have := reachBytes_lt
      omega
  obtain ⟨A, c, rfl, hc, hcell⟩ := hP
  exact fits_walk A ps.length c ps W rfl ⟨A, c, rfl, hc, hcell⟩ (hcap _ _ _ rfl) hl hT

set_option linter.unusedVariables false
set_option maxRecDepth 100000 in
theorem fits_lifted (os : Os) (started : os.Started) (H : Type) (enc : TypeId × Value → H) :
    ReturnsInHanded {} Tryd.checked os 3 .any (fun w args => (Rows.clockFitsSpec.pre enc Tryd.prog Tryd.f3 [] false w args ∧ laidMetH Tryd.prog laidD w) ∧ sizedMet enc Tryd.prog Tryd.f3 (OpenSpec.ofChange Rows.clockFitsSpec) false w args)
      (Rows.clockFitsSpec.post enc Tryd.prog Tryd.f3 false true false false) := by
  refine returnsInHanded_of_change_and (C := Tryd.checked) (X := fun w _ => laidMetH Tryd.prog laidD w) (fun _ _ _ hh h => h.of_heap hh) own started (by kernel_rfl) Tryd.func3
    (ChangeSpec.witness_shaped (enc := enc) (C := Tryd.checked) (os := os) (X := fun w _ => laidMetH Tryd.prog laidD w) false (World.doorLaid Tryd.prog 14 os) #[.slice none 0 0] 8 rfl (World.shaped_of_RefB (by kernel_rfl) (by kernel_rfl)) (by kernel_rfl) (by kernel_rfl) (by kernel_rfl) (door_met os _)) ?_
  intro W base args ds gs before hval0 hW _ hsz0 hL _
  have hval : ∀ (j : Nat) t v, Tryd.f3.params[j]? = some t → args[j]? = some v → Value.okWide Tryd.prog W .any base t v := hval0
  have hW' := hW
  obtain ⟨p, q, hA0, hV, rfl, hfz, hnd⟩ := hW
  have hA : DataW.TrodAll enc Tryd.prog W 0 (fun _ => true) true Tryd.f3.params.toList args.toList ds p := hA0
  rw [Tryd.params3] at hA hval hsz0
  obtain ⟨v0, d0, rfl, rfl, h0⟩ := trodAll_one hA
  obtain ⟨rfl, rfl⟩ := trodVars_none hV
  refine (fits_all hsz0 (hval 0 22 v0 rfl rfl) h0 (tab_of_laid hL)).mono fun e W' ⟨he, hb⟩ => ⟨_, he, ?_⟩
  exact Ck.law_post laid (readable_of (by kernel_rfl)) rfl Tryd.underlying4 rfl rfl hW' hb

theorem fits_row_holds : Rows.ClockFitsSaid :=
  OpenClaim.holds_of_wide 3 Tryd.f3 rfl rfl rfl rfl rfl rfl rfl ⟨rfl, rfl, rfl, rfl, rfl⟩ rfl rfl rfl rfl rfl (by kernel_rfl) Tryd.func3 (by kernel_rfl)
    (of_decide_eq_true (by kernel_rfl)) (by unfold Func.isWrapper; first | (rw [if_pos (by decide +kernel)]; kernel_rfl) | (rw [if_neg (by decide +kernel)]; exact ⟨rfl, rfl⟩))
    (fun os started H enc _ => fits_lifted os started H enc)

theorem fits_holds : Rows.ClockFitsCardSaid :=
  Claim7.holds_tied_plain_at .later [] [.data] true (true, "94dd1c4d23c2355c678706adb217ccb133b6c32d99f4561745379aab0cf2949f") false
    fits_row_holds (fun _ h => by cases h) (by kernel_rfl) (fun _ h => by cases h) clockFits_row_tie rfl ⟨rfl, rfl⟩ (by kernel_rfl) rfl
    (fun f fn hf hfn => by
      obtain rfl : f = 3 := Option.some.inj ((show Tryd.prog.funcNamed "binnacle/binnaclelaw13.ClockFits" = some 3 by kernel_rfl).symm.trans hf) |>.symm
      obtain rfl : fn = Tryd.f3 := (Option.some.inj (Tryd.func3.symm.trans hfn)).symm
      exact ⟨by kernel_rfl, fun j t ht => by
        rw [Tryd.params3] at ht
        have hm : t ∈ [22] := by simpa using Array.mem_of_getElem? ht
        have hall : ([22].all fun u => !Tryd.prog.wantsStandIn u) = true := by kernel_rfl
        exact (show Tryd.prog.wantsStandIn t = false by simpa using List.all_eq_true.1 hall t hm)⟩)
    (by kernel_rfl)
#print axioms fits_holds
end Go.Proofs.YtiohemofidphjaaDoor
