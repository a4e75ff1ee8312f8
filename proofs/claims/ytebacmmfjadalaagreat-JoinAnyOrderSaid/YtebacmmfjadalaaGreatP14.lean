/- J23 J24 K1 in one text. -/
import Derived.Test.YtebacmmfjadalaaGreatP13
import Derived.WalkLawsBesides
import Derived.Laws.Externs
import Derived.Deep.RegionHeld3

namespace Go.Proofs.YtebacmmfjadalaaGreat
open Go Go.RowKit Go.WideShapes

theorem infoF : (Tryz.prog.info? 114).map (fun i => (i.zero, i.size, i.bytes)) = some (some (.float .f64 0), 1, 8) := by kernel_rfl
theorem run_frombits (n : Int) (w : World) : Sem.run Tryz.prog (callFunc 49 #[.int .u64 n]) w = .ok (.value (.float .f64 n.toNat)) w :=
  (run_callFunc_extern (e := Extern.MathFloatBits.float64frombits) Tryz.func49 (by kernel_rfl) (by kernel_rfl) (by kernel_rfl) (by kernel_rfl) _ _).trans rfl
theorem float_new (w : World) (f : Nat) (T : TypeId) : ∀ j u, [(Value.float .f64 f)][j]? = some u → (w.alloc (.cells #[.float .f64 f] T)).cell? ((⟨w.heap.size, 0, none⟩ : Addr).add j) = some u := by
  intro j u h
  have hj : j = 0 := by
    have := (List.getElem?_eq_some_iff.1 h).1
    simp at this
    omega
  subst hj
  simp at h
  subst h
  rw [Go.WideShapes.add_plain, Nat.zero_add]
  simp [go_sem]

theorem ownsRow_below {w w' : World} {B : Nat} {e : TypeId} {sz n : Nat} {v : Value} {xs : List Value} (h : w.ownsRow B e sz v n xs) (hb : Below w.heap.size w w') : w'.ownsRow B e sz v n xs := by
  refine ⟨h.1, ?_⟩
  rcases h.2 with hn | ⟨g, cap, cur, hv, h1, h2, h3⟩
  · exact .inl hn
  · exact .inr ⟨g, cap, cur, hv, h1, (hb.block g (Array.getElem?_eq_some_iff.1 h2).1).trans h2, h3⟩
theorem ownsRow_base {w : World} {B : Nat} {e : TypeId} {sz n : Nat} {v : Value} {xs : List Value} (h : w.ownsRow B e sz v n xs) : ∀ k, v.ownBlock = some k → B ≤ k := by
  intro k hk
  rcases h.2 with ⟨hn, -⟩ | ⟨g, cap, cur, hv, h1, -⟩
  · rw [hn] at hk; simp [Value.ownBlock] at hk
  · rw [hv] at hk
    simp only [Value.ownBlock] at hk
    injection hk with hk
    omega

set_option maxRecDepth 8000 in
set_option maxHeartbeats 2000000 in
theorem of64_any (A : Option Addr) (n c : Nat) (ts : List Int) (w : World) (hn : ts.length = n) (hc : ∀ i, i < n → ∃ b off, A = some ⟨b, off, none⟩ ∧ b < w.heap.size ∧ w.cell? ⟨b, off + i, none⟩ = some (.int .u64 (ts.getD i 0))) (hl : n * 8 ≤ 140737488355328) :
    Calls Tryz.prog 24 #[.slice A n c] w fun e w' => (∃ B m k, e = .returned (.slice B m k)) ∧ Below w.heap.size w w' := by
  have HC := Lib.hid hc
  have HN := Lib.hid hn
  clear hc hn
  go_enter Tryz.func24, Tryz.ntmps24
  go_wp2_with fail
  go_loopw [3, 8] (fun ov iv wr => ∃ (k : Nat) (fs : List Value), k ≤ n ∧ iv = .int .i64 (k : Int) ∧ Hid (wr.ownsRow w.heap.size 114 1 ov k fs ∧ Below w.heap.size w wr)) (fun _ iv _ => n - (intOf iv).toNat)
  case atStart => exact ⟨0, [], by omega, rfl, Lib.hid ⟨World.ownsRow_nil _ _ _ _, Below.refl _ _⟩⟩
  case round =>
    obtain ⟨k, fs, hk, rfl, hh⟩ := hrel
    by_cases hlt : k < n
    · obtain ⟨b, off, rfl, hb, hcell⟩ := HC.out k hlt
      obtain ⟨y, hy⟩ : ∃ y, ts.getD k 0 = y := ⟨_, rfl⟩
      rw [hy] at hcell
      have hcr := (hh.out.2.cell (p := ⟨b, off + k, none⟩) hb).trans hcell
      have hki : (k : Int) < (n : Int) := by omega
      clear hcell hy
      have hfb := run_frombits y
      obtain ⟨i0, hi0, hz0, hz1, hz2⟩ := info_parts infoF
      have HBX := Lib.hid ((Below.refl wr.heap.size wr).alloc (Nat.le_refl _) (.cells #[.float .f64 y.toNat] 114))
      have HRX := Lib.hid (ownsRow_below hh.out.1 HBX.out)
      have hwr := hh.out.2.size
      go_wp2_with (at_builtin; refine wpList_append_own _ rfl _ _ 36 rfl w.heap.size 114 i0 _ 1 8 Tryz.underlying36 hi0 hz0 hz1 hz2 rfl (by omega) u3 k fs rfl HRX.out ⟨wr.heap.size, 0, none⟩ 1 1 [.float .f64 y.toNat] rfl rfl (float_new _ _ _) (by simp [Value.oneCell']) (by simp only [maxLen]; omega) (by omega) (Nat.le_trans hwr HBX.out.size) ?_; intro v' w3 hr3 hg3 ha3; have HR3 := Lib.hid (And.intro hr3 hg3); clear hr3 hg3 ha3)
      go_roundw
      case rel => exact ⟨k + 1, fs ++ [.float .f64 y.toNat], by omega, by go_num, Lib.hid ⟨HR3.out.1, (hh.out.2.trans (HBX.out.mono hwr)).grown HR3.out.2 (Nat.le_trans hwr HBX.out.size) (ownsRow_base hh.out.1)⟩⟩
      case measure => simp [intOf]; omega
    · have hkn : k = n := by omega
      subst hkn
      have hsl : ∃ A' c', u3 = .slice A' k c' := by
        rcases hh.out.1.2 with ⟨h1, h2⟩ | ⟨g, cap, cur, h1, -⟩
        · exact ⟨none, 0, by rw [h1, h2]⟩
        · exact ⟨_, _, h1⟩
      obtain ⟨A', c', rfl⟩ := hsl
      go_wp2_with fail
      go_ret
      exact ⟨⟨_, _, _, rfl⟩, hh.out.2⟩
end Go.Proofs.YtebacmmfjadalaaGreat

namespace Go.Proofs.YtebacmmfjadalaaGreat
open Go Go.RowKit

theorem four_kept {w : World} {b : Nat} {v0 v1 v2 v3 : Value} (i : Nat) : ((((w.setCell ⟨b + 1, 0, none⟩ v0).setCell ⟨b + 1, 1, none⟩ v1).setCell ⟨b + 1, 2, none⟩ v2).setCell ⟨b + 1, 3, none⟩ v3).cell? ⟨b, i, none⟩ = w.cell? ⟨b, i, none⟩ := by
  have e : ∀ (W : World) (k : Nat) (v : Value), (W.setCell ⟨b + 1, k, none⟩ v).cell? ⟨b, i, none⟩ = W.cell? ⟨b, i, none⟩ := fun W k v => World.cell?_setCell_other _ _ _ _ (by intro e; injection e with e _ _; omega)
  exact (e _ _ _).trans ((e _ _ _).trans ((e _ _ _).trans (e _ _ _)))

set_option maxRecDepth 8000 in
set_option maxHeartbeats 2000000 in
theorem of_any (se sq st : Int) (A : Option Addr) (n c : Nat) (ts : List Int) (w : World) (hn : ts.length = n) (hc : ∀ i, i < n → ∃ b off, A = some ⟨b, off, none⟩ ∧ b < w.heap.size ∧ w.cell? ⟨b, off + i, none⟩ = some (.int .u64 (ts.getD i 0))) (hl : n * 8 ≤ 140737488355328) :
    Calls Tryz.prog 9 #[.agg #[.int .i64 se, .int .u32 sq, .int .u32 st, .slice A n c]] w fun e w' => (∃ B m k, e = .returned (.agg #[.int .i64 se, .int .u32 sq, .int .u32 st, .slice B m k])) ∧ Below w.heap.size w w' := by
  have hb := ((Below.refl w.heap.size w).alloc (Nat.le_refl _) (.cells #[.int .i64 se, .int .u32 sq, .int .u32 st, .slice A n c] 35)).alloc (by simp) (.cells #[.int .i64 0, .int .u32 0, .int .u32 0, .slice none 0 0] 38)
  have HO := Lib.hid (fun W (hW : Below w.heap.size w W) => of64_any A n c ts W hn (fun i hi => by
    obtain ⟨b, off, h1, h2, h3⟩ := hc i hi
    exact ⟨b, off, h1, Nat.lt_of_lt_of_le h2 hW.size, (hW.cell (p := ⟨b, off + i, none⟩) h2).trans h3⟩) hl)
  have HB := Lib.hid hb
  clear hb hc hn
  go_enter Tryz.func9, Tryz.ntmps9
  go_wp2_with fail
  have HC := Lib.hid (show ((w.alloc (.cells #[.int .i64 se, .int .u32 sq, .int .u32 st, .slice A n c] 35)).alloc (.cells #[.int .i64 0, .int .u32 0, .int .u32 0, .slice none 0 0] 38)).drew.cell? ⟨w.heap.size, 0, none⟩ = some (.int .i64 se) ∧ ((w.alloc (.cells #[.int .i64 se, .int .u32 sq, .int .u32 st, .slice A n c] 35)).alloc (.cells #[.int .i64 0, .int .u32 0, .int .u32 0, .slice none 0 0] 38)).drew.cell? ⟨w.heap.size, 1, none⟩ = some (.int .u32 sq) ∧ ((w.alloc (.cells #[.int .i64 se, .int .u32 sq, .int .u32 st, .slice A n c] 35)).alloc (.cells #[.int .i64 0, .int .u32 0, .int .u32 0, .slice none 0 0] 38)).drew.cell? ⟨w.heap.size, 2, none⟩ = some (.int .u32 st) ∧ ((w.alloc (.cells #[.int .i64 se, .int .u32 sq, .int .u32 st, .slice A n c] 35)).alloc (.cells #[.int .i64 0, .int .u32 0, .int .u32 0, .slice none 0 0] 38)).drew.cell? ⟨w.heap.size, 3, none⟩ = some (.slice A n c) from by simp [go_sem])
  have hz : ∀ i, ((w.alloc (.cells #[.int .i64 se, .int .u32 sq, .int .u32 st, .slice A n c] 35)).alloc (.cells #[.int .i64 0, .int .u32 0, .int .u32 0, .slice none 0 0] 38)).frozen? ⟨w.heap.size + 1, i, none⟩ = false := fun i => by simp [go_sem]
  have hr : ((w.alloc (.cells #[.int .i64 se, .int .u32 sq, .int .u32 st, .slice A n c] 35)).alloc (.cells #[.int .i64 0, .int .u32 0, .int .u32 0, .slice none 0 0] 38)).cell? ⟨w.heap.size + 1, 0, none⟩ = some (.int .i64 0) ∧ ((w.alloc (.cells #[.int .i64 se, .int .u32 sq, .int .u32 st, .slice A n c] 35)).alloc (.cells #[.int .i64 0, .int .u32 0, .int .u32 0, .slice none 0 0] 38)).cell? ⟨w.heap.size + 1, 1, none⟩ = some (.int .u32 0) ∧ ((w.alloc (.cells #[.int .i64 se, .int .u32 sq, .int .u32 st, .slice A n c] 35)).alloc (.cells #[.int .i64 0, .int .u32 0, .int .u32 0, .slice none 0 0] 38)).cell? ⟨w.heap.size + 1, 2, none⟩ = some (.int .u32 0) ∧ ((w.alloc (.cells #[.int .i64 se, .int .u32 sq, .int .u32 st, .slice A n c] 35)).alloc (.cells #[.int .i64 0, .int .u32 0, .int .u32 0, .slice none 0 0] 38)).cell? ⟨w.heap.size + 1, 3, none⟩ = some (.slice none 0 0) := by simp [go_sem]
  have hsz : w.heap.size + 1 < ((w.alloc (.cells #[.int .i64 se, .int .u32 sq, .int .u32 st, .slice A n c] 35)).alloc (.cells #[.int .i64 0, .int .u32 0, .int .u32 0, .slice none 0 0] 38)).heap.size := by simp
  generalize (w.alloc (.cells #[.int .i64 se, .int .u32 sq, .int .u32 st, .slice A n c] 35)).alloc (.cells #[.int .i64 0, .int .u32 0, .int .u32 0, .slice none 0 0] 38) = W0 at *
  have HR := Lib.hid (And.intro hz (And.intro hr hsz))
  clear hz hr hsz
  go_region_held3 (fun w' => w'.cell? ⟨w.heap.size, 0, none⟩ = some (.int .i64 se) ∧ w'.cell? ⟨w.heap.size, 1, none⟩ = some (.int .u32 sq) ∧ w'.cell? ⟨w.heap.size, 2, none⟩ = some (.int .u32 st) ∧ w'.cell? ⟨w.heap.size, 3, none⟩ = some (.slice A n c))
    (first | exact HC.out | exact ⟨(hk 0).trans HC.out.1, (hk 1).trans HC.out.2.1, (hk 2).trans HC.out.2.2.1, (hk 3).trans HC.out.2.2.2⟩ | exact ⟨(hks 0).trans HC.out.1, (hks 1).trans HC.out.2.1, (hks 2).trans HC.out.2.2.1, (hks 3).trans HC.out.2.2.2⟩)
    (first | (go_at_call 24; refine (HO.out _ HB.out.drew).mono ?_; rintro e w1 ⟨⟨B, m, k, rfl⟩, hb1⟩; have hk : ∀ i, w1.cell? ⟨w.heap.size, i, none⟩ = W0.drew.cell? ⟨w.heap.size, i, none⟩ := (fun i => hb1.cell (p := ⟨w.heap.size, i, none⟩) (Nat.lt_of_succ_lt HR.out.2.2)); have y0 := (hb1.cell (p := ⟨w.heap.size + 1, 0, none⟩) HR.out.2.2).trans HR.out.2.1.1; have y1 := (hb1.cell (p := ⟨w.heap.size + 1, 1, none⟩) HR.out.2.2).trans HR.out.2.1.2.1; have y2 := (hb1.cell (p := ⟨w.heap.size + 1, 2, none⟩) HR.out.2.2).trans HR.out.2.1.2.2.1; have y3 := (hb1.cell (p := ⟨w.heap.size + 1, 3, none⟩) HR.out.2.2).trans HR.out.2.1.2.2.2; have yz := (fun i => (hb1.frozen (p := ⟨w.heap.size + 1, i, none⟩) HR.out.2.2).trans (HR.out.1 i)); have hks := four_kept (w := w1) (b := w.heap.size) (v0 := .int .i64 se) (v1 := .int .u32 sq) (v2 := .int .u32 st) (v3 := .slice B m k); have hks := (fun i => (hks i).trans (hk i))))
  have hB1 : Below w.heap.size w w1 := HB.out.drew.trans (hb1.mono HB.out.size)
  have HE := Lib.hid ((((hB1.setCell (p := ⟨w.heap.size + 1, 0, none⟩) (Nat.le_succ _) (.int .i64 se)).setCell (p := ⟨w.heap.size + 1, 1, none⟩) (Nat.le_succ _) (.int .u32 sq)).setCell (p := ⟨w.heap.size + 1, 2, none⟩) (Nat.le_succ _) (.int .u32 st)).setCell (p := ⟨w.heap.size + 1, 3, none⟩) (Nat.le_succ _) (.slice B m k))
  clear hk hks yz hb1 hB1 HR HC HB HO
  go_wp2_with fail
  exact bodyPost_ret (by simp only [results, Tryz.results9]; simp [go_sem, y0, y1, y2, y3]; try rfl) rfl ⟨⟨B, m, k, rfl⟩, HE.out⟩
end Go.Proofs.YtebacmmfjadalaaGreat

namespace Go.Proofs.YtebacmmfjadalaaGreat
open Go Go.RowKit

abbrev fmt : Value := .agg #[.int .u64 52, .int .i64 2047, .int .i64 1075]
theorem run_bits (f : Nat) (w : World) : Sem.run Tryz.prog (callFunc 88 #[.float .f64 f]) w = .ok (.value (.int .u64 f)) w :=
  (run_callFunc_extern (e := Extern.MathFloatBits.float64bits) Tryz.func88 (by kernel_rfl) (by kernel_rfl) (by kernel_rfl) (by kernel_rfl) _ _).trans rfl

theorem index_fmt (w : World) : Sem.run Tryz.prog (Instr.index 185 (.agg #[.int .u64 52, .int .i64 2047, .int .i64 1075, .int .u64 23, .int .i64 255, .int .i64 150]) (.int .i64 0)) w = .ok fmt w := by kernel_rfl
set_option maxRecDepth 100000 in
theorem of_dbl (w : World) : Calls Tryz.prog 89 #[.int .i64 0] w fun e w' => e = .returned fmt ∧ Below w.heap.size w w' := by
  have hix := index_fmt
  go_enter Tryz.func89, Tryz.ntmps89
  go_wp2_with fail
  exact bodyPost_ret (by simp only [results, Tryz.results89]; simp [go_sem]; try rfl) rfl ⟨rfl, (Below.refl w.heap.size w).alloc (Nat.le_refl _) _⟩

theorem hidden_dbl (w : World) : Calls Tryz.prog 120 #[fmt] w fun e w' => e = .returned (.int .u64 4503599627370496) ∧ Below w.heap.size w w' := by
  go_enter Tryz.func120, Tryz.ntmps120
  go_wp2_with fail
  go_ret
  exact ⟨rfl, (Below.refl _ _).alloc (Nat.le_refl _) _⟩
theorem sign_dbl (w : World) : Calls Tryz.prog 119 #[fmt] w fun e w' => e = .returned (.int .u64 9223372036854775808) ∧ Below w.heap.size w w' := by
  go_enter Tryz.func119, Tryz.ntmps119
  go_wp2_with fail
  go_ret
  exact ⟨rfl, (Below.refl _ _).alloc (Nat.le_refl _) _⟩
theorem infinite_dbl (w : World) : Calls Tryz.prog 127 #[fmt] w fun e w' => e = .returned (.int .u64 9218868437227405312) ∧ Below w.heap.size w w' := by
  go_enter Tryz.func127, Tryz.ntmps127
  go_wp2_with fail
  go_ret
  exact ⟨rfl, (Below.refl _ _).alloc (Nat.le_refl _) _⟩

def FmtAt (w : World) (g : Nat) : Prop := g < w.heap.size ∧ w.cell? ⟨g, 0, none⟩ = some (.int .u64 52) ∧ w.cell? ⟨g, 1, none⟩ = some (.int .i64 2047) ∧ w.cell? ⟨g, 2, none⟩ = some (.int .i64 1075)
theorem FmtAt.below {w w' : World} {g : Nat} (h : FmtAt w g) (hb : Below w.heap.size w w') : FmtAt w' g :=
  ⟨Nat.lt_of_lt_of_le h.1 hb.size, (hb.cell (p := ⟨g, 0, none⟩) h.1).trans h.2.1, (hb.cell (p := ⟨g, 1, none⟩) h.1).trans h.2.2.1, (hb.cell (p := ⟨g, 2, none⟩) h.1).trans h.2.2.2⟩
theorem fmt_at (w : World) (T : TypeId) : FmtAt (w.alloc (.cells #[.int .u64 52, .int .i64 2047, .int .i64 1075] T)) w.heap.size := by
  unfold FmtAt
  simp [go_sem]
theorem fmt_below (w : World) (T : TypeId) : Below w.heap.size w (w.alloc (.cells #[.int .u64 52, .int .i64 2047, .int .i64 1075] T)) := (Below.refl _ _).alloc (Nat.le_refl _) _
theorem back_of {w W w' : World} (h : Below w.heap.size w W) (k : Below W.heap.size W w') : Below w.heap.size w w' := h.trans (k.mono h.size)

set_option maxRecDepth 100000 in
set_option maxHeartbeats 1000000 in
theorem none_dbl (w : World) : Calls Tryz.prog 125 #[fmt] w fun e w' => e = .returned (.int .u64 9221120237041090561) ∧ Below w.heap.size w w' := by
  have HF := Lib.hid (fmt_at w 164)
  have HB := Lib.hid (fmt_below w 164)
  go_enter Tryz.func125, Tryz.ntmps125
  go_wp2_with fail
  generalize w.alloc (.cells #[.int .u64 52, .int .i64 2047, .int .i64 1075] 164) = W0 at *
  have hc : Below W0.heap.size W0 W0.drew := (Below.refl _ _).drew
  go_region_held3 (fun w' => w'.cell? ⟨w.heap.size, 0, none⟩ = some (.int .u64 52) ∧ w'.cell? ⟨w.heap.size, 1, none⟩ = some (.int .i64 2047) ∧ w'.cell? ⟨w.heap.size, 2, none⟩ = some (.int .i64 1075))
    (first | exact HF.out.2 | exact (HF.out.below hc).2)
    (first | (go_at_call 127; refine (infinite_dbl _).mono ?_; rintro e w1 ⟨rfl, hb1⟩; replace hc := back_of hc hb1; clear hb1) | (go_at_call 120; refine (hidden_dbl _).mono ?_; rintro e w1 ⟨rfl, hb1⟩; replace hc := back_of hc hb1; clear hb1))
  go_wp2_with fail
  go_ret
  exact ⟨by kernel_rfl, back_of HB.out hc⟩

def nanV (b : Int) : Bool := decide (9218868437227405312 < bits .andNot .u64 b 9223372036854775808)
set_option maxRecDepth 100000 in
set_option maxHeartbeats 1000000 in
theorem nan_dbl (b : Int) (w : World) : Calls Tryz.prog 123 #[.int .u64 b, fmt] w fun e w' => e = .returned (.bool (nanV b)) ∧ Below w.heap.size w w' := by
  have HF := Lib.hid (fmt_at w 164)
  have HB := Lib.hid (fmt_below w 164)
  go_enter Tryz.func123, Tryz.ntmps123
  go_wp2_with fail
  generalize w.alloc (.cells #[.int .u64 52, .int .i64 2047, .int .i64 1075] 164) = W0 at *
  have hc : Below W0.heap.size W0 W0.drew := (Below.refl _ _).drew
  go_region_held3 (fun w' => w'.cell? ⟨w.heap.size, 0, none⟩ = some (.int .u64 52) ∧ w'.cell? ⟨w.heap.size, 1, none⟩ = some (.int .i64 2047) ∧ w'.cell? ⟨w.heap.size, 2, none⟩ = some (.int .i64 1075))
    (first | exact HF.out.2 | exact (HF.out.below hc).2)
    (first | (go_at_call 127; refine (infinite_dbl _).mono ?_; rintro e w1 ⟨rfl, hb1⟩; replace hc := back_of hc hb1; clear hb1) | (go_at_call 119; refine (sign_dbl _).mono ?_; rintro e w1 ⟨rfl, hb1⟩; replace hc := back_of hc hb1; clear hb1))
  go_wp2_with fail
  go_ret
  exact ⟨rfl, back_of HB.out hc⟩

def canonV (b : Int) : Int := if nanV b = true then 9221120237041090561 else b
set_option maxRecDepth 100000 in
set_option maxHeartbeats 1000000 in
theorem canon_dbl (b : Int) (w : World) : Calls Tryz.prog 118 #[.int .u64 b, fmt] w fun e w' => e = .returned (.int .u64 (canonV b)) ∧ Below w.heap.size w w' := by
  have HF := Lib.hid (fmt_at w 164)
  have HB := Lib.hid (fmt_below w 164)
  obtain ⟨q, hq⟩ : ∃ q, nanV b = q := ⟨_, rfl⟩
  have HQ := Lib.hid hq
  have HN := Lib.hid (fun W => nan_dbl b W)
  rw [hq] at HN
  go_enter Tryz.func118, Tryz.ntmps118
  go_wp2_with fail
  generalize w.alloc (.cells #[.int .u64 52, .int .i64 2047, .int .i64 1075] 164) = W0 at *
  obtain ⟨hg, f0, f1, f2⟩ := HF.out
  clear hq
  cases q
  · go_wp2_with fail
    refine (HN.out W0).mono ?_
    rintro e w1 ⟨rfl, hb1⟩
    go_wp2_with fail
    go_ret
    exact ⟨by unfold canonV; rw [HQ.out]; rfl, back_of HB.out hb1⟩
  · go_wp2_with fail
    refine (HN.out W0).mono ?_
    rintro e w1 ⟨rfl, hb1⟩
    obtain ⟨-, k0, k1, k2⟩ := HF.out.below hb1
    go_wp2_with fail
    refine (none_dbl w1).mono ?_
    rintro e w2 ⟨rfl, hb2⟩
    go_wp2_with fail
    go_ret
    exact ⟨by unfold canonV; rw [HQ.out]; rfl, back_of HB.out (back_of hb1 hb2)⟩
end Go.Proofs.YtebacmmfjadalaaGreat
