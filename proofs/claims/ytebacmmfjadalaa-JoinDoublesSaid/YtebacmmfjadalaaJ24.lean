/- A reading of bits as a reading of floats: some reading of the same sensor, number and stamp. -/
import Derived.Test.YtebacmmfjadalaaJ23
namespace Go.Proofs.Ytebacmmfjadalaa
open Go Go.RowKit

theorem four_kept {w : World} {b : Nat} {v0 v1 v2 v3 : Value} (i : Nat) : ((((w.setCell ⟨b + 1, 0, none⟩ v0).setCell ⟨b + 1, 1, none⟩ v1).setCell ⟨b + 1, 2, none⟩ v2).setCell ⟨b + 1, 3, none⟩ v3).cell? ⟨b, i, none⟩ = w.cell? ⟨b, i, none⟩ := by
  have e : ∀ (W : World) (k : Nat) (v : Value), (W.setCell ⟨b + 1, k, none⟩ v).cell? ⟨b, i, none⟩ = W.cell? ⟨b, i, none⟩ := fun W k v => World.cell?_setCell_other _ _ _ _ (by intro e; injection e with e _ _; omega)
  exact (e _ _ _).trans ((e _ _ _).trans ((e _ _ _).trans (e _ _ _)))

set_option maxRecDepth 8000 in
set_option maxHeartbeats 2000000 in
theorem of_any (se sq st : Int) (A : Option Addr) (n c : Nat) (ts : List Int) (w : World) (hn : ts.length = n) (hc : ∀ i, i < n → ∃ b off, A = some ⟨b, off, none⟩ ∧ b < w.heap.size ∧ w.cell? ⟨b, off + i, none⟩ = some (.int .u64 (ts.getD i 0))) (hl : n * 8 ≤ 140737488355328) :
    Calls Try.prog 16 #[.agg #[.int .i64 se, .int .u32 sq, .int .u32 st, .slice A n c]] w fun e w' => (∃ B m k, e = .returned (.agg #[.int .i64 se, .int .u32 sq, .int .u32 st, .slice B m k])) ∧ Below w.heap.size w w' := by
  have hb := ((Below.refl w.heap.size w).alloc (Nat.le_refl _) (.cells #[.int .i64 se, .int .u32 sq, .int .u32 st, .slice A n c] 44)).alloc (by simp) (.cells #[.int .i64 0, .int .u32 0, .int .u32 0, .slice none 0 0] 30)
  have HO := Lib.hid (fun W (hW : Below w.heap.size w W) => of64_any A n c ts W hn (fun i hi => by
    obtain ⟨b, off, h1, h2, h3⟩ := hc i hi
    exact ⟨b, off, h1, Nat.lt_of_lt_of_le h2 hW.size, (hW.cell (p := ⟨b, off + i, none⟩) h2).trans h3⟩) hl)
  have HB := Lib.hid hb
  clear hb hc hn
  go_enter Try.func16, Try.ntmps16
  go_wp2_with fail
  have HC := Lib.hid (show ((w.alloc (.cells #[.int .i64 se, .int .u32 sq, .int .u32 st, .slice A n c] 44)).alloc (.cells #[.int .i64 0, .int .u32 0, .int .u32 0, .slice none 0 0] 30)).drew.cell? ⟨w.heap.size, 0, none⟩ = some (.int .i64 se) ∧ ((w.alloc (.cells #[.int .i64 se, .int .u32 sq, .int .u32 st, .slice A n c] 44)).alloc (.cells #[.int .i64 0, .int .u32 0, .int .u32 0, .slice none 0 0] 30)).drew.cell? ⟨w.heap.size, 1, none⟩ = some (.int .u32 sq) ∧ ((w.alloc (.cells #[.int .i64 se, .int .u32 sq, .int .u32 st, .slice A n c] 44)).alloc (.cells #[.int .i64 0, .int .u32 0, .int .u32 0, .slice none 0 0] 30)).drew.cell? ⟨w.heap.size, 2, none⟩ = some (.int .u32 st) ∧ ((w.alloc (.cells #[.int .i64 se, .int .u32 sq, .int .u32 st, .slice A n c] 44)).alloc (.cells #[.int .i64 0, .int .u32 0, .int .u32 0, .slice none 0 0] 30)).drew.cell? ⟨w.heap.size, 3, none⟩ = some (.slice A n c) from by simp [go_sem])
  have hz : ∀ i, ((w.alloc (.cells #[.int .i64 se, .int .u32 sq, .int .u32 st, .slice A n c] 44)).alloc (.cells #[.int .i64 0, .int .u32 0, .int .u32 0, .slice none 0 0] 30)).frozen? ⟨w.heap.size + 1, i, none⟩ = false := fun i => by simp [go_sem]
  have hr : ((w.alloc (.cells #[.int .i64 se, .int .u32 sq, .int .u32 st, .slice A n c] 44)).alloc (.cells #[.int .i64 0, .int .u32 0, .int .u32 0, .slice none 0 0] 30)).cell? ⟨w.heap.size + 1, 0, none⟩ = some (.int .i64 0) ∧ ((w.alloc (.cells #[.int .i64 se, .int .u32 sq, .int .u32 st, .slice A n c] 44)).alloc (.cells #[.int .i64 0, .int .u32 0, .int .u32 0, .slice none 0 0] 30)).cell? ⟨w.heap.size + 1, 1, none⟩ = some (.int .u32 0) ∧ ((w.alloc (.cells #[.int .i64 se, .int .u32 sq, .int .u32 st, .slice A n c] 44)).alloc (.cells #[.int .i64 0, .int .u32 0, .int .u32 0, .slice none 0 0] 30)).cell? ⟨w.heap.size + 1, 2, none⟩ = some (.int .u32 0) ∧ ((w.alloc (.cells #[.int .i64 se, .int .u32 sq, .int .u32 st, .slice A n c] 44)).alloc (.cells #[.int .i64 0, .int .u32 0, .int .u32 0, .slice none 0 0] 30)).cell? ⟨w.heap.size + 1, 3, none⟩ = some (.slice none 0 0) := by simp [go_sem]
  have hsz : w.heap.size + 1 < ((w.alloc (.cells #[.int .i64 se, .int .u32 sq, .int .u32 st, .slice A n c] 44)).alloc (.cells #[.int .i64 0, .int .u32 0, .int .u32 0, .slice none 0 0] 30)).heap.size := by simp
  generalize (w.alloc (.cells #[.int .i64 se, .int .u32 sq, .int .u32 st, .slice A n c] 44)).alloc (.cells #[.int .i64 0, .int .u32 0, .int .u32 0, .slice none 0 0] 30) = W0 at *
  have HR := Lib.hid (And.intro hz (And.intro hr hsz))
  clear hz hr hsz
  go_region_held3 (fun w' => w'.cell? ⟨w.heap.size, 0, none⟩ = some (.int .i64 se) ∧ w'.cell? ⟨w.heap.size, 1, none⟩ = some (.int .u32 sq) ∧ w'.cell? ⟨w.heap.size, 2, none⟩ = some (.int .u32 st) ∧ w'.cell? ⟨w.heap.size, 3, none⟩ = some (.slice A n c))
    (first | exact HC.out | exact ⟨(hk 0).trans HC.out.1, (hk 1).trans HC.out.2.1, (hk 2).trans HC.out.2.2.1, (hk 3).trans HC.out.2.2.2⟩ | exact ⟨(hks 0).trans HC.out.1, (hks 1).trans HC.out.2.1, (hks 2).trans HC.out.2.2.1, (hks 3).trans HC.out.2.2.2⟩)
    (first | (go_at_call 44; refine (HO.out _ HB.out.drew).mono ?_; rintro e w1 ⟨⟨B, m, k, rfl⟩, hb1⟩; have hk : ∀ i, w1.cell? ⟨w.heap.size, i, none⟩ = W0.drew.cell? ⟨w.heap.size, i, none⟩ := (fun i => hb1.cell (p := ⟨w.heap.size, i, none⟩) (Nat.lt_of_succ_lt HR.out.2.2)); have y0 := (hb1.cell (p := ⟨w.heap.size + 1, 0, none⟩) HR.out.2.2).trans HR.out.2.1.1; have y1 := (hb1.cell (p := ⟨w.heap.size + 1, 1, none⟩) HR.out.2.2).trans HR.out.2.1.2.1; have y2 := (hb1.cell (p := ⟨w.heap.size + 1, 2, none⟩) HR.out.2.2).trans HR.out.2.1.2.2.1; have y3 := (hb1.cell (p := ⟨w.heap.size + 1, 3, none⟩) HR.out.2.2).trans HR.out.2.1.2.2.2; have yz := (fun i => (hb1.frozen (p := ⟨w.heap.size + 1, i, none⟩) HR.out.2.2).trans (HR.out.1 i)); have hks := four_kept (w := w1) (b := w.heap.size) (v0 := .int .i64 se) (v1 := .int .u32 sq) (v2 := .int .u32 st) (v3 := .slice B m k); have hks := (fun i => (hks i).trans (hk i))))
  have hB1 : Below w.heap.size w w1 := HB.out.drew.trans (hb1.mono HB.out.size)
  have HE := Lib.hid ((((hB1.setCell (p := ⟨w.heap.size + 1, 0, none⟩) (Nat.le_succ _) (.int .i64 se)).setCell (p := ⟨w.heap.size + 1, 1, none⟩) (Nat.le_succ _) (.int .u32 sq)).setCell (p := ⟨w.heap.size + 1, 2, none⟩) (Nat.le_succ _) (.int .u32 st)).setCell (p := ⟨w.heap.size + 1, 3, none⟩) (Nat.le_succ _) (.slice B m k))
  clear hk hks yz hb1 hB1 HR HC HB HO
  go_wp2_with fail
  exact bodyPost_ret (by simp only [results, Try.results16]; simp [go_sem, y0, y1, y2, y3]; try rfl) rfl ⟨⟨B, m, k, rfl⟩, HE.out⟩
end Go.Proofs.Ytebacmmfjadalaa
