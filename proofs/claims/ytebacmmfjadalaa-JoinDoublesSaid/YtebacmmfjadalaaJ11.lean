/- Contracts of what is known of a sensor: age, take. -/
import Derived.Test.YtebacmmfjadalaaJ10
namespace Go.Proofs.Ytebacmmfjadalaa
open Go Go.RowKit

/-- what is known of a sensor -/
structure Sn where
  o : Int
  n : Int
  d : Int
  last : Int
  some : Bool
  most : Int
  taken : Int
def SnAt (w : World) (b off : Nat) (s : Sn) : Prop :=
  w.cell? ⟨b, off, none⟩ = some (.int .i64 s.o) ∧ w.cell? ⟨b, off + 1, none⟩ = some (.int .i64 s.n) ∧ w.cell? ⟨b, off + 2, none⟩ = some (.int .i64 s.d) ∧ w.cell? ⟨b, off + 3, none⟩ = some (.int .i64 s.last) ∧
  w.cell? ⟨b, off + 4, none⟩ = some (.bool s.some) ∧ w.cell? ⟨b, off + 5, none⟩ = some (.int .u32 s.most) ∧ w.cell? ⟨b, off + 6, none⟩ = some (.int .u64 s.taken)

set_option maxRecDepth 8000 in
set_option maxHeartbeats 1000000 in
theorem age_any (b off : Nat) (s : Sn) (q : Int) (w : World) (hs : SnAt w b off s) :
    Calls Try.prog 39 #[.pointer (some ⟨b, off, none⟩), .int .u32 q] w fun e w' => e = .returned (.tuple #[.int .u32 ((s.most - q) % 4294967296), .bool (s.some && decide (q ≤ s.most))]) ∧ w' = w.drew := by
  obtain ⟨o, n, d, last, sm, most, taken⟩ := s
  obtain ⟨-, -, -, -, h4, h5, -⟩ := hs
  simp only at h4 h5 ⊢
  cases sm
  · go_enter Try.func39, Try.ntmps39
    go_wp2_with fail
    go_region
    all_goals go_wp2_with fail
    all_goals go_ret2
    all_goals exact ⟨rfl, rfl⟩
  · go_enter Try.func39, Try.ntmps39
    go_wp2_with fail
    go_region
    all_goals go_wp2_with fail
    all_goals go_ret2
    all_goals exact ⟨by simp, rfl⟩

/-- what a call may turn: block row, the cells that ok names, new blocks -/
structure Ch (w w' : World) (row : Option Nat) (ok : Addr → Prop) : Prop where
  os : w'.os = w.os
  tape : w'.tape = w.tape
  output : w'.output = w.output
  size : w.heap.size ≤ w'.heap.size
  block : ∀ k, k < w.heap.size → some k ≠ row → (∀ i, ¬ ok ⟨k, i, none⟩) → w'.heap[k]? = w.heap[k]?
  cell : ∀ a : Addr, a.block < w.heap.size → some a.block ≠ row → ¬ ok a → w'.cell? a = w.cell? a
  frozen : ∀ a : Addr, a.block < w.heap.size → some a.block ≠ row → w'.frozen? a = w.frozen? a
theorem Ch.refl (w : World) (row : Option Nat) (ok : Addr → Prop) : Ch w w row ok := ⟨rfl, rfl, rfl, Nat.le_refl _, fun _ _ _ _ => rfl, fun _ _ _ _ => rfl, fun _ _ _ => rfl⟩
theorem Ch.drew {w w' : World} {row : Option Nat} {ok : Addr → Prop} (h : Ch w w' row ok) : Ch w w'.drew row ok := ⟨h.os, h.tape, h.output, h.size, h.block, h.cell, h.frozen⟩
theorem Ch.trans {w w1 w2 : World} {row : Option Nat} {ok : Addr → Prop} (h : Ch w w1 row ok) (k : Ch w1 w2 row ok) : Ch w w2 row ok :=
  ⟨k.os.trans h.os, k.tape.trans h.tape, k.output.trans h.output, Nat.le_trans h.size k.size, fun i h1 h2 h3 => (k.block i (Nat.lt_of_lt_of_le h1 h.size) h2 h3).trans (h.block i h1 h2 h3),
    fun a h1 h2 h3 => (k.cell a (Nat.lt_of_lt_of_le h1 h.size) h2 h3).trans (h.cell a h1 h2 h3), fun a h1 h2 => (k.frozen a (Nat.lt_of_lt_of_le h1 h.size) h2).trans (h.frozen a h1 h2)⟩
theorem Ch.mono {w w' : World} {row row' : Option Nat} {ok ok' : Addr → Prop} (h : Ch w w' row ok) (hr : row = row' ∨ row = none) (ho : ∀ a, ok a → ok' a) : Ch w w' row' ok' := by
  have hr' : ∀ k, some k ≠ row' → some k ≠ row := fun k hk e => by
    rcases hr with hr | hr
    · exact hk (e.trans hr)
    · rw [hr] at e; cases e
  exact ⟨h.os, h.tape, h.output, h.size, fun k h1 h2 h3 => h.block k h1 (hr' k h2) (fun i hi => h3 i (ho _ hi)), fun a h1 h2 h3 => h.cell a h1 (hr' _ h2) (fun hi => h3 (ho _ hi)), fun a h1 h2 => h.frozen a h1 (hr' _ h2)⟩
theorem Ch.set {w w' : World} {row : Option Nat} {ok : Addr → Prop} (h : Ch w w' row ok) {b i : Nat} (hp : ok ⟨b, i, none⟩) (u : Value) : Ch w (w'.setCell ⟨b, i, none⟩ u) row ok := by
  refine ⟨h.os, h.tape, h.output, by simp [World.setCell]; exact h.size, fun k h1 h2 h3 => ?_, fun a h1 h2 h3 => ?_, fun a h1 h2 => ?_⟩
  · rw [← h.block k h1 h2 h3]
    simp only [World.setCell, Array.getElem?_modify]
    rw [if_neg (by rintro rfl; exact h3 i hp)]
  · rw [World.cell?_setCell_other _ _ _ _ (by rintro rfl; exact h3 hp), h.cell a h1 h2 h3]
  · rw [show (w'.setCell ⟨b, i, none⟩ u).frozen? a = w'.frozen? a by simp [go_sem], h.frozen a h1 h2]
theorem Ch.of_below {w w' : World} (h : Below w.heap.size w w') (row : Option Nat) (ok : Addr → Prop) : Ch w w' row ok :=
  ⟨h.os, h.tape, h.output, h.size, fun k hk _ _ => h.block k hk, fun _ ha _ _ => h.cell ha, fun _ ha _ => h.frozen ha⟩
theorem Ch.of_fr {w w' : World} {o : Option Nat} {b i : Nat} (h : Fr w w' o ⟨b, i, none⟩) : Ch w w' o (fun a => a = ⟨b, i, none⟩) := by
  refine ⟨h.os, h.tape, h.output, h.size, fun k h1 h2 h3 => h.block k h1 (fun e => h3 i (by have e' : k = b := e; rw [e'])) h2, fun a h1 h2 h3 => ?_, fun a h1 h2 => ?_⟩
  · by_cases e : a.block = b
    · exact h.cell a e h3
    · exact World.cell?_of_block (h.block _ h1 e h2)
  · by_cases e : a.block = b
    · exact h.frozen a e
    · exact World.frozen?_of_block (h.block _ h1 e h2)

/-- a number noted -/
def tk (s : Sn) (q : Int) : Sn :=
  if s.some = true ∧ q ≤ s.most then { s with taken := bits .or .u64 s.taken (IntKind.u64.wrap (2 ^ (s.most - q).toNat)) }
  else { s with some := true, most := q, taken := bits .or .u64 (if s.some = false ∨ 64 ≤ (q - s.most) % 4294967296 then 0 else IntKind.u64.wrap (s.taken * 2 ^ (q - s.most).toNat)) 1 }

set_option maxRecDepth 8000 in
set_option maxHeartbeats 2000000 in
theorem take_any (b off : Nat) (s : Sn) (q : Int) (w : World) (hs : SnAt w b off s) (hz : ∀ i, w.frozen? ⟨b, i, none⟩ = false) (q0 : 0 ≤ q) (q1 : q < 4294967296) (m0 : 0 ≤ s.most) (m1 : s.most < 4294967296) (hn : s.some = true → q ≤ s.most → s.most - q < 64) :
    Calls Try.prog 40 #[.pointer (some ⟨b, off, none⟩), .int .u32 q] w fun e w' => e = .returned (.tuple #[]) ∧ SnAt w' b off (tk s q) ∧ Ch w w' none (fun a => a = ⟨b, off + 4, none⟩ ∨ a = ⟨b, off + 5, none⟩ ∨ a = ⟨b, off + 6, none⟩) := by
  have HA := Lib.hid (age_any b off s q w hs)
  have HS := Lib.hid hs
  obtain ⟨o, n, d, last, sm, most, taken⟩ := s
  obtain ⟨-, -, -, -, h4, h5, h6⟩ := hs
  simp only at h4 h5 h6 m0 m1 hn ⊢
  have HR := Lib.hid ((Ch.refl w none (fun a => a = (⟨b, off + 4, none⟩ : Addr) ∨ a = ⟨b, off + 5, none⟩ ∨ a = ⟨b, off + 6, none⟩)))
  cases sm
  · have HT := Lib.hid (show tk ⟨o, n, d, last, false, most, taken⟩ q = ⟨o, n, d, last, true, q, bits .or .u64 0 1⟩ by simp [tk])
    clear hn
    go_enter Try.func40, Try.ntmps40
    go_wp2_with fail
    refine HA.out.mono ?_
    rintro e w1 ⟨rfl, rfl⟩
    go_wp2_with fail
    go_end0
    refine ⟨rfl, ?_, (((((HR.out.set (.inr (.inr rfl)) _).set (.inr (.inr rfl)) _).set (.inr (.inl rfl)) _).set (.inl rfl) _).drew)⟩
    rw [HT.out]
    obtain ⟨g0, g1, g2, g3, g4, g5, g6⟩ := HS.out
    simp only at g0 g1 g2 g3 g4 g5 g6
    simp [SnAt, go_sem, g0, g1, g2, g3, g4, g5, g6]
  · by_cases c : q ≤ most
    · have hc := hn rfl c
      have HT := Lib.hid (show tk ⟨o, n, d, last, true, most, taken⟩ q = ⟨o, n, d, last, true, most, bits .or .u64 taken (IntKind.u64.wrap (2 ^ (most - q).toNat))⟩ by simp [tk, c])
      have hm : (most - q) % 4294967296 = most - q := by omega
      rw [hm] at HA
      have c1 : most - q < 64 := hc
      have c2 : 0 ≤ most - q := by omega
      clear hn hm
      go_enter Try.func40, Try.ntmps40
      go_wp2_with fail
      refine HA.out.mono ?_
      rintro e w1 ⟨rfl, rfl⟩
      go_wp2_with fail
      refine bodyPost_ret (results_none rfl _ _ _) rfl ?_
      refine ⟨rfl, ?_, (HR.out.set (.inr (.inr rfl)) _).drew⟩
      rw [HT.out]
      obtain ⟨g0, g1, g2, g3, g4, g5, g6⟩ := HS.out
      simp only at g0 g1 g2 g3 g4 g5 g6
      simp [SnAt, go_sem, g0, g1, g2, g3, g4, g5, g6]
    · have c3 : decide (q ≤ most) = false := by simpa using c
      have hu : (q - most) % 4294967296 = q - most := by omega
      rw [show (true && decide (q ≤ most)) = false by rw [c3]; rfl] at HA
      by_cases c2 : 64 ≤ q - most
      · have HT := Lib.hid (show tk ⟨o, n, d, last, true, most, taken⟩ q = ⟨o, n, d, last, true, q, bits .or .u64 0 1⟩ by simp [tk, c, hu, c2])
        clear hn hu c3
        go_enter Try.func40, Try.ntmps40
        go_wp2_with fail
        refine HA.out.mono ?_
        rintro e w1 ⟨rfl, rfl⟩
        go_wp2_with fail
        go_end0
        refine ⟨rfl, ?_, (((((HR.out.set (.inr (.inr rfl)) _).set (.inr (.inr rfl)) _).set (.inr (.inl rfl)) _).set (.inl rfl) _).drew)⟩
        rw [HT.out]
        obtain ⟨g0, g1, g2, g3, g4, g5, g6⟩ := HS.out
        simp only at g0 g1 g2 g3 g4 g5 g6
        simp [SnAt, go_sem, g0, g1, g2, g3, g4, g5, g6]
      · have HT := Lib.hid (show tk ⟨o, n, d, last, true, most, taken⟩ q = ⟨o, n, d, last, true, q, bits .or .u64 (IntKind.u64.wrap (taken * 2 ^ (q - most).toNat)) 1⟩ by simp [tk, c, hu, c2])
        clear hn hu c3
        go_enter Try.func40, Try.ntmps40
        go_wp2_with fail
        refine HA.out.mono ?_
        rintro e w1 ⟨rfl, rfl⟩
        go_wp2_with fail
        go_end0
        refine ⟨rfl, ?_, (((((HR.out.set (.inr (.inr rfl)) _).set (.inr (.inr rfl)) _).set (.inr (.inl rfl)) _).set (.inl rfl) _).drew)⟩
        rw [HT.out]
        obtain ⟨g0, g1, g2, g3, g4, g5, g6⟩ := HS.out
        simp only at g0 g1 g2 g3 g4 g5 g6
        simp [SnAt, go_sem, g0, g1, g2, g3, g4, g5, g6]
end Go.Proofs.Ytebacmmfjadalaa
