/- What a call through the heap's interface comes to: the program's own pile's methods. -/
import Derived.Test.YtebacmmfjadalaaJ4
namespace Go.Proofs.Ytebacmmfjadalaa
open Go Go.RowKit

theorem wrapnil {P : Program} (ts : Array TypeId) (t : TypeId) (a : Addr) (s m : String) (w : World) : Sem.run P (Builtin.ssaWrapNilChk_ ts t #[.pointer (some a), strVal s, strVal m]) w = .ok (.pointer (some a)) w := rfl
theorem method_val {name : String} {F : FuncId} {fuel : Nat} (hm : ((Try.prog.info? 93).bind fun i => (i.methods.find? (·.name == name)).map fun m => (m.path, m.func)) = some (#[], some (F, false)))
    (pa : Addr) (v : Option Addr) (n c : Nat) (w : World) (hp : w.cell? pa = some (.slice v n c)) : Sem.run Try.prog (method (fuel + 1) 93 (.pointer (some pa)) name) w = .ok (F, .slice v n c) w := by
  cases hi : Try.prog.info? 93 with
  | none => rw [hi] at hm; simp at hm
  | some i =>
    rw [hi] at hm
    simp only [Option.bind_some] at hm
    cases hf : i.methods.find? (·.name == name) with
    | none => rw [hf] at hm; simp at hm
    | some m =>
      rw [hf] at hm
      simp at hm
      obtain ⟨h1, h2⟩ := hm
      have hu : Sem.run Try.prog (underlying 93) w = .ok (.pointer 58) w := run_underlying Try.underlying93 w
      simp [method, typeInfo, hi, hf, h1, h2, follow, receiverAt, Place.get, go_sem, wrapnil, loadVar, hp, hu]
theorem method_ptr {name : String} {F : FuncId} {fuel : Nat} (hm : ((Try.prog.info? 93).bind fun i => (i.methods.find? (·.name == name)).map fun m => (m.path, m.func)) = some (#[], some (F, true)))
    (pa : Addr) (w : World) : Sem.run Try.prog (method (fuel + 1) 93 (.pointer (some pa)) name) w = .ok (F, .pointer (some pa)) w := by
  cases hi : Try.prog.info? 93 with
  | none => rw [hi] at hm; simp at hm
  | some i =>
    rw [hi] at hm
    simp only [Option.bind_some] at hm
    cases hf : i.methods.find? (·.name == name) with
    | none => rw [hf] at hm; simp at hm
    | some m =>
      rw [hf] at hm
      simp at hm
      obtain ⟨h1, h2⟩ := hm
      have hu : Sem.run Try.prog (underlying 93) w = .ok (.pointer 58) w := run_underlying Try.underlying93 w
      simp [method, typeInfo, hi, hf, h1, h2, follow, receiverAt, Place.get, go_sem, hu]
theorem m_less : ((Try.prog.info? 93).bind fun i => (i.methods.find? (·.name == "Less")).map fun m => (m.path, m.func)) = some (#[], some (103, false)) := by kernel_rfl
theorem m_swap : ((Try.prog.info? 93).bind fun i => (i.methods.find? (·.name == "Swap")).map fun m => (m.path, m.func)) = some (#[], some (104, false)) := by kernel_rfl
theorem m_len : ((Try.prog.info? 93).bind fun i => (i.methods.find? (·.name == "Len")).map fun m => (m.path, m.func)) = some (#[], some (102, false)) := by kernel_rfl
theorem m_least : ((Try.prog.info? 93).bind fun i => (i.methods.find? (·.name == "binnacle/join.least")).map fun m => (m.path, m.func)) = some (#[], some (105, false)) := by kernel_rfl
theorem m_push : ((Try.prog.info? 93).bind fun i => (i.methods.find? (·.name == "Push")).map fun m => (m.path, m.func)) = some (#[], some (107, true)) := by kernel_rfl
theorem m_pop : ((Try.prog.info? 93).bind fun i => (i.methods.find? (·.name == "Pop")).map fun m => (m.path, m.func)) = some (#[], some (106, true)) := by kernel_rfl
end Go.Proofs.Ytebacmmfjadalaa
