/-
  Contracts of the share functions and of what the laws do with shares, checked numbers and needs.
-/
import Derived.Test.YtdfpceobfficfaaRing
namespace Go.Proofs.Ytdfpceobfficfaa
set_option linter.unusedSimpArgs false
set_option linter.unusedVariables false
set_option linter.unusedSectionVars false
open Go Go.RowKit
set_option maxHeartbeats 1000000
set_option maxRecDepth 20000
set_option linter.unusedVariables false

theorem zInt : (Try.prog.info? 3).bind (·.zero) = some (.int .i64 0) := by kernel_rfl
theorem ret_same {v u : Value} (h : u = v) : Ending.returned u = Ending.returned v := by rw [h]
theorem ok_bd {a b : Int} (h : Sh.ok ⟨a, b⟩ = true) : 0 ≤ a ∧ a < 4096 ∧ 0 ≤ b ∧ b < 4096 := by
  simp only [Sh.ok, Bool.and_eq_true] at h
  have := rv_bd h.1
  have := rv_bd h.2
  omega
end Go.Proofs.Ytdfpceobfficfaa
