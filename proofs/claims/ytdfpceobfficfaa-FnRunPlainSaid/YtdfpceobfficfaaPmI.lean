/-
  Contract: PlainMix, the program's.
-/
import Derived.Test.YtdfpceobfficfaaPmP
import Derived.Test.YtdfpceobfficfaaMixJ
import Derived.Test.YtdfpceobfficfaaLyW
namespace Go.Proofs.Ytdfpceobfficfaa
set_option linter.unusedSimpArgs false
set_option linter.unusedVariables false
set_option linter.unusedSectionVars false
open Go Go.RowKit
set_option maxHeartbeats 8000000
set_option maxRecDepth 20000
theorem m_runMix (A : Option Addr) (n cap : Nat) (w : World) : (method 281 118 (.agg #[.slice A n cap]) "loop.example/sharedinference/impl.run").run Try.prog w = .ok (169, .agg #[.slice A n cap]) w := by kernel_rfl
theorem eq_of_ne {a b : Int} (h : ¬ a = b) : (a == b) = false := by rw [beq_eq_false_iff_ne]; exact h
end Go.Proofs.Ytdfpceobfficfaa
