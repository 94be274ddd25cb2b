/-
  Contracts of what draws needs; alive.
-/
import Derived.Test.YtiiijfhacaomdaaDraw
import Derived.Test.YtiiijfhacaomdaaShare
namespace Go.Proofs.Ytiiijfhacaomdaa
set_option linter.unusedSimpArgs false
set_option linter.unusedVariables false
set_option linter.unusedSectionVars false
open Go Go.RowKit
set_option maxHeartbeats 8000000
set_option maxRecDepth 20000
theorem C_alive (w0 : World) : Calls Try.prog 12 #[] w0 fun e w' => e = .returned (.bool true) ∧ w0 = w' := by
  go_enter Try.func12, Try.ntmps12
  go_wp2_with (first | (go_at_call 44; refine (C_impl_RingValid _ _).mono ?_; rintro e w' ⟨rfl, rfl⟩))
  go_ret
  exact ⟨rfl, rfl⟩
end Go.Proofs.Ytiiijfhacaomdaa
