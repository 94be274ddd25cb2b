/-
  Contracts of what draws a batch and ring numbers; a batch, a key and a seed.
-/
import Derived.Test.YtkcahoojbigihaaDrawC
import Derived.Test.YtkcahoojbigihaaOwn
namespace Go.Proofs.Ytkcahoojbigihaa
set_option linter.unusedSimpArgs false
set_option linter.unusedVariables false
set_option linter.unusedSectionVars false
open Go Go.RowKit
set_option maxHeartbeats 8000000
set_option maxRecDepth 20000
theorem ints_snoc (ts : List Int) (y : Int) : ints ts ++ [.int .i64 y] = ints (ts ++ [y]) := by simp [ints]
end Go.Proofs.Ytkcahoojbigihaa
