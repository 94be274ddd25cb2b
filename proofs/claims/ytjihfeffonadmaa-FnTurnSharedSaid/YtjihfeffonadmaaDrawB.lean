/-
  Contracts of what draws batches of checked numbers.
-/
import Derived.Test.YtjihfeffonadmaaDrawK
import Derived.Test.YtjihfeffonadmaaCks
namespace Go.Proofs.Ytjihfeffonadmaa
set_option linter.unusedSimpArgs false
set_option linter.unusedVariables false
set_option linter.unusedSectionVars false
open Go Go.RowKit
set_option maxHeartbeats 8000000
set_option maxRecDepth 20000
end Go.Proofs.Ytjihfeffonadmaa
