/-
  Contracts of what draws a checked number and a key; a number, a key and ring numbers.
-/
import Derived.Test.YtjihfeffonadmaaDrawC
import Derived.Test.YtjihfeffonadmaaOwn
namespace Go.Proofs.Ytjihfeffonadmaa
set_option linter.unusedSimpArgs false
set_option linter.unusedVariables false
set_option linter.unusedSectionVars false
open Go Go.RowKit
set_option maxHeartbeats 8000000
set_option maxRecDepth 20000
end Go.Proofs.Ytjihfeffonadmaa
