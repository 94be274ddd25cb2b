/-
  Contracts on lists of checked numbers: copies and comparisons.
-/
import Derived.Test.YtdfpceobfficfaaRow
import Derived.Test.YtdfpceobfficfaaCheck
namespace Go.Proofs.Ytdfpceobfficfaa
set_option linter.unusedSimpArgs false
set_option linter.unusedVariables false
set_option linter.unusedSectionVars false
open Go Go.RowKit
set_option maxHeartbeats 8000000
set_option maxRecDepth 20000
def ckAt (zs : List Int) (k : Nat) : Ck := ⟨⟨zs.getD (k * 4) 0, zs.getD (k * 4 + 1) 0⟩, ⟨zs.getD (k * 4 + 2) 0, zs.getD (k * 4 + 3) 0⟩⟩
end Go.Proofs.Ytdfpceobfficfaa
