/- SnL -/
import Derived.Test.YtjgfjfjboimgdaaGreatY55
import Derived.Test.YtjgfjfjboimgdaaGreatY58
namespace Go.Proofs.YtjgfjfjboimgdaaGreat
set_option linter.unusedSimpArgs false
set_option linter.unusedVariables false
set_option linter.unusedSectionVars false
open Go Go.RowKit
set_option maxHeartbeats 8000000
set_option maxRecDepth 20000
section
theorem runS_seed {ls : List SLy} {x : SMx} {s s' : Int} (h : runOk ls x s = true) (hs' : seedOk s' = true) :
    runOk ls x s' = true ∧ joinMx (runS ls x s').m = joinMx (runS ls x s).m ∧ (runS ls x s').os.length = (runS ls x s).os.length := by
  obtain ⟨hx, _, _, h4, p, hp⟩ := runOk_parts h
  have h' := runOk_of hx hs' h4 hp
  have g := runS_law h
  have g' := runS_law h'
  refine ⟨h', by rw [g.join, g'.join], ?_⟩
  have e1 := g.len
  have e2 := g'.len
  omega
end
end Go.Proofs.YtjgfjfjboimgdaaGreat
