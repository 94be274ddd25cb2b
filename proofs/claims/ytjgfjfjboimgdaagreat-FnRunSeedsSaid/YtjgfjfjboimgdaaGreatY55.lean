/- SnL -/
import Derived.Test.YtjgfjfjboimgdaaGreatY40
import Derived.Test.YtjgfjfjboimgdaaGreatY46
namespace Go.Proofs.YtjgfjfjboimgdaaGreat
set_option linter.unusedSimpArgs false
set_option linter.unusedVariables false
set_option linter.unusedSectionVars false
open Go Go.RowKit
set_option maxHeartbeats 8000000
set_option maxRecDepth 20000
section
theorem runOk_of {ls : List SLy} {x : SMx} {s : Int} {p : Int × Int} (hx : x.ok = true) (hs : seedOk s = true) (h4 : ls.length ≤ 4) (h : netSides (ls.map joinLy) x.a.r x.a.c = some p) : runOk ls x s = true := by
  obtain ⟨_, _, _, hf⟩ := sides_some h
  have hall := from_all _ _ _ _ hf
  have hj : joinRes ls = (true, ls.map joinLy) := by
    unfold joinRes
    rw [hall, decide_eq_true h4]
    rfl
  simp [runOk, hj, hx, hs, h]
end
end Go.Proofs.YtjgfjfjboimgdaaGreat
