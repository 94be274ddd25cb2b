/- NdT -/
import Derived.Test.YtjgfjfjboimgdaaGreatY40
import Derived.Test.YtjgfjfjboimgdaaGreatY46
namespace Go.Proofs.YtjgfjfjboimgdaaGreat
set_option linter.unusedSimpArgs false
set_option linter.unusedVariables false
set_option linter.unusedSectionVars false
open Go Go.RowKit
set_option maxHeartbeats 8000000
set_option maxRecDepth 20000
section
theorem sidesFrom_cons {l : Ly} {ls : List Ly} {r c : Int} {x : Int × Int} (hr : 1 ≤ r ∧ r ≤ 5) (hc : 1 ≤ c ∧ c ≤ 5) (h : sidesFrom (l :: ls) r c = some x) :
    ∃ a b, l.ok = true ∧ l.sides r c = some (a, b) ∧ (1 ≤ a ∧ a ≤ 5) ∧ (1 ≤ b ∧ b ≤ 5) ∧ sidesFrom ls a b = some x := by
  unfold sidesFrom at h
  split at h
  · rename_i hok
    split at h
    · rename_i a b hs
      obtain ⟨ha, hb⟩ := Ly.sides_ok hok hr hc hs
      exact ⟨a, b, hok, hs, ha, hb, h⟩
    · cases h
  · cases h
theorem netSides_some {ls : List Ly} {r c : Int} {x : Int × Int} (h : netSides ls r c = some x) : ls.length ≤ 4 ∧ (1 ≤ r ∧ r ≤ 5) ∧ (1 ≤ c ∧ c ≤ 5) ∧ sidesFrom ls r c = some x := by
  unfold netSides at h
  split at h
  · rename_i hc
    simp only [Bool.and_eq_true, decide_eq_true_eq, sideOk_iff] at hc
    exact ⟨hc.1.1, hc.1.2, hc.2, h⟩
  · cases h
theorem needsFrom_cons {l : Ly} {ls : List Ly} {r c a b : Int} (h : l.sides r c = some (a, b)) : needsFrom (l :: ls) r c = (l.needs r c).add (needsFrom ls a b) := by
  rw [needsFrom, h]
end
end Go.Proofs.YtjgfjfjboimgdaaGreat
