/- RuG -/
import Derived.Test.YtjgfjfjboimgdaaGreatY28
import Derived.Test.YtjgfjfjboimgdaaGreatY40
namespace Go.Proofs.YtjgfjfjboimgdaaGreat
set_option linter.unusedSimpArgs false
set_option linter.unusedVariables false
set_option linter.unusedSectionVars false
open Go Go.RowKit
set_option maxHeartbeats 8000000
set_option maxRecDepth 20000
section
theorem runFromS_os : ∀ (ls : List SLy) (x : SMx) (s : Int), (runFromS ls x s).os.length ≤ ls.length * 600
  | [], _, _ => Nat.zero_le _
  | l :: ls, x, s => by
    show ((stepS l x s).os ++ (runFromS ls (stepS l x s).m (stepS l x s).last).os).length ≤ _
    rw [List.length_append, List.length_cons, Nat.add_mul]
    have h1 := step_few l x s
    have h2 := runFromS_os ls (stepS l x s).m (stepS l x s).last
    omega
theorem runS_few (ls : List SLy) (x : SMx) (s : Int) : (runS ls x s).m.a.xs.length ≤ 25 ∧ (runS ls x s).m.b.xs.length ≤ 25 ∧ (runS ls x s).os.length ≤ 2400 := by
  cases h : runOk ls x s with
  | false => rw [runS_not h]; exact ⟨Nat.zero_le _, Nat.zero_le _, Nat.zero_le _⟩
  | true =>
    obtain ⟨h1, h2⟩ := ok_few (runS_law h).ok
    obtain ⟨_, _, _, h4, _⟩ := runOk_parts h
    refine ⟨h1, h2, ?_⟩
    rw [runS_if h]
    have := runFromS_os ls x s
    omega
end
end Go.Proofs.YtjgfjfjboimgdaaGreat
