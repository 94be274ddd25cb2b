/-
  Contracts: how often ring numbers come.
-/
import Derived.Test.YtkcahoojbigihaaCheck
import Derived.Test.YtkcahoojbigihaaOwn
namespace Go.Proofs.Ytkcahoojbigihaa
set_option linter.unusedSimpArgs false
set_option linter.unusedVariables false
set_option linter.unusedSectionVars false
open Go Go.RowKit
set_option maxHeartbeats 2000000
set_option maxRecDepth 20000

/-- Two new rows of ints are handed back. -/
def MakesTwo (w0 : World) (xs ys : List Int) (e : Ending) (w : World) : Prop :=
  ∃ u v, e = .returned (.tuple #[u, v]) ∧ ∃ n m, xs.length = n ∧ ys.length = m ∧ St w0 w [.row 3 1 v m (ints ys), .row 3 1 u n (ints xs)]
/-- A new row of ints is handed back. -/
def MakesOne (w0 : World) (xs : List Int) (e : Ending) (w : World) : Prop :=
  ∃ u, e = .returned u ∧ ∃ n, xs.length = n ∧ St w0 w [.row 3 1 u n (ints xs)]

theorem wrap_eq (z : Int) : IntKind.i64.wrap z = wrap64 z := by rw [IntKind.wrap_i64]; unfold wrap64; rfl
theorem bump_step {xs : List Int} {i : Nat} {y : Int} (h : xs.getD i 0 = y) : (ints xs).set i (.int .i64 (wrap64 (y + 1))) = ints (bump xs i) := by
  rw [bump, h, ints_set]
theorem zero_cells : (madeCells (Value.int .i64 0).cells (4096 * 1)).toList = ints (tab 4096 fun _ => 0) := ints_tab_zero 4096
theorem ints_bumps_zero (c : Nat → Nat) : ints (bumps c 0) = (madeCells #[Value.int .i64 0] 4096).toList := (ints_tab_zero 4096).symm
theorem bumps_succ (c : Nat → Nat) (k : Nat) : bumps c (k + 1) = bump (bumps c k) (c k) := rfl
end Go.Proofs.Ytkcahoojbigihaa
