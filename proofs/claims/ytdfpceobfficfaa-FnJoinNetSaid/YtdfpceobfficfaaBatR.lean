/-
  Contracts: whether a batch is right (the reference's), and what leads to the program's: seeds, the next random number.
-/
import Derived.Test.YtdfpceobfficfaaRnd
import Derived.Test.YtdfpceobfficfaaBatch
namespace Go.Proofs.Ytdfpceobfficfaa
set_option linter.unusedSimpArgs false
set_option linter.unusedVariables false
set_option linter.unusedSectionVars false
open Go Go.RowKit
set_option maxHeartbeats 8000000
set_option maxRecDepth 20000
def batchRight (n : Nat) (zs : List Int) (key seed : Int) : Bool := decide (n ≤ 20) && seedOk seed && openOk (batchSum n zs (rndTo seed n)) key
theorem C_seedValid (s : Int) (w0 : World) : Calls Try.prog 45 #[.int .i64 s] w0 fun e w' => e = .returned (.bool (seedOk s)) ∧ w0 = w' := by
  by_cases h1 : 1 ≤ s
  · by_cases h2 : s ≤ 2147483646
    · have e : seedOk s = true := by simp [seedOk, h1, h2]
      rw [e]
      go_enter Try.func45, Try.ntmps45
      go_wp2
      go_ret
      exact ⟨rfl, rfl⟩
    · have e : seedOk s = false := by simp [seedOk, h1, h2]
      rw [e]
      go_enter Try.func45, Try.ntmps45
      go_wp2
      go_ret
      exact ⟨rfl, rfl⟩
  · have e : seedOk s = false := by simp [seedOk, h1]
    rw [e]
    go_enter Try.func45, Try.ntmps45
    go_wp2
    go_ret
    exact ⟨rfl, rfl⟩
theorem C_NextRandom (s : Int) (w0 : World) (h : 1 ≤ s ∧ s ≤ 2147483646) : Calls Try.prog 134 #[.int .i64 s] w0 fun e w' => e = .returned (.tuple #[.int .i64 (ro (nextS s / 8)), .int .i64 (nextS s)]) ∧ w0 = w' := by
  rw [show nextS s = 48271 * s % 2147483647 from by unfold nextS; rw [Int.mul_comm]]
  have hs : seedOk s = true := by simp [seedOk, h]
  have CV := fun w => C_seedValid s w
  rw [hs] at CV
  obtain ⟨h1, h2⟩ := h
  clear hs
  go_enter Try.func134, Try.ntmps134
  go_wp2_with (first | (go_at_call 45; refine (CV _).mono ?_; rintro e w' ⟨rfl, rfl⟩) | (go_at_call 127; refine (C_impl_RingOf _ _).mono ?_; rintro e w' ⟨rfl, rfl⟩))
  refine ret2 rfl (show _ = _ from rfl) (show _ = _ from rfl) rfl ?_
  exact ⟨rfl, rfl⟩
end Go.Proofs.Ytdfpceobfficfaa
