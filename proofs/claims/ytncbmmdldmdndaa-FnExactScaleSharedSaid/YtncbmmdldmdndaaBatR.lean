/-
  Contracts: whether a batch is right (the reference's), and what leads to the program's: seeds, the next random number.
-/
import Derived.Test.YtncbmmdldmdndaaRnd
import Derived.Test.YtncbmmdldmdndaaBatch
namespace Go.Proofs.Ytncbmmdldmdndaa
set_option linter.unusedSimpArgs false
set_option linter.unusedVariables false
set_option linter.unusedSectionVars false
open Go Go.RowKit
set_option maxHeartbeats 8000000
set_option maxRecDepth 20000
def batchRight (n : Nat) (zs : List Int) (key seed : Int) : Bool := decide (n ≤ 20) && seedOk seed && openOk (batchSum n zs (rndTo seed n)) key
theorem C_seedValid (s : Int) (w0 : World) : Calls Try.prog 78 #[.int .i64 s] w0 fun e w' => e = .returned (.bool (seedOk s)) ∧ w0 = w' := by
  by_cases h1 : 1 ≤ s
  · by_cases h2 : s ≤ 2147483646
    · have e : seedOk s = true := by simp [seedOk, h1, h2]
      rw [e]
      go_enter Try.func78, Try.ntmps78
      go_wp2
      go_ret
      exact ⟨rfl, rfl⟩
    · have e : seedOk s = false := by simp [seedOk, h1, h2]
      rw [e]
      go_enter Try.func78, Try.ntmps78
      go_wp2
      go_ret
      exact ⟨rfl, rfl⟩
  · have e : seedOk s = false := by simp [seedOk, h1]
    rw [e]
    go_enter Try.func78, Try.ntmps78
    go_wp2
    go_ret
    exact ⟨rfl, rfl⟩
theorem C_NextRandom (s : Int) (w0 : World) (h : 1 ≤ s ∧ s ≤ 2147483646) : Calls Try.prog 196 #[.int .i64 s] w0 fun e w' => e = .returned (.tuple #[.int .i64 (ro (nextS s / 8)), .int .i64 (nextS s)]) ∧ w0 = w' := by
  rw [show nextS s = 48271 * s % 2147483647 from by unfold nextS; rw [Int.mul_comm]]
  have hs : seedOk s = true := by simp [seedOk, h]
  have CV := fun w => C_seedValid s w
  rw [hs] at CV
  obtain ⟨h1, h2⟩ := h
  clear hs
  go_enter Try.func196, Try.ntmps196
  go_wp2_with (first | (go_at_call 78; refine (CV _).mono ?_; rintro e w' ⟨rfl, rfl⟩) | (go_at_call 122; refine (C_impl_RingOf _ _).mono ?_; rintro e w' ⟨rfl, rfl⟩))
  refine ret2 rfl (show _ = _ from rfl) (show _ = _ from rfl) rfl ?_
  exact ⟨rfl, rfl⟩
theorem C_spec_BatchRight (v : Value) (n : Nat) (zs : List Int) (key seed : Int) (w0 : World) (hx : zs.length = n * 4) (h : Sees w0 4 v n (ints zs)) :
    Calls Try.prog 18 #[v, .int .i64 key, .int .i64 seed] w0 fun e w' => e = .returned (.bool (batchRight n zs key seed)) ∧ Below w0.heap.size w0 w' := by
  have HS := Lib.hid h
  obtain ⟨hl, A, cap, rfl, hcap, hmax, hA⟩ := h
  have HX := Lib.hid hx
  clear hl hA hx
  unfold maxLen at hmax
  by_cases hbig : n > 20
  · have e : batchRight n zs key seed = false := by
      have : ¬ n ≤ 20 := by omega
      simp [batchRight, this]
    rw [e]
    clear e
    obtain ⟨L, HL, S⟩ := st_start w0; have F : True := trivial
    go_enter Try.func18, Try.ntmps18
    go_wp2
    go_ret
    exact ⟨rfl, S.below⟩
  have CL : ∀ w : World, Calls Try.prog 72 #[.int .i64 seed, .int .i64 1, .int .i64 2147483646] w fun e w' => e = .returned (.bool (seedOk seed)) ∧ w = w' := fun w => C_spec_l1In seed 1 2147483646 w
  cases hs : seedOk seed with
  | false =>
    have e : batchRight n zs key seed = false := by simp [batchRight, hs]
    rw [e]
    rw [hs] at CL
    clear e hs
    obtain ⟨L, HL, S⟩ := st_start w0; have F : True := trivial
    go_enter Try.func18, Try.ntmps18
    go_wp2_with (first | (go_at_call 72; refine (CL _).mono ?_; rintro e w' ⟨rfl, rfl⟩))
    go_ret
    exact ⟨rfl, S.below⟩
  | true =>
    have e : batchRight n zs key seed = openOk (batchSum n zs (rndTo seed n)) key := by simp [batchRight, hs]; omega
    rw [e]
    clear e
    rw [hs] at CL
    have hsb : 0 ≤ seed ∧ seed ≤ 2147483646 := by
      simp only [seedOk, Bool.and_eq_true, decide_eq_true_eq] at hs
      omega
    clear hs
    have CN := fun w => C_spec_l4List seed n w hsb (by omega)
    unfold MakesRnd at CN
    have CB := fun w u h1 h2 => C_spec_BatchSum (.slice A n cap) u n zs (rndTo seed n) w HX.out h1 h2
    have HL4 := Lib.hid (rndTo_length seed n)
    generalize batchSum n zs (rndTo seed n) = q at CB ⊢
    generalize rndTo seed n = ts at CN CB HL4
    obtain ⟨⟨q0, q1⟩, ⟨q2, q3⟩⟩ := q
    dsimp only at CB
    obtain ⟨L, HL, S⟩ := st_start w0; have F : True := trivial
    go_enter Try.func18, Try.ntmps18
    go_wp2_with (first | (go_at_call 72; refine (CL _).mono ?_; rintro e w' ⟨rfl, rfl⟩) | (go_at_call 73; refine (CN _).mono ?_; rintro e w ⟨u, rfl, T0⟩; obtain ⟨L, hM, T⟩ := st_name (S.call T0); clear T0; clear F S; (try rw [HL.out] at hM); clear HL; (try simp [Act.put, Act.eval, Value.cells, splice] at hM); have HL := Lib.hid hM; clear hM; have S := T; clear T; have F := factsAll HL S; (try simp only [factsOf, cellsFrom, and_true, true_and, Nat.reduceAdd] at F)) | (go_at_call 75; refine (CB _ _ (HS.out.at_ S) (by exact (Sees.row S (by first | exact atOf HL (p := 0) rfl | exact atOf HL (p := 1) rfl | exact atOf HL (p := 2) rfl | exact atOf HL (p := 3) rfl | exact atOf HL (p := 4) rfl | exact atOf HL (p := 5) rfl | exact atOf HL (p := 6) rfl | exact atOf HL (p := 7) rfl | exact atOf HL (p := 8) rfl | exact atOf HL (p := 9) rfl)).ints)).mono ?_; rintro e w ⟨rfl, hb⟩; replace S := S.grow hb; clear hb) | (go_at_call 74; refine (C_spec_OpenChecked _ _ _ _ _ _).mono ?_; rintro e w ⟨rfl, hb⟩; replace S := S.grow hb; clear hb))
    go_ret
    exact ⟨rfl, S.below⟩
end Go.Proofs.Ytncbmmdldmdndaa
