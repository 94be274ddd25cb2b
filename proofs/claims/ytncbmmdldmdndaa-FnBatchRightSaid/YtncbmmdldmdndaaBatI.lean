/-
  Contract: the program's BatchRight.
-/
import Derived.Test.YtncbmmdldmdndaaRndL
namespace Go.Proofs.Ytncbmmdldmdndaa
set_option linter.unusedSimpArgs false
set_option linter.unusedVariables false
set_option linter.unusedSectionVars false
open Go Go.RowKit
set_option maxHeartbeats 8000000
set_option maxRecDepth 20000
theorem C_impl_BatchRight (v : Value) (n : Nat) (zs : List Int) (key seed : Int) (w0 : World) (hx : zs.length = n * 4) (h : Sees w0 4 v n (ints zs)) :
    Calls Try.prog 20 #[v, .int .i64 key, .int .i64 seed] w0 fun e w' => e = .returned (.bool (batchRight n zs key seed)) ∧ Below w0.heap.size w0 w' := by
  have HS := Lib.hid h
  obtain ⟨hl, A, cap, rfl, hcap, hmax, hA⟩ := h
  have HX := Lib.hid hx
  clear hl hA hx
  unfold maxLen at hmax
  by_cases hbig : n > 20
  · have e : batchRight n zs key seed = false := by
      have : ¬ n ≤ 20 := by omega
      simp [batchRight, this]
    rw [e]
    clear e
    obtain ⟨L, HL, S⟩ := st_start w0; have F : True := trivial
    go_enter Try.func20, Try.ntmps20
    go_wp2
    go_ret
    exact ⟨rfl, S.below⟩
  have CK := fun w => C_impl_keyValid key w
  have CV := fun w => C_seedValid seed w
  cases hk : keyOk key with
  | false =>
    have e : batchRight n zs key seed = false := by simp [batchRight, openOk, hk]
    rw [e]
    rw [hk] at CK
    clear e hk
    obtain ⟨L, HL, S⟩ := st_start w0; have F : True := trivial
    go_enter Try.func20, Try.ntmps20
    go_wp2_with (first | (go_at_call 77; refine (CK _).mono ?_; rintro e w' ⟨rfl, rfl⟩))
    go_ret
    exact ⟨rfl, S.below⟩
  | true =>
    rw [hk] at CK
    clear hk
    cases hs : seedOk seed with
    | false =>
      have e : batchRight n zs key seed = false := by simp [batchRight, hs]
      rw [e]
      rw [hs] at CV
      clear e hs
      obtain ⟨L, HL, S⟩ := st_start w0; have F : True := trivial
      go_enter Try.func20, Try.ntmps20
      go_wp2_with (first | (go_at_call 77; refine (CK _).mono ?_; rintro e w' ⟨rfl, rfl⟩) | (go_at_call 78; refine (CV _).mono ?_; rintro e w' ⟨rfl, rfl⟩))
      go_ret
      exact ⟨rfl, S.below⟩
    | true =>
      have e : batchRight n zs key seed = openOk (batchSum n zs (rndTo seed n)) key := by simp [batchRight, hs]; omega
      rw [e]
      clear e
      have CN := fun w => C_RandomList seed n w hs (by omega)
      rw [hs] at CV
      clear hs
      unfold MakesRnd at CN
      have CB := fun w u h1 h2 => C_impl_BatchSum (.slice A n cap) u n zs (rndTo seed n) w HX.out h1 h2
      generalize batchSum n zs (rndTo seed n) = q at CB ⊢
      have HL4 := Lib.hid (rndTo_length seed n)
      generalize rndTo seed n = ts at CN CB HL4
      obtain ⟨⟨q0, q1⟩, ⟨q2, q3⟩⟩ := q
      dsimp only at CB
      obtain ⟨L, HL, S⟩ := st_start w0; have F : True := trivial
      go_enter Try.func20, Try.ntmps20
      go_wp2_with (first | (go_at_call 77; refine (CK _).mono ?_; rintro e w' ⟨rfl, rfl⟩) | (go_at_call 78; refine (CV _).mono ?_; rintro e w' ⟨rfl, rfl⟩) | (go_at_call 79; refine (CN _).mono ?_; rintro e w ⟨u, rfl, T0⟩; obtain ⟨L, hM, T⟩ := st_name (S.call T0); clear T0; clear F S; (try rw [HL.out] at hM); clear HL; (try simp [Act.put, Act.eval, Value.cells, splice] at hM); have HL := Lib.hid hM; clear hM; have S := T; clear T; have F := factsAll HL S; (try simp only [factsOf, cellsFrom, and_true, true_and, Nat.reduceAdd] at F)) | (go_at_call 81; refine (CB _ _ (HS.out.at_ S) (by exact (Sees.row S (by first | exact atOf HL (p := 0) rfl | exact atOf HL (p := 1) rfl | exact atOf HL (p := 2) rfl | exact atOf HL (p := 3) rfl | exact atOf HL (p := 4) rfl | exact atOf HL (p := 5) rfl | exact atOf HL (p := 6) rfl | exact atOf HL (p := 7) rfl | exact atOf HL (p := 8) rfl | exact atOf HL (p := 9) rfl)).ints)).mono ?_; rintro e w ⟨rfl, hb⟩; replace S := S.grow hb; clear hb) | (go_at_call 80; refine (C_impl_OpenChecked _ _ _ _ _ _).mono ?_; rintro e w ⟨rfl, hb⟩; replace S := S.grow hb; clear hb))
      go_ret
      exact ⟨rfl, S.below⟩
end Go.Proofs.Ytncbmmdldmdndaa
