/-
  Contracts of what draws batches of checked numbers.
-/
import Derived.Test.YtncbmmdldmdndaaDrawK
import Derived.Test.YtncbmmdldmdndaaCks
namespace Go.Proofs.Ytncbmmdldmdndaa
set_option linter.unusedSimpArgs false
set_option linter.unusedVariables false
set_option linter.unusedSectionVars false
open Go Go.RowKit
set_option maxHeartbeats 8000000
set_option maxRecDepth 20000
/-- Checked numbers are drawn: a new row at the list's front, the reader behind it. -/
def DrawsCks (R : List Ent) (g : Nat) (v : Value) (k : Int) (w0 : World) (e : Ending) (w' : World) : Prop :=
  ∃ (u : Value) (n : Nat) (zs : List Int) (k' : Int), e = .returned u ∧ zs.length = n * 4 ∧ n ≤ 5 ∧ k ≤ k' ∧ k' ≤ k + 400 ∧ St w0 w' (.row 107 4 u n (ints zs) :: .box g 185 [v, .int .i64 k'] :: R)
theorem C_l20Batch (R : List Ent) (gr : Nat) (v : Value) (k key m : Int) (w0 w1 : World) (S0 : St w0 w1 (.box gr 185 [v, .int .i64 k] :: R)) (hB : Bytes w0 v) (hk : 0 ≤ k ∧ k ≤ 600000000) :
    Calls Try.prog 85 #[.pointer (some ⟨gr, 0, none⟩), .int .i64 key, .int .i64 m] w1 (DrawsCks R gr v k w0) := by
  have HB := Lib.hid hB
  obtain ⟨k1, k2⟩ := hk
  clear hB
  obtain ⟨L, HL, S⟩ := st_name S0
  clear S0
  replace HL := Lib.hid HL
  have F := factsAll HL S
  simp only [factsOf, cellsFrom, and_true, true_and, Nat.reduceAdd] at F
  go_enter Try.func85, Try.ntmps85
  go_wp2_with (first | (refine wpList_empty rfl S _ rfl 107 Try.underlying25 infoCk ?_; intro g w L hM T; clear F S; (try rw [HL.out] at hM); clear HL; (try simp [Act.put, Act.eval, Value.cells, splice] at hM); have HL := Lib.hid hM; clear hM; have S := T; clear T; have F := factsAll HL S; (try simp only [factsOf, cellsFrom, and_true, true_and, Nat.reduceAdd] at F)) | ((go_at_call 99; refine (C_pick _ _ _ _ _ w0 _ (S.front (by first | exact atOf HL (p := 0) rfl | exact atOf HL (p := 1) rfl | exact atOf HL (p := 2) rfl | exact atOf HL (p := 3) rfl | exact atOf HL (p := 4) rfl | exact atOf HL (p := 5) rfl | exact atOf HL (p := 6) rfl | exact atOf HL (p := 7) rfl)) HB.out ⟨by omega, by omega⟩).mono ?_; rintro e w ⟨y, rfl, hy0, T0⟩; obtain ⟨L, hM, T⟩ := st_name T0; clear T0; clear F S; (try rw [HL.out] at hM); clear HL; (try simp only [List.eraseIdx_cons_zero, List.eraseIdx_cons_succ] at hM); have HL := Lib.hid hM; clear hM; have S := T; clear T; have F := factsAll HL S; (try simp only [factsOf, cellsFrom, and_true, true_and, Nat.reduceAdd] at F)); have hy := hy0 (by omega); clear hy0))
  go_loopw [7, 8] (fun u i wr => ∃ (q j : Nat) (zs : List Int) (k' : Int) (L : List Ent), i = .int .i64 q ∧ q + j ≤ 5 ∧ zs.length = j * 4 ∧ k ≤ k' ∧ k' ≤ k + 1 + j * 60 ∧ Hid (L = .row 107 4 u j (ints zs) :: .box gr 185 [v, .int .i64 k'] :: R) ∧ St w0 wr L) (fun _ i _ => (intOf i).toNat)
  case atStart =>
    have T := S.front (atOf HL (p := 1) rfl)
    rw [HL.out] at T
    simp only [List.eraseIdx_cons_succ, List.eraseIdx_cons_zero] at T
    exact ⟨y.toNat, 0, [], k + 1, _, by simp; omega, by omega, rfl, by omega, by omega, rfl, T⟩
  case round =>
    clear F HL S
    obtain ⟨q, j, zs, k', L, rfl, hqj, hz, hk3, hk4, HL, S⟩ := hrel
    have F := factsAll HL S
    simp only [factsOf, cellsFrom, and_true, true_and, Nat.reduceAdd] at F
    by_cases hq : 0 < q
    · go_wp2_with (first | (go_at_call 155; refine (C_l20Checked _ _ _ _ _ _ w0 _ (S.front (by first | exact atOf HL (p := 0) rfl | exact atOf HL (p := 1) rfl | exact atOf HL (p := 2) rfl | exact atOf HL (p := 3) rfl | exact atOf HL (p := 4) rfl | exact atOf HL (p := 5) rfl | exact atOf HL (p := 6) rfl | exact atOf HL (p := 7) rfl)) HB.out ⟨by omega, by omega⟩).mono ?_; rintro e w ⟨x0, x1, x2, x3, k', rfl, hk1, hk2, T0⟩; obtain ⟨L, hM, T⟩ := st_name T0; clear T0; clear F S; (try rw [HL.out] at hM); clear HL; (try simp only [List.eraseIdx_cons_zero, List.eraseIdx_cons_succ] at hM); have HL := Lib.hid hM; clear hM; have S := T; clear T; have F := factsAll HL S; (try simp only [factsOf, cellsFrom, and_true, true_and, Nat.reduceAdd] at F)) | (refine wpList_lit4 rfl S _ _ rfl 107 Try.underlying25 infoCk _ _ _ _ rfl ?_; intro g w L hM T; clear F S; (try rw [HL.out] at hM); clear HL; (try simp [Act.put, Act.eval, Value.cells, splice] at hM); have HL := Lib.hid hM; clear hM; have S := T; clear T; have F := factsAll HL S; (try simp only [factsOf, cellsFrom, and_true, true_and, Nat.reduceAdd] at F)) | (refine wpList_append_box rfl S _ _ _ rfl 107 _ 4 32 Try.underlying25 infoCk rfl (by omega) _ _ _ _ rfl (by first | exact atOf HL (p := 0) rfl | exact atOf HL (p := 1) rfl | exact atOf HL (p := 2) rfl | exact atOf HL (p := 3) rfl | exact atOf HL (p := 4) rfl | exact atOf HL (p := 5) rfl | exact atOf HL (p := 6) rfl | exact atOf HL (p := 7) rfl) (by omega) _ _ _ _ _ _ rfl (by first | exact atOf HL (p := 0) rfl | exact atOf HL (p := 1) rfl | exact atOf HL (p := 2) rfl | exact atOf HL (p := 3) rfl | exact atOf HL (p := 4) rfl | exact atOf HL (p := 5) rfl | exact atOf HL (p := 6) rfl | exact atOf HL (p := 7) rfl) rfl rfl rfl rfl ?_; intro u w L hM T; clear F S; (try rw [HL.out] at hM); clear HL; (try simp [Act.put, Act.eval, Value.cells, splice] at hM); have HL := Lib.hid hM; clear hM; have S := T; clear T; have F := factsAll HL S; (try simp only [factsOf, cellsFrom, and_true, true_and, Nat.reduceAdd] at F)))
      go_roundw
      case rel =>
        have T := S.front (atOf HL (p := 2) rfl)
        rw [HL.out] at T
        simp only [List.eraseIdx_cons_succ, List.eraseIdx_cons_zero] at T
        have T2 := T.sub (.cons_cons _ (.cons _ (.refl _)))
        rw [show [Value.int .i64 x0, Value.int .i64 x1, Value.int .i64 x2, Value.int .i64 x3] = ints [x0, x1, x2, x3] from rfl, ← ints_append] at T2
        exact ⟨q - 1, j + 1, _, k', _, by go_num, by omega, by simp [hz]; omega, by omega, by omega, Lib.hid rfl, T2⟩
      case measure => simp [intOf]; omega
    · obtain rfl : q = 0 := by omega
      go_wp2
      go_ret
      rw [HL.out] at S
      refine ⟨_, j, zs, k', ?_, hz, by omega, hk3, by omega, S⟩
      rfl
end Go.Proofs.Ytncbmmdldmdndaa
