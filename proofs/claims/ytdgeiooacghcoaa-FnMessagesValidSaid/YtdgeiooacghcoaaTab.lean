/-
  Contracts: how often ring numbers come.
-/
import Derived.Test.YtdgeiooacghcoaaCheck
import Derived.Test.YtdgeiooacghcoaaOwn
namespace Go.Proofs.Ytdgeiooacghcoaa
set_option linter.unusedSimpArgs false
set_option linter.unusedVariables false
set_option linter.unusedSectionVars false
open Go Go.RowKit
set_option maxHeartbeats 2000000
set_option maxRecDepth 20000

/-- Two new rows of ints are handed back. -/
def MakesTwo (w0 : World) (xs ys : List Int) (e : Ending) (w : World) : Prop :=
  ∃ u v, e = .returned (.tuple #[u, v]) ∧ ∃ n m, xs.length = n ∧ ys.length = m ∧ St w0 w [.row 3 1 v m (ints ys), .row 3 1 u n (ints xs)]
/-- A new row of ints is handed back. -/
def MakesOne (w0 : World) (xs : List Int) (e : Ending) (w : World) : Prop :=
  ∃ u, e = .returned u ∧ ∃ n, xs.length = n ∧ St w0 w [.row 3 1 u n (ints xs)]

theorem wrap_eq (z : Int) : IntKind.i64.wrap z = wrap64 z := by rw [IntKind.wrap_i64]; unfold wrap64; rfl
theorem bump_step {xs : List Int} {i : Nat} {y : Int} (h : xs.getD i 0 = y) : (ints xs).set i (.int .i64 (wrap64 (y + 1))) = ints (bump xs i) := by
  rw [bump, h, ints_set]
theorem zero_cells : (madeCells (Value.int .i64 0).cells (4096 * 1)).toList = ints (tab 4096 fun _ => 0) := ints_tab_zero 4096
theorem C_impl_SplitAt (x : Int) (k : Nat) (w0 : World) (hx : rv x = true) (hk : k < 4096) : Calls Try.prog 90 #[.int .i64 x, .int .i64 k] w0 fun e w' => e = .returned (.agg #[.int .i64 k, .int .i64 (subAt x k : Nat)]) ∧ Below w0.heap.size w0 w' := by
  have h := C_impl_SplitNumber x k w0
  rw [split_at hx hk] at h
  exact h
theorem C_spec_SplitAt (x : Int) (k : Nat) (w0 : World) (hx : rv x = true) (hk : k < 4096) : Calls Try.prog 92 #[.int .i64 x, .int .i64 k] w0 fun e w' => e = .returned (.agg #[.int .i64 k, .int .i64 (subAt x k : Nat)]) ∧ Below w0.heap.size w0 w' := by
  have h := C_spec_SplitNumber x k w0
  rw [split_at hx hk] at h
  exact h
theorem ints_bumps_zero (c : Nat → Nat) : ints (bumps c 0) = (madeCells #[Value.int .i64 0] 4096).toList := (ints_tab_zero 4096).symm
theorem bumps_succ (c : Nat → Nat) (k : Nat) : bumps c (k + 1) = bump (bumps c k) (c k) := rfl
theorem C_spec_TableViews (a b : Int) (w0 : World) : Calls Try.prog 73 #[.agg #[.int .i64 a, .int .i64 b]] w0 (MakesOne w0 (tableV ⟨a, b⟩)) := by
  by_cases h1 : Sh.ok ⟨a, b⟩ = true
  · have e1 : tableV ⟨a, b⟩ = bumps (addAt (joinS ⟨a, b⟩)) 4096 := by rw [tableV, if_pos h1]
    rw [e1]
    clear e1
    have hj := join_bd h1
    have CJ := fun w => C_spec_JoinShares a b w
    obtain ⟨z, hz⟩ : ∃ z, joinS ⟨a, b⟩ = z := ⟨_, rfl⟩
    rw [hz] at hj ⊢
    simp only [hz] at CJ
    clear hz
    obtain ⟨L, HL, S⟩ := st_start w0; have F : True := trivial
    go_enter Try.func73, Try.ntmps73
    go_wp2_with (first | (refine wpList_box rfl S _ _ rfl ?_; intro g w L hM T; clear F S; (try rw [HL.out] at hM); clear HL; (try simp [Act.put, Act.eval, Value.cells, splice] at hM); have HL := Lib.hid hM; clear hM; have S := T; clear T; have F := factsAll HL S; (try simp only [factsOf, cellsFrom, and_true, true_and, Nat.reduceAdd] at F))  | (refine wpList_store_box rfl S _ _ _ rfl 0 _ _ _ _ (atOf HL rfl) rfl _ rfl (by kernel_rfl) rfl rfl ?_; intro w L hM T; clear F S; (try rw [HL.out] at hM); clear HL; (try simp [Act.put, Act.eval, Value.cells, splice] at hM); have HL := Lib.hid hM; clear hM; have S := T; clear T; have F := factsAll HL S; (try simp only [factsOf, cellsFrom, and_true, true_and, Nat.reduceAdd] at F)) | (refine wpList_store_box rfl S _ _ _ rfl 1 _ _ _ _ (atOf HL rfl) rfl _ rfl (by kernel_rfl) rfl rfl ?_; intro w L hM T; clear F S; (try rw [HL.out] at hM); clear HL; (try simp [Act.put, Act.eval, Value.cells, splice] at hM); have HL := Lib.hid hM; clear hM; have S := T; clear T; have F := factsAll HL S; (try simp only [factsOf, cellsFrom, and_true, true_and, Nat.reduceAdd] at F)) | (refine wpList_store_box rfl S _ _ _ rfl 2 _ _ _ _ (atOf HL rfl) rfl _ rfl (by kernel_rfl) rfl rfl ?_; intro w L hM T; clear F S; (try rw [HL.out] at hM); clear HL; (try simp [Act.put, Act.eval, Value.cells, splice] at hM); have HL := Lib.hid hM; clear hM; have S := T; clear T; have F := factsAll HL S; (try simp only [factsOf, cellsFrom, and_true, true_and, Nat.reduceAdd] at F)) | (refine wpList_store_box rfl S _ _ _ rfl 3 _ _ _ _ (atOf HL rfl) rfl _ rfl (by kernel_rfl) rfl rfl ?_; intro w L hM T; clear F S; (try rw [HL.out] at hM); clear HL; (try simp [Act.put, Act.eval, Value.cells, splice] at hM); have HL := Lib.hid hM; clear hM; have S := T; clear T; have F := factsAll HL S; (try simp only [factsOf, cellsFrom, and_true, true_and, Nat.reduceAdd] at F)) | (go_at_call 82; refine (C_spec_SharedValid _ _ _).mono ?_; rintro e w ⟨rfl, hb⟩; replace S := S.grow hb; clear hb) | (at_make; refine wpList_make rfl S _ _ _ rfl 3 _ 1 8 Try.underlying23 infoInt _ 4096 rfl rfl rfl (by omega) (by simp only [maxLen]; omega) ?_; intro g w L hM T; clear F S; (try rw [HL.out] at hM); clear HL; (try simp [Act.put, Act.eval, Value.cells, splice] at hM); have HL := Lib.hid hM; clear hM; have S := T; clear T; have F := factsAll HL S; (try simp only [factsOf, cellsFrom, and_true, true_and, Nat.reduceAdd] at F)))
    rename_i gb _ _ _ _ _
    obtain ⟨ga, Ga⟩ : ∃ ga, ga = g := ⟨_, rfl⟩
    subst Ga
    go_loopw [4] (fun i wr => ∃ (k : Nat) (L : List Ent), k ≤ 4096 ∧ i = .int .i64 k ∧ Hid (L = [.row 3 1 (.slice (some ⟨ga, 0, none⟩) 4096 4096) 4096 (ints (bumps (addAt z) k)), .box gb 44 [.int .i64 a, .int .i64 b]]) ∧ St w0 wr L) (fun i _ => 4096 - (intOf i).toNat)
    case atStart => exact ⟨0, L, Nat.zero_le _, rfl, (by rw [ints_bumps_zero]; exact HL), S⟩
    case round =>
      clear F HL S
      obtain ⟨k, L, hk, rfl, HL, S⟩ := hrel
      by_cases hlt : k < 4096
      · have hs := addAt_lt z k
        obtain ⟨z1, z2⟩ := rv_bd hj
        have CA := fun w => C_spec_l1Ring (z + k) w
        rw [addAt_ro z k] at CA
        obtain ⟨m, hm⟩ : ∃ m, addAt z k = m := ⟨_, rfl⟩
        obtain ⟨B1, hB1⟩ : ∃ B, bumps (addAt z) k = B := ⟨_, rfl⟩
        obtain ⟨y1, hy1⟩ : ∃ y, B1.getD m 0 = y := ⟨_, rfl⟩
        rw [hm] at CA hs
        have hsI : (m : Int) < 4096 := by omega
        have l1 : (ints B1)[m]? = some (.int .i64 y1) := by rw [ints_getD B1 m (by rw [← hB1, bumps_length]; exact hs), hy1]
        have n1 : ints (bumps (addAt z) (k + 1)) = (ints B1).set m (.int .i64 (wrap64 (y1 + 1))) := by rw [bumps_succ, hB1, hm, bump_step hy1]
        rw [hB1] at HL
        clear hm hB1 hy1
        have N1 := Lib.hid n1
        have L1 := Lib.hid l1
        clear n1 l1
        have F := factsAll HL S
        simp only [factsOf, cellsFrom, and_true, true_and, Nat.reduceAdd] at F
        have c1 := fun w' (S' : St w0 w' L) => (S'.rowCell (atOf HL (p := 0) rfl) m (by omega)).trans L1.out
        go_wp2_with (first | (refine wpList_store_row rfl S _ _ _ rfl 0 _ _ _ _ _ _ _ (atOf HL rfl) rfl _ rfl (by kernel_rfl) rfl (by omega) ?_; intro w L hM T; clear F S; (try rw [HL.out] at hM); clear HL; (try simp [Act.put, Act.eval, Value.cells, splice] at hM); have HL := Lib.hid hM; clear hM; have S := T; clear T; have F := factsAll HL S; (try simp only [factsOf, cellsFrom, and_true, true_and, Nat.reduceAdd] at F)) | (go_at_call 98; refine (CJ _).mono ?_; rintro e w ⟨rfl, hb⟩; replace S := S.grow hb; clear hb) | (go_at_call 114; refine (CA _).mono ?_; rintro e w' ⟨rfl, rfl⟩))
        go_roundw
        case rel => exact ⟨k + 1, _, by omega, by go_num, Lib.hid rfl, by rw [N1.out]; rw [HL.out] at S; exact S⟩
        case measure => simp [intOf]; omega
      · obtain rfl : k = 4096 := by omega
        go_wp2
        go_ret
        rw [HL.out] at S
        exact ⟨_, rfl, _, bumps_length _ _, S.sub (.cons_cons _ (.cons _ (.refl _)))⟩
  · have h1' : Sh.ok ⟨a, b⟩ = false := by simpa using h1
    have e1 : tableV ⟨a, b⟩ = [] := by rw [tableV, if_neg h1]
    rw [e1]
    clear e1 h1
    obtain ⟨L, HL, S⟩ := st_start w0; have F : True := trivial
    go_enter Try.func73, Try.ntmps73
    go_wp2_with (first | (refine wpList_box rfl S _ _ rfl ?_; intro g w L hM T; clear F S; (try rw [HL.out] at hM); clear HL; (try simp [Act.put, Act.eval, Value.cells, splice] at hM); have HL := Lib.hid hM; clear hM; have S := T; clear T; have F := factsAll HL S; (try simp only [factsOf, cellsFrom, and_true, true_and, Nat.reduceAdd] at F))  | (refine wpList_store_box rfl S _ _ _ rfl 0 _ _ _ _ (atOf HL rfl) rfl _ rfl (by kernel_rfl) rfl rfl ?_; intro w L hM T; clear F S; (try rw [HL.out] at hM); clear HL; (try simp [Act.put, Act.eval, Value.cells, splice] at hM); have HL := Lib.hid hM; clear hM; have S := T; clear T; have F := factsAll HL S; (try simp only [factsOf, cellsFrom, and_true, true_and, Nat.reduceAdd] at F)) | (refine wpList_store_box rfl S _ _ _ rfl 1 _ _ _ _ (atOf HL rfl) rfl _ rfl (by kernel_rfl) rfl rfl ?_; intro w L hM T; clear F S; (try rw [HL.out] at hM); clear HL; (try simp [Act.put, Act.eval, Value.cells, splice] at hM); have HL := Lib.hid hM; clear hM; have S := T; clear T; have F := factsAll HL S; (try simp only [factsOf, cellsFrom, and_true, true_and, Nat.reduceAdd] at F)) | (refine wpList_store_box rfl S _ _ _ rfl 2 _ _ _ _ (atOf HL rfl) rfl _ rfl (by kernel_rfl) rfl rfl ?_; intro w L hM T; clear F S; (try rw [HL.out] at hM); clear HL; (try simp [Act.put, Act.eval, Value.cells, splice] at hM); have HL := Lib.hid hM; clear hM; have S := T; clear T; have F := factsAll HL S; (try simp only [factsOf, cellsFrom, and_true, true_and, Nat.reduceAdd] at F)) | (refine wpList_store_box rfl S _ _ _ rfl 3 _ _ _ _ (atOf HL rfl) rfl _ rfl (by kernel_rfl) rfl rfl ?_; intro w L hM T; clear F S; (try rw [HL.out] at hM); clear HL; (try simp [Act.put, Act.eval, Value.cells, splice] at hM); have HL := Lib.hid hM; clear hM; have S := T; clear T; have F := factsAll HL S; (try simp only [factsOf, cellsFrom, and_true, true_and, Nat.reduceAdd] at F)) | (go_at_call 82; refine (C_spec_SharedValid _ _ _).mono ?_; rintro e w ⟨rfl, hb⟩; replace S := S.grow hb; clear hb) | (refine wpList_empty rfl S _ rfl 3 Try.underlying23 infoInt ?_; intro g w L hM T; clear F S; (try rw [HL.out] at hM); clear HL; (try simp [Act.put, Act.eval, Value.cells, splice] at hM); have HL := Lib.hid hM; clear hM; have S := T; clear T; have F := factsAll HL S; (try simp only [factsOf, cellsFrom, and_true, true_and, Nat.reduceAdd] at F)))
    go_ret
    rw [HL.out] at S
    exact ⟨_, rfl, _, rfl, S.sub (.cons_cons _ (.cons _ (.refl _)))⟩
end Go.Proofs.Ytdgeiooacghcoaa
