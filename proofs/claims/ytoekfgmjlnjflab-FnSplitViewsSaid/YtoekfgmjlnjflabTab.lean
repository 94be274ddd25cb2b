/-
  Contracts: how often ring numbers come.
-/
import Derived.Test.YtoekfgmjlnjflabCheck
namespace Go.Proofs.Ytoekfgmjlnjflab
set_option linter.unusedSimpArgs false
set_option linter.unusedVariables false
set_option linter.unusedSectionVars false
open Go Go.RowKit
set_option maxHeartbeats 2000000
set_option maxRecDepth 20000

/-- Two new rows of ints are handed back. -/
def MakesTwo (w0 : World) (xs ys : List Int) (e : Ending) (w : World) : Prop :=
  ∃ u v, e = .returned (.tuple #[u, v]) ∧ ∃ n m, xs.length = n ∧ ys.length = m ∧ St w0 w [.row 3 1 v m (ints ys), .row 3 1 u n (ints xs)]
/-- A new row of ints is handed back. -/
def MakesOne (w0 : World) (xs : List Int) (e : Ending) (w : World) : Prop :=
  ∃ u, e = .returned u ∧ ∃ n, xs.length = n ∧ St w0 w [.row 3 1 u n (ints xs)]

section
variable {P : Program} {w0 w : World} {a : Act} {L : List Ent} {o : Oper} {ops : Array Oper} {rest : List Oper} {Q : Exit → Act → World → Prop}
theorem run_empty {t e : TypeId} (hu : P.underlying t = some (.slice e)) {z : Option Value} {size bytes : Nat} (hi : (P.info? e).map (fun i => (i.zero, i.size, i.bytes)) = some (z, size, bytes)) (w : World) :
    (Instr.buildSlice t 0 #[]).run P w = .ok (.slice (some ⟨w.heap.size, 0, none⟩) 0 0) (w.alloc (.cells #[] e)) := by
  cases hie : P.info? e with
  | none => simp [hie] at hi
  | some i => simp [Instr.buildSlice, run_underlying hu, sizeOf, typeInfo, hie, newRow, Instr.fill, show Array.range 0 = #[] from rfl]
/-- []T{} -/
theorem wpList_empty (hgd : o.guard = none) (S : St w0 w L) (t : TypeId) (ho : o.op = .buildSlice t 0 #[])
    (e : TypeId) (ht : P.underlying t = some (.slice e)) {z : Option Value} {size bytes : Nat} (hi : (P.info? e).map (fun i => (i.zero, i.size, i.bytes)) = some (z, size, bytes))
    (h : ∀ g w' M, M = .row e size (.slice (some ⟨g, 0, none⟩) 0 0) 0 [] :: L → St w0 w' M → wpList P ops Q rest (a.put o.dst (.slice (some ⟨g, 0, none⟩) 0 0)) w') : wpList P ops Q (o :: rest) a w := by
  refine wpList_plain hgd fun _ hK => ?_
  unfold Oper.wp
  simp only [execOp, ho, Sem.run_bind, Array.map_empty, run_empty ht hi w, Result.andThen_ok, Sem.run_pure]
  exact hK _ _ (h _ _ _ rfl ((S.new e []).asRow (p := 0) rfl (by simp) (by simp [maxLen])))
end
theorem wrap_eq (z : Int) : IntKind.i64.wrap z = wrap64 z := by rw [IntKind.wrap_i64]; unfold wrap64; rfl
theorem bump_step {xs : List Int} {i : Nat} {y : Int} (h : xs.getD i 0 = y) : (ints xs).set i (.int .i64 (wrap64 (y + 1))) = ints (bump xs i) := by
  rw [bump, h, ints_set]
theorem zero_cells : (madeCells (Value.int .i64 0).cells (4096 * 1)).toList = ints (tab 4096 fun _ => 0) := ints_tab_zero 4096
theorem C_impl_SplitAt (x : Int) (k : Nat) (w0 : World) (hx : rv x = true) (hk : k < 4096) : Calls Try.prog 71 #[.int .i64 x, .int .i64 k] w0 fun e w' => e = .returned (.agg #[.int .i64 k, .int .i64 (subAt x k : Nat)]) ∧ Below w0.heap.size w0 w' := by
  have h := C_impl_SplitNumber x k w0
  rw [split_at hx hk] at h
  exact h
theorem C_spec_SplitAt (x : Int) (k : Nat) (w0 : World) (hx : rv x = true) (hk : k < 4096) : Calls Try.prog 72 #[.int .i64 x, .int .i64 k] w0 fun e w' => e = .returned (.agg #[.int .i64 k, .int .i64 (subAt x k : Nat)]) ∧ Below w0.heap.size w0 w' := by
  have h := C_spec_SplitNumber x k w0
  rw [split_at hx hk] at h
  exact h
theorem ints_bumps_zero (c : Nat → Nat) : ints (bumps c 0) = (madeCells #[Value.int .i64 0] 4096).toList := (ints_tab_zero 4096).symm
theorem bumps_succ (c : Nat → Nat) (k : Nat) : bumps c (k + 1) = bump (bumps c k) (c k) := rfl
theorem C_impl_SplitViews (x : Int) (w0 : World) : Calls Try.prog 16 #[.int .i64 x] w0 (MakesTwo w0 (splitV1 x) (splitV2 x)) := by
  by_cases h1 : rv x = true
  · have e1 : splitV1 x = bumps (fun k => k) 4096 := by rw [splitV1, if_pos h1]
    have e2 : splitV2 x = bumps (subAt x) 4096 := by rw [splitV2, if_pos h1]
    rw [e1, e2]
    clear e1 e2
    obtain ⟨L, HL, S⟩ := st_start w0; have F : True := trivial
    go_enter Try.func16, Try.ntmps16
    go_wp2_with (first | (refine wpList_box rfl S _ _ rfl ?_; intro g w L hM T; clear F S; (try rw [HL.out] at hM); clear HL; (try simp [Act.put, Act.eval, Value.cells, splice] at hM); have HL := Lib.hid hM; clear hM; have S := T; clear T; have F := factsAll HL S; (try simp only [factsOf, cellsFrom, and_true, true_and, Nat.reduceAdd] at F))  | (refine wpList_store_box rfl S _ _ _ rfl 0 _ _ _ _ (atOf HL rfl) rfl _ rfl (by kernel_rfl) rfl rfl ?_; intro w L hM T; clear F S; (try rw [HL.out] at hM); clear HL; (try simp [Act.put, Act.eval, Value.cells, splice] at hM); have HL := Lib.hid hM; clear hM; have S := T; clear T; have F := factsAll HL S; (try simp only [factsOf, cellsFrom, and_true, true_and, Nat.reduceAdd] at F)) | (refine wpList_store_box rfl S _ _ _ rfl 1 _ _ _ _ (atOf HL rfl) rfl _ rfl (by kernel_rfl) rfl rfl ?_; intro w L hM T; clear F S; (try rw [HL.out] at hM); clear HL; (try simp [Act.put, Act.eval, Value.cells, splice] at hM); have HL := Lib.hid hM; clear hM; have S := T; clear T; have F := factsAll HL S; (try simp only [factsOf, cellsFrom, and_true, true_and, Nat.reduceAdd] at F)) | (refine wpList_store_box rfl S _ _ _ rfl 2 _ _ _ _ (atOf HL rfl) rfl _ rfl (by kernel_rfl) rfl rfl ?_; intro w L hM T; clear F S; (try rw [HL.out] at hM); clear HL; (try simp [Act.put, Act.eval, Value.cells, splice] at hM); have HL := Lib.hid hM; clear hM; have S := T; clear T; have F := factsAll HL S; (try simp only [factsOf, cellsFrom, and_true, true_and, Nat.reduceAdd] at F)) | (refine wpList_store_box rfl S _ _ _ rfl 3 _ _ _ _ (atOf HL rfl) rfl _ rfl (by kernel_rfl) rfl rfl ?_; intro w L hM T; clear F S; (try rw [HL.out] at hM); clear HL; (try simp [Act.put, Act.eval, Value.cells, splice] at hM); have HL := Lib.hid hM; clear hM; have S := T; clear T; have F := factsAll HL S; (try simp only [factsOf, cellsFrom, and_true, true_and, Nat.reduceAdd] at F)) | (go_at_call 70; refine (C_impl_RingValid _ _).mono ?_; rintro e w' ⟨rfl, rfl⟩) | (at_make; refine wpList_make rfl S _ _ _ rfl 3 _ 1 8 Try.underlying24 infoInt _ 4096 rfl rfl rfl (by omega) (by simp only [maxLen]; omega) ?_; intro g w L hM T; clear F S; (try rw [HL.out] at hM); clear HL; (try simp [Act.put, Act.eval, Value.cells, splice] at hM); have HL := Lib.hid hM; clear hM; have S := T; clear T; have F := factsAll HL S; (try simp only [factsOf, cellsFrom, and_true, true_and, Nat.reduceAdd] at F)))
    rename_i ga _ _ _ _
    obtain ⟨gb, Gb⟩ : ∃ gb, gb = g := ⟨_, rfl⟩
    subst Gb
    go_loopw [13] (fun i wr => ∃ (k : Nat) (L : List Ent), k ≤ 4096 ∧ i = .int .i64 k ∧ Hid (L = [.row 3 1 (.slice (some ⟨gb, 0, none⟩) 4096 4096) 4096 (ints (bumps (subAt x) k)), .row 3 1 (.slice (some ⟨ga, 0, none⟩) 4096 4096) 4096 (ints (bumps (fun k => k) k))]) ∧ St w0 wr L) (fun i _ => 4096 - (intOf i).toNat)
    case atStart => exact ⟨0, L, Nat.zero_le _, rfl, (by rw [ints_bumps_zero, ints_bumps_zero]; exact HL), S⟩
    case round =>
      clear F HL S
      obtain ⟨k, L, hk, rfl, HL, S⟩ := hrel
      have F : True := trivial
      by_cases hlt : k < 4096
      · have hs := subAt_lt x k
        obtain ⟨m, hm⟩ : ∃ m, subAt x k = m := ⟨_, rfl⟩
        obtain ⟨B1, hB1⟩ : ∃ B, bumps (fun k => k) k = B := ⟨_, rfl⟩
        obtain ⟨B2, hB2⟩ : ∃ B, bumps (subAt x) k = B := ⟨_, rfl⟩
        obtain ⟨y1, hy1⟩ : ∃ y, B1.getD k 0 = y := ⟨_, rfl⟩
        obtain ⟨y2, hy2⟩ : ∃ y, B2.getD m 0 = y := ⟨_, rfl⟩
        have l1 : (ints B1)[k]? = some (.int .i64 y1) := by rw [ints_getD B1 k (by rw [← hB1, bumps_length]; exact hlt), hy1]
        have l2 : (ints B2)[m]? = some (.int .i64 y2) := by rw [ints_getD B2 m (by rw [← hB2, bumps_length, ← hm]; exact hs), hy2]
        have n1 : ints (bumps (fun k => k) (k + 1)) = (ints B1).set k (.int .i64 (wrap64 (y1 + 1))) := by rw [bumps_succ, hB1, bump_step hy1]
        have n2 : ints (bumps (subAt x) (k + 1)) = (ints B2).set m (.int .i64 (wrap64 (y2 + 1))) := by rw [bumps_succ, hB2, hm, bump_step hy2]
        rw [hB1, hB2] at HL
        have CC := C_impl_SplitAt x k w h1 hlt
        rw [hm] at CC hs
        have hsI : (m : Int) < 4096 := by omega
        have CA : ∀ w, _ := fun w => by have := C_impl_SplitAt x k w h1 hlt; rw [hm] at this; exact this
        clear CC hm hB1 hB2 hy1 hy2
        have N1 := Lib.hid n1
        have N2 := Lib.hid n2
        have L1 := Lib.hid l1
        have L2 := Lib.hid l2
        clear n1 n2 l1 l2
        go_upto_region 9 with (first | (refine wpList_store_box rfl S _ _ _ rfl 0 _ _ _ _ (atOf HL rfl) rfl _ rfl (by kernel_rfl) rfl rfl ?_; intro w L hM T; clear F S; (try rw [HL.out] at hM); clear HL; (try simp [Act.put, Act.eval, Value.cells, splice] at hM); have HL := Lib.hid hM; clear hM; have S := T; clear T; have F := factsAll HL S; (try simp only [factsOf, cellsFrom, and_true, true_and, Nat.reduceAdd] at F)) | (refine wpList_alloc rfl S 36 _ rfl zSh ?_; intro g w L hM T; clear F S; (try rw [HL.out] at hM); clear HL; (try simp [Act.put, Act.eval, Value.cells, splice] at hM); have HL := Lib.hid hM; clear hM; have S := T; clear T; have F := factsAll HL S; (try simp only [factsOf, cellsFrom, and_true, true_and, Nat.reduceAdd] at F)) | (go_at_call 71; refine (CA _).mono ?_; rintro e w ⟨rfl, hb⟩; replace S := S.grow hb; clear hb))
        have c1 := (S.rowCell (atOf HL (p := 2) rfl) k (by omega)).trans L1.out
        go_upto_region 10 with (first | (refine wpList_store_row rfl S _ _ _ rfl 2 _ _ _ _ _ _ _ (atOf HL rfl) rfl _ rfl (by kernel_rfl) rfl (by omega) ?_; intro w L hM T; clear F S; (try rw [HL.out] at hM); clear HL; (try simp [Act.put, Act.eval, Value.cells, splice] at hM); have HL := Lib.hid hM; clear hM; have S := T; clear T; have F := factsAll HL S; (try simp only [factsOf, cellsFrom, and_true, true_and, Nat.reduceAdd] at F)))
        have c2 := (S.rowCell (atOf HL (p := 1) rfl) m (by omega)).trans L2.out
        go_wp2_with (first | (refine wpList_store_row rfl S _ _ _ rfl 1 _ _ _ _ _ _ _ (atOf HL rfl) rfl _ rfl (by kernel_rfl) rfl (by omega) ?_; intro w L hM T; clear F S; (try rw [HL.out] at hM); clear HL; (try simp [Act.put, Act.eval, Value.cells, splice] at hM); have HL := Lib.hid hM; clear hM; have S := T; clear T; have F := factsAll HL S; (try simp only [factsOf, cellsFrom, and_true, true_and, Nat.reduceAdd] at F)))
        go_roundw
        case rel => exact ⟨k + 1, _, by omega, by go_num, Lib.hid rfl, by rw [N1.out, N2.out]; exact S.sub (by rw [HL.out]; exact .cons _ (.refl _))⟩
        case measure => simp [intOf]; omega
      · obtain rfl : k = 4096 := by omega
        go_wp2
        refine ret2 rfl (show _ = _ from rfl) (show _ = _ from rfl) rfl ?_
        rw [HL.out] at S
        exact ⟨_, _, rfl, _, _, bumps_length _ _, bumps_length _ _, S⟩
  · have h1' : rv x = false := by simpa using h1
    have e1 : splitV1 x = [] := by rw [splitV1, if_neg h1]
    have e2 : splitV2 x = [] := by rw [splitV2, if_neg h1]
    rw [e1, e2]
    clear e1 e2 h1
    obtain ⟨L, HL, S⟩ := st_start w0; have F : True := trivial
    go_enter Try.func16, Try.ntmps16
    go_wp2_with (first | (refine wpList_box rfl S _ _ rfl ?_; intro g w L hM T; clear F S; (try rw [HL.out] at hM); clear HL; (try simp [Act.put, Act.eval, Value.cells, splice] at hM); have HL := Lib.hid hM; clear hM; have S := T; clear T; have F := factsAll HL S; (try simp only [factsOf, cellsFrom, and_true, true_and, Nat.reduceAdd] at F))  | (refine wpList_store_box rfl S _ _ _ rfl 0 _ _ _ _ (atOf HL rfl) rfl _ rfl (by kernel_rfl) rfl rfl ?_; intro w L hM T; clear F S; (try rw [HL.out] at hM); clear HL; (try simp [Act.put, Act.eval, Value.cells, splice] at hM); have HL := Lib.hid hM; clear hM; have S := T; clear T; have F := factsAll HL S; (try simp only [factsOf, cellsFrom, and_true, true_and, Nat.reduceAdd] at F)) | (refine wpList_store_box rfl S _ _ _ rfl 1 _ _ _ _ (atOf HL rfl) rfl _ rfl (by kernel_rfl) rfl rfl ?_; intro w L hM T; clear F S; (try rw [HL.out] at hM); clear HL; (try simp [Act.put, Act.eval, Value.cells, splice] at hM); have HL := Lib.hid hM; clear hM; have S := T; clear T; have F := factsAll HL S; (try simp only [factsOf, cellsFrom, and_true, true_and, Nat.reduceAdd] at F)) | (refine wpList_store_box rfl S _ _ _ rfl 2 _ _ _ _ (atOf HL rfl) rfl _ rfl (by kernel_rfl) rfl rfl ?_; intro w L hM T; clear F S; (try rw [HL.out] at hM); clear HL; (try simp [Act.put, Act.eval, Value.cells, splice] at hM); have HL := Lib.hid hM; clear hM; have S := T; clear T; have F := factsAll HL S; (try simp only [factsOf, cellsFrom, and_true, true_and, Nat.reduceAdd] at F)) | (refine wpList_store_box rfl S _ _ _ rfl 3 _ _ _ _ (atOf HL rfl) rfl _ rfl (by kernel_rfl) rfl rfl ?_; intro w L hM T; clear F S; (try rw [HL.out] at hM); clear HL; (try simp [Act.put, Act.eval, Value.cells, splice] at hM); have HL := Lib.hid hM; clear hM; have S := T; clear T; have F := factsAll HL S; (try simp only [factsOf, cellsFrom, and_true, true_and, Nat.reduceAdd] at F)) | (go_at_call 70; refine (C_impl_RingValid _ _).mono ?_; rintro e w' ⟨rfl, rfl⟩) )
    refine ret2 rfl (show _ = _ from rfl) (show _ = _ from rfl) rfl ?_
    rw [HL.out] at S
    exact ⟨_, _, rfl, _, _, rfl, rfl, (S.nilRow _ _).nilRow _ _⟩
theorem C_spec_SplitViews (x : Int) (w0 : World) : Calls Try.prog 17 #[.int .i64 x] w0 (MakesTwo w0 (splitV1 x) (splitV2 x)) := by
  by_cases h1 : rv x = true
  · have e1 : splitV1 x = bumps (fun k => k) 4096 := by rw [splitV1, if_pos h1]
    have e2 : splitV2 x = bumps (subAt x) 4096 := by rw [splitV2, if_pos h1]
    rw [e1, e2]
    clear e1 e2
    obtain ⟨L, HL, S⟩ := st_start w0; have F : True := trivial
    go_enter Try.func17, Try.ntmps17
    go_wp2_with (first | (refine wpList_box rfl S _ _ rfl ?_; intro g w L hM T; clear F S; (try rw [HL.out] at hM); clear HL; (try simp [Act.put, Act.eval, Value.cells, splice] at hM); have HL := Lib.hid hM; clear hM; have S := T; clear T; have F := factsAll HL S; (try simp only [factsOf, cellsFrom, and_true, true_and, Nat.reduceAdd] at F))  | (refine wpList_store_box rfl S _ _ _ rfl 0 _ _ _ _ (atOf HL rfl) rfl _ rfl (by kernel_rfl) rfl rfl ?_; intro w L hM T; clear F S; (try rw [HL.out] at hM); clear HL; (try simp [Act.put, Act.eval, Value.cells, splice] at hM); have HL := Lib.hid hM; clear hM; have S := T; clear T; have F := factsAll HL S; (try simp only [factsOf, cellsFrom, and_true, true_and, Nat.reduceAdd] at F)) | (refine wpList_store_box rfl S _ _ _ rfl 1 _ _ _ _ (atOf HL rfl) rfl _ rfl (by kernel_rfl) rfl rfl ?_; intro w L hM T; clear F S; (try rw [HL.out] at hM); clear HL; (try simp [Act.put, Act.eval, Value.cells, splice] at hM); have HL := Lib.hid hM; clear hM; have S := T; clear T; have F := factsAll HL S; (try simp only [factsOf, cellsFrom, and_true, true_and, Nat.reduceAdd] at F)) | (refine wpList_store_box rfl S _ _ _ rfl 2 _ _ _ _ (atOf HL rfl) rfl _ rfl (by kernel_rfl) rfl rfl ?_; intro w L hM T; clear F S; (try rw [HL.out] at hM); clear HL; (try simp [Act.put, Act.eval, Value.cells, splice] at hM); have HL := Lib.hid hM; clear hM; have S := T; clear T; have F := factsAll HL S; (try simp only [factsOf, cellsFrom, and_true, true_and, Nat.reduceAdd] at F)) | (refine wpList_store_box rfl S _ _ _ rfl 3 _ _ _ _ (atOf HL rfl) rfl _ rfl (by kernel_rfl) rfl rfl ?_; intro w L hM T; clear F S; (try rw [HL.out] at hM); clear HL; (try simp [Act.put, Act.eval, Value.cells, splice] at hM); have HL := Lib.hid hM; clear hM; have S := T; clear T; have F := factsAll HL S; (try simp only [factsOf, cellsFrom, and_true, true_and, Nat.reduceAdd] at F)) | (go_at_call 19; refine (C_spec_RingValid _ _).mono ?_; rintro e w' ⟨rfl, rfl⟩) | (at_make; refine wpList_make rfl S _ _ _ rfl 3 _ 1 8 Try.underlying24 infoInt _ 4096 rfl rfl rfl (by omega) (by simp only [maxLen]; omega) ?_; intro g w L hM T; clear F S; (try rw [HL.out] at hM); clear HL; (try simp [Act.put, Act.eval, Value.cells, splice] at hM); have HL := Lib.hid hM; clear hM; have S := T; clear T; have F := factsAll HL S; (try simp only [factsOf, cellsFrom, and_true, true_and, Nat.reduceAdd] at F)))
    rename_i ga _ _ _ _
    obtain ⟨gb, Gb⟩ : ∃ gb, gb = g := ⟨_, rfl⟩
    subst Gb
    go_loopw [6] (fun i wr => ∃ (k : Nat) (L : List Ent), k ≤ 4096 ∧ i = .int .i64 k ∧ Hid (L = [.row 3 1 (.slice (some ⟨gb, 0, none⟩) 4096 4096) 4096 (ints (bumps (subAt x) k)), .row 3 1 (.slice (some ⟨ga, 0, none⟩) 4096 4096) 4096 (ints (bumps (fun k => k) k))]) ∧ St w0 wr L) (fun i _ => 4096 - (intOf i).toNat)
    case atStart => exact ⟨0, L, Nat.zero_le _, rfl, (by rw [ints_bumps_zero, ints_bumps_zero]; exact HL), S⟩
    case round =>
      clear F HL S
      obtain ⟨k, L, hk, rfl, HL, S⟩ := hrel
      have F : True := trivial
      by_cases hlt : k < 4096
      · have hs := subAt_lt x k
        obtain ⟨m, hm⟩ : ∃ m, subAt x k = m := ⟨_, rfl⟩
        obtain ⟨B1, hB1⟩ : ∃ B, bumps (fun k => k) k = B := ⟨_, rfl⟩
        obtain ⟨B2, hB2⟩ : ∃ B, bumps (subAt x) k = B := ⟨_, rfl⟩
        obtain ⟨y1, hy1⟩ : ∃ y, B1.getD k 0 = y := ⟨_, rfl⟩
        obtain ⟨y2, hy2⟩ : ∃ y, B2.getD m 0 = y := ⟨_, rfl⟩
        have l1 : (ints B1)[k]? = some (.int .i64 y1) := by rw [ints_getD B1 k (by rw [← hB1, bumps_length]; exact hlt), hy1]
        have l2 : (ints B2)[m]? = some (.int .i64 y2) := by rw [ints_getD B2 m (by rw [← hB2, bumps_length, ← hm]; exact hs), hy2]
        have n1 : ints (bumps (fun k => k) (k + 1)) = (ints B1).set k (.int .i64 (wrap64 (y1 + 1))) := by rw [bumps_succ, hB1, bump_step hy1]
        have n2 : ints (bumps (subAt x) (k + 1)) = (ints B2).set m (.int .i64 (wrap64 (y2 + 1))) := by rw [bumps_succ, hB2, hm, bump_step hy2]
        rw [hB1, hB2] at HL
        have CC := C_spec_SplitAt x k w h1 hlt
        rw [hm] at CC hs
        have hsI : (m : Int) < 4096 := by omega
        have CA : ∀ w, _ := fun w => by have := C_spec_SplitAt x k w h1 hlt; rw [hm] at this; exact this
        clear CC hm hB1 hB2 hy1 hy2
        have N1 := Lib.hid n1
        have N2 := Lib.hid n2
        have L1 := Lib.hid l1
        have L2 := Lib.hid l2
        clear n1 n2 l1 l2
        go_upto_region 9 with (first | (refine wpList_store_box rfl S _ _ _ rfl 0 _ _ _ _ (atOf HL rfl) rfl _ rfl (by kernel_rfl) rfl rfl ?_; intro w L hM T; clear F S; (try rw [HL.out] at hM); clear HL; (try simp [Act.put, Act.eval, Value.cells, splice] at hM); have HL := Lib.hid hM; clear hM; have S := T; clear T; have F := factsAll HL S; (try simp only [factsOf, cellsFrom, and_true, true_and, Nat.reduceAdd] at F)) | (refine wpList_alloc rfl S 36 _ rfl zSh ?_; intro g w L hM T; clear F S; (try rw [HL.out] at hM); clear HL; (try simp [Act.put, Act.eval, Value.cells, splice] at hM); have HL := Lib.hid hM; clear hM; have S := T; clear T; have F := factsAll HL S; (try simp only [factsOf, cellsFrom, and_true, true_and, Nat.reduceAdd] at F)) | (go_at_call 72; refine (CA _).mono ?_; rintro e w ⟨rfl, hb⟩; replace S := S.grow hb; clear hb))
        have c1 := fun w' (S' : St w0 w' L) => (S'.rowCell (atOf HL (p := 2) rfl) k (by omega)).trans L1.out
        have HL0 := HL; have F0 := F; refine wp_region_tree (S := fun w' => St w0 w' L) (.calm 0 (.calm 1 (.calm 2 (.calm 3 (.calm 4 (.calm 5 (.calm 6 (.calm 7 (.calm 8 (.calm 9 (.act 10 .fin .stop))))))))))) (by kernel_rfl) (by kernel_rfl) (by kernel_rfl) (by intro c a d v w h; cases d <;> exact h) ?_; replace S := S.drew
        repeat (first | (refine tree_calm (v := ?_) ?_ rfl rfl ?_ ?_; rotate_left; (focus (first | exact S | (refine S.sub (subL HL0 HL ?_); (repeat (first | exact List.Sublist.refl _ | apply List.Sublist.cons)); done))); (focus (intro w' hS'; (try dsimp only at hS'); go_simp; try rfl)); (try simp only [Act.put, List.setIfInBounds_toArray, List.set_cons_zero, List.set_cons_succ])) | (refine tree_skip ?_ rfl rfl ?_; (focus (first | exact S | (refine S.sub (subL HL0 HL ?_); (repeat (first | exact List.Sublist.refl _ | apply List.Sublist.cons)); done))); (try simp only [Act.put, List.setIfInBounds_toArray, List.set_cons_zero, List.set_cons_succ])) | (refine tree_act rfl rfl ?_ tree_stop; intro K hK; (refine wp_store_row S _ _ _ rfl 2 _ _ _ _ _ _ _ (atOf HL rfl) rfl _ rfl (by kernel_rfl) rfl (by omega) ?_; intro w L hM T; clear F S; (try rw [HL.out] at hM); clear HL; (try simp [Act.put, Act.eval, Value.cells, splice] at hM); have HL := Lib.hid hM; clear hM; have S := T; clear T; have F := factsAll HL S; (try simp only [factsOf, cellsFrom, and_true, true_and, Nat.reduceAdd] at F)); (refine hK.out _ _ ?_ ?_; (focus (first | exact fun _ => S | (intro _; refine S.sub (subL HL0 HL ?_); (repeat (first | exact List.Sublist.refl _ | apply List.Sublist.cons)); done) | (refine sink_no ?_; kernel_rfl))); clear hK K; (try simp only [Act.put, List.setIfInBounds_toArray, List.set_cons_zero, List.set_cons_succ]))) | (refine tree_act rfl rfl ?_ tree_stop; intro K hK; go_wp2_with (first | fail); (refine hK.out _ _ ?_ ?_; (focus (first | exact fun _ => S | (intro _; refine S.sub (subL HL0 HL ?_); (repeat (first | exact List.Sublist.refl _ | apply List.Sublist.cons)); done) | (refine sink_no ?_; kernel_rfl))); clear hK K; (try simp only [Act.put, List.setIfInBounds_toArray, List.set_cons_zero, List.set_cons_succ]))))
        refine tree_fin ?_
        go_upto_region 10 with (first | fail)
        have c2 := fun w' (S' : St w0 w' L) => (S'.rowCell (atOf HL (p := 1) rfl) m (by omega)).trans L2.out
        have HL0 := HL; have F0 := F; refine wp_region_tree (S := fun w' => St w0 w' L) (.calm 0 (.calm 1 (.calm 2 (.calm 3 (.calm 4 (.calm 5 (.calm 6 (.calm 7 (.calm 8 (.calm 9 (.act 10 .fin .stop))))))))))) (by kernel_rfl) (by kernel_rfl) (by kernel_rfl) (by intro c a d v w h; cases d <;> exact h) ?_; replace S := S.drew
        repeat (first | (refine tree_calm (v := ?_) ?_ rfl rfl ?_ ?_; rotate_left; (focus (first | exact S | (refine S.sub (subL HL0 HL ?_); (repeat (first | exact List.Sublist.refl _ | apply List.Sublist.cons)); done))); (focus (intro w' hS'; (try dsimp only at hS'); go_simp; try rfl)); (try simp only [Act.put, List.setIfInBounds_toArray, List.set_cons_zero, List.set_cons_succ])) | (refine tree_skip ?_ rfl rfl ?_; (focus (first | exact S | (refine S.sub (subL HL0 HL ?_); (repeat (first | exact List.Sublist.refl _ | apply List.Sublist.cons)); done))); (try simp only [Act.put, List.setIfInBounds_toArray, List.set_cons_zero, List.set_cons_succ])) | (refine tree_act rfl rfl ?_ tree_stop; intro K hK; (refine wp_store_row S _ _ _ rfl 1 _ _ _ _ _ _ _ (atOf HL rfl) rfl _ rfl (by kernel_rfl) rfl (by omega) ?_; intro w L hM T; clear F S; (try rw [HL.out] at hM); clear HL; (try simp [Act.put, Act.eval, Value.cells, splice] at hM); have HL := Lib.hid hM; clear hM; have S := T; clear T; have F := factsAll HL S; (try simp only [factsOf, cellsFrom, and_true, true_and, Nat.reduceAdd] at F)); (refine hK.out _ _ ?_ ?_; (focus (first | exact fun _ => S | (intro _; refine S.sub (subL HL0 HL ?_); (repeat (first | exact List.Sublist.refl _ | apply List.Sublist.cons)); done) | (refine sink_no ?_; kernel_rfl))); clear hK K; (try simp only [Act.put, List.setIfInBounds_toArray, List.set_cons_zero, List.set_cons_succ]))) | (refine tree_act rfl rfl ?_ tree_stop; intro K hK; go_wp2_with (first | fail); (refine hK.out _ _ ?_ ?_; (focus (first | exact fun _ => S | (intro _; refine S.sub (subL HL0 HL ?_); (repeat (first | exact List.Sublist.refl _ | apply List.Sublist.cons)); done) | (refine sink_no ?_; kernel_rfl))); clear hK K; (try simp only [Act.put, List.setIfInBounds_toArray, List.set_cons_zero, List.set_cons_succ]))))
        refine tree_fin ?_
        go_wp2
        go_roundw
        case rel => exact ⟨k + 1, _, by omega, by go_num, Lib.hid rfl, by rw [N1.out, N2.out]; exact S.sub (by rw [HL.out, wrap_eq, wrap_eq]; exact .cons _ (.refl _))⟩
        case measure => simp [intOf]; omega
      · obtain rfl : k = 4096 := by omega
        go_wp2
        refine ret2 rfl (show _ = _ from rfl) (show _ = _ from rfl) rfl ?_
        rw [HL.out] at S
        exact ⟨_, _, rfl, _, _, bumps_length _ _, bumps_length _ _, S⟩
  · have h1' : rv x = false := by simpa using h1
    have e1 : splitV1 x = [] := by rw [splitV1, if_neg h1]
    have e2 : splitV2 x = [] := by rw [splitV2, if_neg h1]
    rw [e1, e2]
    clear e1 e2 h1
    obtain ⟨L, HL, S⟩ := st_start w0; have F : True := trivial
    go_enter Try.func17, Try.ntmps17
    go_wp2_with (first | (refine wpList_box rfl S _ _ rfl ?_; intro g w L hM T; clear F S; (try rw [HL.out] at hM); clear HL; (try simp [Act.put, Act.eval, Value.cells, splice] at hM); have HL := Lib.hid hM; clear hM; have S := T; clear T; have F := factsAll HL S; (try simp only [factsOf, cellsFrom, and_true, true_and, Nat.reduceAdd] at F))  | (refine wpList_store_box rfl S _ _ _ rfl 0 _ _ _ _ (atOf HL rfl) rfl _ rfl (by kernel_rfl) rfl rfl ?_; intro w L hM T; clear F S; (try rw [HL.out] at hM); clear HL; (try simp [Act.put, Act.eval, Value.cells, splice] at hM); have HL := Lib.hid hM; clear hM; have S := T; clear T; have F := factsAll HL S; (try simp only [factsOf, cellsFrom, and_true, true_and, Nat.reduceAdd] at F)) | (refine wpList_store_box rfl S _ _ _ rfl 1 _ _ _ _ (atOf HL rfl) rfl _ rfl (by kernel_rfl) rfl rfl ?_; intro w L hM T; clear F S; (try rw [HL.out] at hM); clear HL; (try simp [Act.put, Act.eval, Value.cells, splice] at hM); have HL := Lib.hid hM; clear hM; have S := T; clear T; have F := factsAll HL S; (try simp only [factsOf, cellsFrom, and_true, true_and, Nat.reduceAdd] at F)) | (refine wpList_store_box rfl S _ _ _ rfl 2 _ _ _ _ (atOf HL rfl) rfl _ rfl (by kernel_rfl) rfl rfl ?_; intro w L hM T; clear F S; (try rw [HL.out] at hM); clear HL; (try simp [Act.put, Act.eval, Value.cells, splice] at hM); have HL := Lib.hid hM; clear hM; have S := T; clear T; have F := factsAll HL S; (try simp only [factsOf, cellsFrom, and_true, true_and, Nat.reduceAdd] at F)) | (refine wpList_store_box rfl S _ _ _ rfl 3 _ _ _ _ (atOf HL rfl) rfl _ rfl (by kernel_rfl) rfl rfl ?_; intro w L hM T; clear F S; (try rw [HL.out] at hM); clear HL; (try simp [Act.put, Act.eval, Value.cells, splice] at hM); have HL := Lib.hid hM; clear hM; have S := T; clear T; have F := factsAll HL S; (try simp only [factsOf, cellsFrom, and_true, true_and, Nat.reduceAdd] at F)) | (go_at_call 19; refine (C_spec_RingValid _ _).mono ?_; rintro e w' ⟨rfl, rfl⟩) | (refine wpList_empty rfl S _ rfl 3 Try.underlying24 infoInt ?_; intro g w L hM T; clear F S; (try rw [HL.out] at hM); clear HL; (try simp [Act.put, Act.eval, Value.cells, splice] at hM); have HL := Lib.hid hM; clear hM; have S := T; clear T; have F := factsAll HL S; (try simp only [factsOf, cellsFrom, and_true, true_and, Nat.reduceAdd] at F)))
    refine ret2 rfl (show _ = _ from rfl) (show _ = _ from rfl) rfl ?_
    rw [HL.out] at S
    exact ⟨_, _, rfl, _, _, rfl, rfl, S⟩
theorem C_impl_TableViews (a b : Int) (w0 : World) : Calls Try.prog 26 #[.agg #[.int .i64 a, .int .i64 b]] w0 (MakesOne w0 (tableV ⟨a, b⟩)) := by
  by_cases h1 : Sh.ok ⟨a, b⟩ = true
  · have e1 : tableV ⟨a, b⟩ = bumps (addAt (joinS ⟨a, b⟩)) 4096 := by rw [tableV, if_pos h1]
    rw [e1]
    clear e1
    have hj := join_bd h1
    have CJ := fun w => C_impl_JoinShares a b w
    obtain ⟨z, hz⟩ : ∃ z, joinS ⟨a, b⟩ = z := ⟨_, rfl⟩
    rw [hz] at hj ⊢
    simp only [hz] at CJ
    clear hz
    obtain ⟨L, HL, S⟩ := st_start w0; have F : True := trivial
    go_enter Try.func26, Try.ntmps26
    go_wp2_with (first | (refine wpList_box rfl S _ _ rfl ?_; intro g w L hM T; clear F S; (try rw [HL.out] at hM); clear HL; (try simp [Act.put, Act.eval, Value.cells, splice] at hM); have HL := Lib.hid hM; clear hM; have S := T; clear T; have F := factsAll HL S; (try simp only [factsOf, cellsFrom, and_true, true_and, Nat.reduceAdd] at F))  | (refine wpList_store_box rfl S _ _ _ rfl 0 _ _ _ _ (atOf HL rfl) rfl _ rfl (by kernel_rfl) rfl rfl ?_; intro w L hM T; clear F S; (try rw [HL.out] at hM); clear HL; (try simp [Act.put, Act.eval, Value.cells, splice] at hM); have HL := Lib.hid hM; clear hM; have S := T; clear T; have F := factsAll HL S; (try simp only [factsOf, cellsFrom, and_true, true_and, Nat.reduceAdd] at F)) | (refine wpList_store_box rfl S _ _ _ rfl 1 _ _ _ _ (atOf HL rfl) rfl _ rfl (by kernel_rfl) rfl rfl ?_; intro w L hM T; clear F S; (try rw [HL.out] at hM); clear HL; (try simp [Act.put, Act.eval, Value.cells, splice] at hM); have HL := Lib.hid hM; clear hM; have S := T; clear T; have F := factsAll HL S; (try simp only [factsOf, cellsFrom, and_true, true_and, Nat.reduceAdd] at F)) | (refine wpList_store_box rfl S _ _ _ rfl 2 _ _ _ _ (atOf HL rfl) rfl _ rfl (by kernel_rfl) rfl rfl ?_; intro w L hM T; clear F S; (try rw [HL.out] at hM); clear HL; (try simp [Act.put, Act.eval, Value.cells, splice] at hM); have HL := Lib.hid hM; clear hM; have S := T; clear T; have F := factsAll HL S; (try simp only [factsOf, cellsFrom, and_true, true_and, Nat.reduceAdd] at F)) | (refine wpList_store_box rfl S _ _ _ rfl 3 _ _ _ _ (atOf HL rfl) rfl _ rfl (by kernel_rfl) rfl rfl ?_; intro w L hM T; clear F S; (try rw [HL.out] at hM); clear HL; (try simp [Act.put, Act.eval, Value.cells, splice] at hM); have HL := Lib.hid hM; clear hM; have S := T; clear T; have F := factsAll HL S; (try simp only [factsOf, cellsFrom, and_true, true_and, Nat.reduceAdd] at F)) | (go_at_call 46; refine (C_impl_SharedValid _ _ _).mono ?_; rintro e w ⟨rfl, hb⟩; replace S := S.grow hb; clear hb) | (at_make; refine wpList_make rfl S _ _ _ rfl 3 _ 1 8 Try.underlying24 infoInt _ 4096 rfl rfl rfl (by omega) (by simp only [maxLen]; omega) ?_; intro g w L hM T; clear F S; (try rw [HL.out] at hM); clear HL; (try simp [Act.put, Act.eval, Value.cells, splice] at hM); have HL := Lib.hid hM; clear hM; have S := T; clear T; have F := factsAll HL S; (try simp only [factsOf, cellsFrom, and_true, true_and, Nat.reduceAdd] at F)))
    rename_i gb _ _ _ _ _
    obtain ⟨ga, Ga⟩ : ∃ ga, ga = g := ⟨_, rfl⟩
    subst Ga
    go_loopw [9] (fun i wr => ∃ (k : Nat) (L : List Ent), k ≤ 4096 ∧ i = .int .i64 k ∧ Hid (L = [.row 3 1 (.slice (some ⟨ga, 0, none⟩) 4096 4096) 4096 (ints (bumps (addAt z) k)), .box gb 36 [.int .i64 a, .int .i64 b]]) ∧ St w0 wr L) (fun i _ => 4096 - (intOf i).toNat)
    case atStart => exact ⟨0, L, Nat.zero_le _, rfl, (by rw [ints_bumps_zero]; exact HL), S⟩
    case round =>
      clear F HL S
      obtain ⟨k, L, hk, rfl, HL, S⟩ := hrel
      by_cases hlt : k < 4096
      · have hs := addAt_lt z k
        have CA := fun w => C_impl_AddRing z k w
        rw [add_at hj hlt] at CA
        obtain ⟨m, hm⟩ : ∃ m, addAt z k = m := ⟨_, rfl⟩
        obtain ⟨B1, hB1⟩ : ∃ B, bumps (addAt z) k = B := ⟨_, rfl⟩
        obtain ⟨y1, hy1⟩ : ∃ y, B1.getD m 0 = y := ⟨_, rfl⟩
        rw [hm] at CA hs
        have hsI : (m : Int) < 4096 := by omega
        have l1 : (ints B1)[m]? = some (.int .i64 y1) := by rw [ints_getD B1 m (by rw [← hB1, bumps_length]; exact hs), hy1]
        have n1 : ints (bumps (addAt z) (k + 1)) = (ints B1).set m (.int .i64 (wrap64 (y1 + 1))) := by rw [bumps_succ, hB1, hm, bump_step hy1]
        rw [hB1] at HL
        clear hm hB1 hy1
        have N1 := Lib.hid n1
        have L1 := Lib.hid l1
        clear n1 l1
        have F := factsAll HL S
        simp only [factsOf, cellsFrom, and_true, true_and, Nat.reduceAdd] at F
        have c1 := fun w' (S' : St w0 w' L) => (S'.rowCell (atOf HL (p := 0) rfl) m (by omega)).trans L1.out
        go_wp2_with (first | (refine wpList_store_row rfl S _ _ _ rfl 0 _ _ _ _ _ _ _ (atOf HL rfl) rfl _ rfl (by kernel_rfl) rfl (by omega) ?_; intro w L hM T; clear F S; (try rw [HL.out] at hM); clear HL; (try simp [Act.put, Act.eval, Value.cells, splice] at hM); have HL := Lib.hid hM; clear hM; have S := T; clear T; have F := factsAll HL S; (try simp only [factsOf, cellsFrom, and_true, true_and, Nat.reduceAdd] at F)) | (go_at_call 65; refine (CJ _).mono ?_; rintro e w ⟨rfl, hb⟩; replace S := S.grow hb; clear hb) | (go_at_call 58; refine (CA _).mono ?_; rintro e w' ⟨rfl, rfl⟩))
        go_roundw
        case rel => exact ⟨k + 1, _, by omega, by go_num, Lib.hid rfl, by rw [N1.out]; rw [HL.out] at S; exact S⟩
        case measure => simp [intOf]; omega
      · obtain rfl : k = 4096 := by omega
        go_wp2
        go_ret
        rw [HL.out] at S
        exact ⟨_, rfl, _, bumps_length _ _, S.sub (.cons_cons _ (.cons _ (.refl _)))⟩
  · have h1' : Sh.ok ⟨a, b⟩ = false := by simpa using h1
    have e1 : tableV ⟨a, b⟩ = [] := by rw [tableV, if_neg h1]
    rw [e1]
    clear e1 h1
    obtain ⟨L, HL, S⟩ := st_start w0; have F : True := trivial
    go_enter Try.func26, Try.ntmps26
    go_wp2_with (first | (refine wpList_box rfl S _ _ rfl ?_; intro g w L hM T; clear F S; (try rw [HL.out] at hM); clear HL; (try simp [Act.put, Act.eval, Value.cells, splice] at hM); have HL := Lib.hid hM; clear hM; have S := T; clear T; have F := factsAll HL S; (try simp only [factsOf, cellsFrom, and_true, true_and, Nat.reduceAdd] at F))  | (refine wpList_store_box rfl S _ _ _ rfl 0 _ _ _ _ (atOf HL rfl) rfl _ rfl (by kernel_rfl) rfl rfl ?_; intro w L hM T; clear F S; (try rw [HL.out] at hM); clear HL; (try simp [Act.put, Act.eval, Value.cells, splice] at hM); have HL := Lib.hid hM; clear hM; have S := T; clear T; have F := factsAll HL S; (try simp only [factsOf, cellsFrom, and_true, true_and, Nat.reduceAdd] at F)) | (refine wpList_store_box rfl S _ _ _ rfl 1 _ _ _ _ (atOf HL rfl) rfl _ rfl (by kernel_rfl) rfl rfl ?_; intro w L hM T; clear F S; (try rw [HL.out] at hM); clear HL; (try simp [Act.put, Act.eval, Value.cells, splice] at hM); have HL := Lib.hid hM; clear hM; have S := T; clear T; have F := factsAll HL S; (try simp only [factsOf, cellsFrom, and_true, true_and, Nat.reduceAdd] at F)) | (refine wpList_store_box rfl S _ _ _ rfl 2 _ _ _ _ (atOf HL rfl) rfl _ rfl (by kernel_rfl) rfl rfl ?_; intro w L hM T; clear F S; (try rw [HL.out] at hM); clear HL; (try simp [Act.put, Act.eval, Value.cells, splice] at hM); have HL := Lib.hid hM; clear hM; have S := T; clear T; have F := factsAll HL S; (try simp only [factsOf, cellsFrom, and_true, true_and, Nat.reduceAdd] at F)) | (refine wpList_store_box rfl S _ _ _ rfl 3 _ _ _ _ (atOf HL rfl) rfl _ rfl (by kernel_rfl) rfl rfl ?_; intro w L hM T; clear F S; (try rw [HL.out] at hM); clear HL; (try simp [Act.put, Act.eval, Value.cells, splice] at hM); have HL := Lib.hid hM; clear hM; have S := T; clear T; have F := factsAll HL S; (try simp only [factsOf, cellsFrom, and_true, true_and, Nat.reduceAdd] at F)) | (go_at_call 46; refine (C_impl_SharedValid _ _ _).mono ?_; rintro e w ⟨rfl, hb⟩; replace S := S.grow hb; clear hb) )
    go_ret
    rw [HL.out] at S
    exact ⟨_, rfl, _, rfl, (S.sub (.cons _ (.refl _))).nilRow _ _⟩
theorem C_spec_TableViews (a b : Int) (w0 : World) : Calls Try.prog 27 #[.agg #[.int .i64 a, .int .i64 b]] w0 (MakesOne w0 (tableV ⟨a, b⟩)) := by
  by_cases h1 : Sh.ok ⟨a, b⟩ = true
  · have e1 : tableV ⟨a, b⟩ = bumps (addAt (joinS ⟨a, b⟩)) 4096 := by rw [tableV, if_pos h1]
    rw [e1]
    clear e1
    have hj := join_bd h1
    have CJ := fun w => C_spec_JoinShares a b w
    obtain ⟨z, hz⟩ : ∃ z, joinS ⟨a, b⟩ = z := ⟨_, rfl⟩
    rw [hz] at hj ⊢
    simp only [hz] at CJ
    clear hz
    obtain ⟨L, HL, S⟩ := st_start w0; have F : True := trivial
    go_enter Try.func27, Try.ntmps27
    go_wp2_with (first | (refine wpList_box rfl S _ _ rfl ?_; intro g w L hM T; clear F S; (try rw [HL.out] at hM); clear HL; (try simp [Act.put, Act.eval, Value.cells, splice] at hM); have HL := Lib.hid hM; clear hM; have S := T; clear T; have F := factsAll HL S; (try simp only [factsOf, cellsFrom, and_true, true_and, Nat.reduceAdd] at F))  | (refine wpList_store_box rfl S _ _ _ rfl 0 _ _ _ _ (atOf HL rfl) rfl _ rfl (by kernel_rfl) rfl rfl ?_; intro w L hM T; clear F S; (try rw [HL.out] at hM); clear HL; (try simp [Act.put, Act.eval, Value.cells, splice] at hM); have HL := Lib.hid hM; clear hM; have S := T; clear T; have F := factsAll HL S; (try simp only [factsOf, cellsFrom, and_true, true_and, Nat.reduceAdd] at F)) | (refine wpList_store_box rfl S _ _ _ rfl 1 _ _ _ _ (atOf HL rfl) rfl _ rfl (by kernel_rfl) rfl rfl ?_; intro w L hM T; clear F S; (try rw [HL.out] at hM); clear HL; (try simp [Act.put, Act.eval, Value.cells, splice] at hM); have HL := Lib.hid hM; clear hM; have S := T; clear T; have F := factsAll HL S; (try simp only [factsOf, cellsFrom, and_true, true_and, Nat.reduceAdd] at F)) | (refine wpList_store_box rfl S _ _ _ rfl 2 _ _ _ _ (atOf HL rfl) rfl _ rfl (by kernel_rfl) rfl rfl ?_; intro w L hM T; clear F S; (try rw [HL.out] at hM); clear HL; (try simp [Act.put, Act.eval, Value.cells, splice] at hM); have HL := Lib.hid hM; clear hM; have S := T; clear T; have F := factsAll HL S; (try simp only [factsOf, cellsFrom, and_true, true_and, Nat.reduceAdd] at F)) | (refine wpList_store_box rfl S _ _ _ rfl 3 _ _ _ _ (atOf HL rfl) rfl _ rfl (by kernel_rfl) rfl rfl ?_; intro w L hM T; clear F S; (try rw [HL.out] at hM); clear HL; (try simp [Act.put, Act.eval, Value.cells, splice] at hM); have HL := Lib.hid hM; clear hM; have S := T; clear T; have F := factsAll HL S; (try simp only [factsOf, cellsFrom, and_true, true_and, Nat.reduceAdd] at F)) | (go_at_call 28; refine (C_spec_SharedValid _ _ _).mono ?_; rintro e w ⟨rfl, hb⟩; replace S := S.grow hb; clear hb) | (at_make; refine wpList_make rfl S _ _ _ rfl 3 _ 1 8 Try.underlying24 infoInt _ 4096 rfl rfl rfl (by omega) (by simp only [maxLen]; omega) ?_; intro g w L hM T; clear F S; (try rw [HL.out] at hM); clear HL; (try simp [Act.put, Act.eval, Value.cells, splice] at hM); have HL := Lib.hid hM; clear hM; have S := T; clear T; have F := factsAll HL S; (try simp only [factsOf, cellsFrom, and_true, true_and, Nat.reduceAdd] at F)))
    rename_i gb _ _ _ _ _
    obtain ⟨ga, Ga⟩ : ∃ ga, ga = g := ⟨_, rfl⟩
    subst Ga
    go_loopw [4] (fun i wr => ∃ (k : Nat) (L : List Ent), k ≤ 4096 ∧ i = .int .i64 k ∧ Hid (L = [.row 3 1 (.slice (some ⟨ga, 0, none⟩) 4096 4096) 4096 (ints (bumps (addAt z) k)), .box gb 36 [.int .i64 a, .int .i64 b]]) ∧ St w0 wr L) (fun i _ => 4096 - (intOf i).toNat)
    case atStart => exact ⟨0, L, Nat.zero_le _, rfl, (by rw [ints_bumps_zero]; exact HL), S⟩
    case round =>
      clear F HL S
      obtain ⟨k, L, hk, rfl, HL, S⟩ := hrel
      by_cases hlt : k < 4096
      · have hs := addAt_lt z k
        obtain ⟨z1, z2⟩ := rv_bd hj
        have CA := fun w => C_spec_l1Ring (z + k) w
        rw [addAt_ro z k] at CA
        obtain ⟨m, hm⟩ : ∃ m, addAt z k = m := ⟨_, rfl⟩
        obtain ⟨B1, hB1⟩ : ∃ B, bumps (addAt z) k = B := ⟨_, rfl⟩
        obtain ⟨y1, hy1⟩ : ∃ y, B1.getD m 0 = y := ⟨_, rfl⟩
        rw [hm] at CA hs
        have hsI : (m : Int) < 4096 := by omega
        have l1 : (ints B1)[m]? = some (.int .i64 y1) := by rw [ints_getD B1 m (by rw [← hB1, bumps_length]; exact hs), hy1]
        have n1 : ints (bumps (addAt z) (k + 1)) = (ints B1).set m (.int .i64 (wrap64 (y1 + 1))) := by rw [bumps_succ, hB1, hm, bump_step hy1]
        rw [hB1] at HL
        clear hm hB1 hy1
        have N1 := Lib.hid n1
        have L1 := Lib.hid l1
        clear n1 l1
        have F := factsAll HL S
        simp only [factsOf, cellsFrom, and_true, true_and, Nat.reduceAdd] at F
        have c1 := fun w' (S' : St w0 w' L) => (S'.rowCell (atOf HL (p := 0) rfl) m (by omega)).trans L1.out
        go_wp2_with (first | (refine wpList_store_row rfl S _ _ _ rfl 0 _ _ _ _ _ _ _ (atOf HL rfl) rfl _ rfl (by kernel_rfl) rfl (by omega) ?_; intro w L hM T; clear F S; (try rw [HL.out] at hM); clear HL; (try simp [Act.put, Act.eval, Value.cells, splice] at hM); have HL := Lib.hid hM; clear hM; have S := T; clear T; have F := factsAll HL S; (try simp only [factsOf, cellsFrom, and_true, true_and, Nat.reduceAdd] at F)) | (go_at_call 78; refine (CJ _).mono ?_; rintro e w ⟨rfl, hb⟩; replace S := S.grow hb; clear hb) | (go_at_call 77; refine (CA _).mono ?_; rintro e w' ⟨rfl, rfl⟩))
        go_roundw
        case rel => exact ⟨k + 1, _, by omega, by go_num, Lib.hid rfl, by rw [N1.out]; rw [HL.out] at S; exact S⟩
        case measure => simp [intOf]; omega
      · obtain rfl : k = 4096 := by omega
        go_wp2
        go_ret
        rw [HL.out] at S
        exact ⟨_, rfl, _, bumps_length _ _, S.sub (.cons_cons _ (.cons _ (.refl _)))⟩
  · have h1' : Sh.ok ⟨a, b⟩ = false := by simpa using h1
    have e1 : tableV ⟨a, b⟩ = [] := by rw [tableV, if_neg h1]
    rw [e1]
    clear e1 h1
    obtain ⟨L, HL, S⟩ := st_start w0; have F : True := trivial
    go_enter Try.func27, Try.ntmps27
    go_wp2_with (first | (refine wpList_box rfl S _ _ rfl ?_; intro g w L hM T; clear F S; (try rw [HL.out] at hM); clear HL; (try simp [Act.put, Act.eval, Value.cells, splice] at hM); have HL := Lib.hid hM; clear hM; have S := T; clear T; have F := factsAll HL S; (try simp only [factsOf, cellsFrom, and_true, true_and, Nat.reduceAdd] at F))  | (refine wpList_store_box rfl S _ _ _ rfl 0 _ _ _ _ (atOf HL rfl) rfl _ rfl (by kernel_rfl) rfl rfl ?_; intro w L hM T; clear F S; (try rw [HL.out] at hM); clear HL; (try simp [Act.put, Act.eval, Value.cells, splice] at hM); have HL := Lib.hid hM; clear hM; have S := T; clear T; have F := factsAll HL S; (try simp only [factsOf, cellsFrom, and_true, true_and, Nat.reduceAdd] at F)) | (refine wpList_store_box rfl S _ _ _ rfl 1 _ _ _ _ (atOf HL rfl) rfl _ rfl (by kernel_rfl) rfl rfl ?_; intro w L hM T; clear F S; (try rw [HL.out] at hM); clear HL; (try simp [Act.put, Act.eval, Value.cells, splice] at hM); have HL := Lib.hid hM; clear hM; have S := T; clear T; have F := factsAll HL S; (try simp only [factsOf, cellsFrom, and_true, true_and, Nat.reduceAdd] at F)) | (refine wpList_store_box rfl S _ _ _ rfl 2 _ _ _ _ (atOf HL rfl) rfl _ rfl (by kernel_rfl) rfl rfl ?_; intro w L hM T; clear F S; (try rw [HL.out] at hM); clear HL; (try simp [Act.put, Act.eval, Value.cells, splice] at hM); have HL := Lib.hid hM; clear hM; have S := T; clear T; have F := factsAll HL S; (try simp only [factsOf, cellsFrom, and_true, true_and, Nat.reduceAdd] at F)) | (refine wpList_store_box rfl S _ _ _ rfl 3 _ _ _ _ (atOf HL rfl) rfl _ rfl (by kernel_rfl) rfl rfl ?_; intro w L hM T; clear F S; (try rw [HL.out] at hM); clear HL; (try simp [Act.put, Act.eval, Value.cells, splice] at hM); have HL := Lib.hid hM; clear hM; have S := T; clear T; have F := factsAll HL S; (try simp only [factsOf, cellsFrom, and_true, true_and, Nat.reduceAdd] at F)) | (go_at_call 28; refine (C_spec_SharedValid _ _ _).mono ?_; rintro e w ⟨rfl, hb⟩; replace S := S.grow hb; clear hb) | (refine wpList_empty rfl S _ rfl 3 Try.underlying24 infoInt ?_; intro g w L hM T; clear F S; (try rw [HL.out] at hM); clear HL; (try simp [Act.put, Act.eval, Value.cells, splice] at hM); have HL := Lib.hid hM; clear hM; have S := T; clear T; have F := factsAll HL S; (try simp only [factsOf, cellsFrom, and_true, true_and, Nat.reduceAdd] at F)))
    go_ret
    rw [HL.out] at S
    exact ⟨_, rfl, _, rfl, S.sub (.cons_cons _ (.cons _ (.refl _)))⟩
end Go.Proofs.Ytoekfgmjlnjflab
