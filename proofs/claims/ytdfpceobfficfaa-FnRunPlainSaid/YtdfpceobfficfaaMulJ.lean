/-
  Contracts: matrices mapped, sums of rows, cut products (the program's).
-/
import Derived.Test.YtdfpceobfficfaaMulI
namespace Go.Proofs.Ytdfpceobfficfaa
set_option linter.unusedSimpArgs false
set_option linter.unusedVariables false
set_option linter.unusedSectionVars false
open Go Go.RowKit
set_option maxHeartbeats 8000000
set_option maxRecDepth 20000
theorem C_addR' (a b q : Int) (w0 : World) (h : addR a b = q) : Calls Try.prog 107 #[.int .i64 a, .int .i64 b] w0 fun e w' => e = .returned (.int .i64 q) ∧ w0 = w' := h ▸ C_impl_AddRing a b w0
/-- What stands in the row of sums when j rows and k values of the next one are added. -/
def rsTo (xs : List Int) (R C j k : Nat) : List Int := tab R fun q => if q < j then ro (rowTo xs C q C) else if q = j then ro (rowTo xs C j k) else 0
theorem rsTo_zero (xs : List Int) (R C : Nat) : rsTo xs R C 0 0 = tab R fun _ => 0 := tab_congr _ _ _ fun q _ => by
  by_cases h : q = 0
  · simp [h, rowTo, ro]
  · simp [h]
theorem rsTo_row (xs : List Int) (R C j : Nat) : rsTo xs R C j C = rsTo xs R C (j + 1) 0 := tab_congr _ _ _ fun q _ => by
  by_cases h : q < j
  · rw [if_pos h, if_pos (by omega)]
  · rw [if_neg h]
    by_cases h2 : q = j
    · rw [if_pos h2, if_pos (by omega), h2]
    · rw [if_neg h2, if_neg (by omega)]
      split
      · rfl
      · rfl
theorem rsTo_get (xs : List Int) {R C j k : Nat} (hj : j < R) : (rsTo xs R C j k).getD j 0 = ro (rowTo xs C j k) := by
  unfold rsTo
  rw [tab_getD _ _ _ hj, if_neg (by omega), if_pos rfl]
theorem rsTo_set (xs : List Int) (R C j k : Nat) : (rsTo xs R C j k).set j (ro (rowTo xs C j (k + 1))) = rsTo xs R C j (k + 1) := by
  unfold rsTo
  rw [tab_set]
  refine tab_congr _ _ _ fun q _ => ?_
  by_cases h : q = j
  · rw [if_pos h, if_neg (by omega), if_pos h]
  · rw [if_neg h, if_neg h, if_neg h]
theorem rsTo_full (xs : List Int) (R C : Nat) : rsTo xs R C R 0 = tab R (sumV xs C) := tab_congr _ _ _ fun q h => if_pos h
theorem rsTo_length (xs : List Int) (R C j k : Nat) : (rsTo xs R C j k).length = R := tab_length _ _
theorem add_row {t x : Int} (hx : rv x = true) : addR (ro t) x = ro (t + x) := by
  unfold addR
  rw [rv_ro, hx]
  show ro (ro t + x) = ro (t + x)
  unfold ro
  omega
theorem C_impl_Map (kd : Int) (R C : Nat) (xs : List Int) (u : Value) (w0 : World) (h : Ints w0 u xs) (hk : kd = 1 ∨ kd = 2 ∨ kd = 3 ∨ kd = 4 ∨ kd = 5) (r1 : 1 ≤ R) (r2 : R ≤ 5) (c1 : 1 ≤ C) (c2 : C ≤ 5) (hl : xs.length = R * C) (a1 : xs.all rv = true) :
    Calls Try.prog 157 #[.int .i64 kd, .agg #[.int .i64 R, .int .i64 C, u]] w0 (MakesMx w0 R C (tab xs.length (mapV kd xs))) := by
  obtain ⟨N, hN⟩ : ∃ N, R * C = N := ⟨_, rfl⟩
  have b0 : N ≤ 25 := by
    have : R * C ≤ 5 * 5 := Nat.mul_le_mul r2 c2
    omega
  have p0 : 0 < N := by rw [← hN]; exact Nat.mul_pos r1 c1
  unfold MakesMx
  rw [tab_length]
  have HU := Lib.hid h
  have H1 := Lib.hid (Mx.ok_of r1 r2 c1 c2 hl a1)
  have HK := Lib.hid hk
  have CE := fun w => C_emptyMatrix R C N w hN b0
  have hkk : (decide (1 ≤ kd) && decide (kd ≤ 5)) = true := by simp; omega
  have HKK := Lib.hid hkk
  obtain ⟨_, A1, k1, rfl, hk1, hm1, hA1⟩ := h
  rw [hN] at hl
  rw [hl] at hk1 hA1
  obtain ⟨ba, oa, rfl, hba, hca⟩ := hA1 p0
  have HA := Lib.hid hca
  have HL1 := Lib.hid hl
  have HX := Lib.hid a1
  unfold MakesMx at CE
  rw [tab_length] at CE
  rw [HL1.out] at HU ⊢
  clear hA1 hca hl hN a1 hk hkk
  obtain ⟨L, HL, S⟩ := st_start w0; have F : True := trivial
  go_enter Try.func157, Try.ntmps157
  go_upto_region 1 with (first | (refine wpList_box (o := { dst := some 3, op := _, type := _, pos := _, after := _, guard := _ }) rfl S _ _ rfl ?_; intro ga w L hM T; clear F S; (try rw [HL.out] at hM); clear HL; (try simp [Act.put, Act.eval, Value.cells, splice] at hM); have HL := Lib.hid hM; clear hM; have S := T; clear T; have F := factsAll HL S; (try simp only [factsOf, cellsFrom, and_true, true_and, Nat.reduceAdd] at F)) | (refine wpList_alloc rfl S 55 _ rfl zMx ?_; intro gr w L hM T; clear F S; (try rw [HL.out] at hM); clear HL; (try simp [Act.put, Act.eval, Value.cells, splice] at hM); have HL := Lib.hid hM; clear hM; have S := T; clear T; have F := factsAll HL S; (try simp only [factsOf, cellsFrom, and_true, true_and, Nat.reduceAdd] at F)))
  go_upto_region 3 with (first | (go_at_call 159; refine (C_functionKnown _ true _ HKK.out).mono ?_; rintro e w' ⟨rfl, rfl⟩) | (go_at_call 62; refine (C_impl_MatrixValid _ _ _ _ _ _ (by exact HU.out.at_ S) (by exact H1.out)).mono ?_; rintro e w ⟨rfl, hb⟩; replace S := S.grow hb; clear hb))
  go_upto_region 4 with (first | (refine wpList_alloc rfl S 55 _ rfl zMx ?_; intro g5 w L hM T; clear F S; (try rw [HL.out] at hM); clear HL; (try simp [Act.put, Act.eval, Value.cells, splice] at hM); have HL := Lib.hid hM; clear hM; have S := T; clear T; have F := factsAll HL S; (try simp only [factsOf, cellsFrom, and_true, true_and, Nat.reduceAdd] at F)) | (refine wpList_store_box rfl S _ _ _ rfl 0 _ _ _ _ (atOf HL rfl) rfl _ rfl (by kernel_rfl) rfl rfl ?_; intro w L hM T; clear F S; (try rw [HL.out] at hM); clear HL; (try simp [Act.put, Act.eval, Value.cells, splice] at hM); have HL := Lib.hid hM; clear hM; have S := T; clear T; have F := factsAll HL S; (try simp only [factsOf, cellsFrom, and_true, true_and, Nat.reduceAdd] at F)) | (go_at_call 126; refine (CE _).mono ?_; rintro e w ⟨u, rfl, T0⟩; obtain ⟨L, hM, T⟩ := st_name (S.call T0); clear T0; clear F S; (try rw [HL.out] at hM); clear HL; (try simp [Act.put, Act.eval, Value.cells, splice] at hM); have HL := Lib.hid hM; clear hM; have S := T; clear T; have F := factsAll HL S; (try simp only [factsOf, cellsFrom, and_true, true_and, Nat.reduceAdd] at F); obtain ⟨A', cap', rfl, hcap', hmax'⟩ := S.sliceOf (atOf HL (p := 0) rfl)))
  obtain ⟨gn, cn, ev, hcv, hmv⟩ := S.rowAt (p := 1) (atOf HL rfl) p0
  obtain ⟨rfl, rfl⟩ : A' = some ⟨gn, 0, none⟩ ∧ cap' = cn := by injection ev with e1 _ e3; exact ⟨e1, e3⟩
  clear ev CE
  go_wp2
  go_loopw [25] (fun i wr => ∃ (j : Nat) (L : List Ent), j ≤ N ∧ i = .int .i64 j ∧ Hid (L = [.box g5 55 [.int .i64 R, .int .i64 C, .slice (some ⟨gn, 0, none⟩) N cap'], .row 3 1 (.slice (some ⟨gn, 0, none⟩) N cap') N (ints (tab N fun q => if q < j then mapV kd xs q else 0)), .box gr 55 [.int .i64 0, .int .i64 0, .slice none 0 0], .box ga 55 [.int .i64 R, .int .i64 C, .slice (some ⟨ba, oa, none⟩) N k1]]) ∧ St w0 wr L) (fun i _ => N - (intOf i).toNat)
  case atStart => exact ⟨0, L, Nat.zero_le _, rfl, Lib.hid (by rw [HL.out, fil_zero]), S⟩
  case round =>
    clear F HL S
    obtain ⟨j, L, hj, rfl, HL, S⟩ := hrel
    have F := factsAll HL S
    simp only [factsOf, cellsFrom, and_true, true_and, Nat.reduceAdd] at F
    by_cases hlt : j < N
    · have c0 := (S.below.cell (p := ⟨ba, oa + j, none⟩) hba).trans (HA.out j _ (ints_getD xs j (by rw [HL1.out]; exact hlt)))
      have ea := fil_set (mapV kd xs) N j
      have hx := getD_rv HX.out j
      have hz : fnAt kd (xs.getD j 0) = mapV kd xs j := rfl
      generalize mapV kd xs j = z at hz ea
      generalize xs.getD j 0 = x at c0 hz hx
      have HX0 := Lib.hid hx
      have HZ := Lib.hid hz
      have EA := Lib.hid ea
      clear ea hz hx
      go_upto_region 7 with fail
      have HL0 := HL; have F0 := F; refine wp_region_tree (S := fun w' => St w0 w' L) (.calm 0 (.calm 1 (.calm 2 (.calm 3 (.calm 4 (.act 5 (.calm 6 (.act 7 .fin .stop)) .stop)))))) (by kernel_rfl) (by kernel_rfl) (by kernel_rfl) (by intro c a d v w h; cases d <;> exact h) ?_; replace S := S.drew
      repeat (first | (first | (refine tree_calm (v := ?_) ?_ rfl (by decide +kernel) rfl ?_ ?_; rotate_left; (focus (first | exact S | (refine S.sub (subL HL0 HL ?_); (repeat (first | exact List.Sublist.refl _ | apply List.Sublist.cons)); done))); (focus (intro w' hS'; (try dsimp only at hS'); go_simp; try rfl)); (try simp only [Act.put, List.setIfInBounds_toArray, List.set_cons_zero, List.set_cons_succ])) | (refine tree_any (v := ?_) ?_ rfl rfl ?_ ?_; rotate_left; (focus (first | exact S | (refine S.sub (subL HL0 HL ?_); (repeat (first | exact List.Sublist.refl _ | apply List.Sublist.cons)); done))); (focus (intro w'; go_simp; try rfl)); (try simp only [Act.put, List.setIfInBounds_toArray, List.set_cons_zero, List.set_cons_succ]))) | (refine tree_skip ?_ rfl rfl ?_; (focus (first | exact S | (refine S.sub (subL HL0 HL ?_); (repeat (first | exact List.Sublist.refl _ | apply List.Sublist.cons)); done))); (try simp only [Act.put, List.setIfInBounds_toArray, List.set_cons_zero, List.set_cons_succ])) | (refine tree_act rfl rfl ?_ tree_stop; intro K hK; (refine wp_store_row S _ _ _ rfl 1 _ _ _ _ _ _ _ (atOf HL rfl) rfl _ rfl (by kernel_rfl) rfl (by omega) ?_; intro w L hM T; clear F S; (try rw [HL.out] at hM); clear HL; (try simp [Act.put, Act.eval, Value.cells, splice] at hM); have HL := Lib.hid hM; clear hM; have S := T; clear T; have F := factsAll HL S; (try simp only [factsOf, cellsFrom, and_true, true_and, Nat.reduceAdd] at F)); (refine hK.out _ _ ?_ ?_; (focus (first | exact fun _ => S | (intro _; refine S.sub (subL HL0 HL ?_); (repeat (first | exact List.Sublist.refl _ | apply List.Sublist.cons)); done) | (refine sink_no ?_; kernel_rfl))); clear hK K; (try simp only [Act.put, List.setIfInBounds_toArray, List.set_cons_zero, List.set_cons_succ]))) | (refine tree_act rfl rfl ?_ tree_stop; intro K hK; go_wp2_with (first | (go_at_call 160; refine (C_impl_FunctionAt _ _ _ _ HX0.out HK.out HZ.out).mono ?_; rintro e w' ⟨rfl, rfl⟩)); (refine hK.out _ _ ?_ ?_; (focus (first | exact fun _ => S | (intro _; refine S.sub (subL HL0 HL ?_); (repeat (first | exact List.Sublist.refl _ | apply List.Sublist.cons)); done) | (refine sink_no ?_; kernel_rfl))); clear hK K; (try simp only [Act.put, List.setIfInBounds_toArray, List.set_cons_zero, List.set_cons_succ]))))
      refine tree_fin ?_
      clear HL0 F0
      go_wp2
      go_roundw
      case rel =>
        rw [← ints_set, EA.out] at HL
        exact ⟨j + 1, L, by omega, by go_num, HL, S⟩
      case measure => simp [intOf]; omega
    · obtain rfl : j = N := by omega
      go_wp2_with (first | (refine wpList_store_box rfl S _ _ _ rfl 2 _ _ _ _ (atOf HL rfl) rfl _ rfl (by kernel_rfl) rfl rfl ?_; intro w L hM T; clear F S; (try rw [HL.out] at hM); clear HL; (try simp [Act.put, Act.eval, Value.cells, splice] at hM); have HL := Lib.hid hM; clear hM; have S := T; clear T; have F := factsAll HL S; (try simp only [factsOf, cellsFrom, and_true, true_and, Nat.reduceAdd] at F)))
      ((try simp only [Exit.inBlock, Exit.then]); refine ret1 rfl (resCell S HL 2 rfl rfl (by kernel_rfl)) rfl ?_)
      refine ⟨_, rfl, ?_⟩
      rw [fil_full] at HL
      exact (by rw [HL.out] at S; exact S.sub (by repeat (first | exact .refl _ | exact List.nil_sublist _ | apply List.Sublist.cons_cons | apply List.Sublist.cons)))
theorem C_impl_RowSums (R C : Nat) (xs : List Int) (u : Value) (w0 : World) (h : Ints w0 u xs) (r1 : 1 ≤ R) (r2 : R ≤ 5) (c1 : 1 ≤ C) (c2 : C ≤ 5) (hl : xs.length = R * C) (a1 : xs.all rv = true) :
    Calls Try.prog 172 #[.agg #[.int .i64 R, .int .i64 C, u]] w0 (MakesMx w0 R 1 (tab R (sumV xs C))) := by
  obtain ⟨N, hN⟩ : ∃ N, R * C = N := ⟨_, rfl⟩
  have b0 : N ≤ 25 := by
    have : R * C ≤ 5 * 5 := Nat.mul_le_mul r2 c2
    omega
  have p0 : 0 < N := by rw [← hN]; exact Nat.mul_pos r1 c1
  unfold MakesMx
  rw [tab_length]
  have HU := Lib.hid h
  have H1 := Lib.hid (Mx.ok_of r1 r2 c1 c2 hl a1)
  have CE : ∀ w, Calls Try.prog 126 #[.int .i64 R, .int .i64 1] w (MakesMx w R 1 (tab R fun _ => 0)) := fun w => C_emptyMatrix R 1 R w (Nat.mul_one R) (by omega)
  obtain ⟨_, A1, k1, rfl, hk1, hm1, hA1⟩ := h
  rw [hN] at hl
  rw [hl] at hk1 hA1
  obtain ⟨ba, oa, rfl, hba, hca⟩ := hA1 p0
  have HA := Lib.hid hca
  have HL1 := Lib.hid hl
  have HX := Lib.hid a1
  have HN := Lib.hid hN
  unfold MakesMx at CE
  rw [tab_length] at CE
  rw [HL1.out] at HU ⊢
  clear hA1 hca hl hN a1
  obtain ⟨L, HL, S⟩ := st_start w0; have F : True := trivial
  go_enter Try.func172, Try.ntmps172
  go_upto_region 1 with (first | (refine wpList_box (o := { dst := some 1, op := _, type := _, pos := _, after := _, guard := _ }) rfl S _ _ rfl ?_; intro ga w L hM T; clear F S; (try rw [HL.out] at hM); clear HL; (try simp [Act.put, Act.eval, Value.cells, splice] at hM); have HL := Lib.hid hM; clear hM; have S := T; clear T; have F := factsAll HL S; (try simp only [factsOf, cellsFrom, and_true, true_and, Nat.reduceAdd] at F)) | (refine wpList_alloc rfl S 55 _ rfl zMx ?_; intro gr w L hM T; clear F S; (try rw [HL.out] at hM); clear HL; (try simp [Act.put, Act.eval, Value.cells, splice] at hM); have HL := Lib.hid hM; clear hM; have S := T; clear T; have F := factsAll HL S; (try simp only [factsOf, cellsFrom, and_true, true_and, Nat.reduceAdd] at F)))
  go_upto_region 3 with (first | (go_at_call 62; refine (C_impl_MatrixValid _ _ _ _ _ _ (by exact HU.out.at_ S) (by exact H1.out)).mono ?_; rintro e w ⟨rfl, hb⟩; replace S := S.grow hb; clear hb))
  go_upto_region 4 with (first | (refine wpList_alloc rfl S 55 _ rfl zMx ?_; intro g5 w L hM T; clear F S; (try rw [HL.out] at hM); clear HL; (try simp [Act.put, Act.eval, Value.cells, splice] at hM); have HL := Lib.hid hM; clear hM; have S := T; clear T; have F := factsAll HL S; (try simp only [factsOf, cellsFrom, and_true, true_and, Nat.reduceAdd] at F)) | (refine wpList_store_box rfl S _ _ _ rfl 0 _ _ _ _ (atOf HL rfl) rfl _ rfl (by kernel_rfl) rfl rfl ?_; intro w L hM T; clear F S; (try rw [HL.out] at hM); clear HL; (try simp [Act.put, Act.eval, Value.cells, splice] at hM); have HL := Lib.hid hM; clear hM; have S := T; clear T; have F := factsAll HL S; (try simp only [factsOf, cellsFrom, and_true, true_and, Nat.reduceAdd] at F)) | (go_at_call 126; refine (CE _).mono ?_; rintro e w ⟨u, rfl, T0⟩; obtain ⟨L, hM, T⟩ := st_name (S.call T0); clear T0; clear F S; (try rw [HL.out] at hM); clear HL; (try simp [Act.put, Act.eval, Value.cells, splice] at hM); have HL := Lib.hid hM; clear hM; have S := T; clear T; have F := factsAll HL S; (try simp only [factsOf, cellsFrom, and_true, true_and, Nat.reduceAdd] at F); obtain ⟨A', cap', rfl, hcap', hmax'⟩ := S.sliceOf (atOf HL (p := 0) rfl)))
  obtain ⟨gn, cn, ev, hcv, hmv⟩ := S.rowAt (p := 1) (atOf HL rfl) r1
  obtain ⟨rfl, rfl⟩ : A' = some ⟨gn, 0, none⟩ ∧ cap' = cn := by injection ev with e1 _ e3; exact ⟨e1, e3⟩
  clear ev CE
  go_wp2
  go_loopw [16] (fun i wr => ∃ (j : Nat) (L : List Ent), j ≤ R ∧ i = .int .i64 j ∧ Hid (L = [.box g5 55 [.int .i64 R, .int .i64 1, .slice (some ⟨gn, 0, none⟩) R cap'], .row 3 1 (.slice (some ⟨gn, 0, none⟩) R cap') R (ints (rsTo xs R C j 0)), .box gr 55 [.int .i64 0, .int .i64 0, .slice none 0 0], .box ga 55 [.int .i64 R, .int .i64 C, .slice (some ⟨ba, oa, none⟩) N k1]]) ∧ St w0 wr L) (fun i _ => R - (intOf i).toNat)
  case atStart => exact ⟨0, L, Nat.zero_le _, rfl, Lib.hid (by rw [HL.out, rsTo_zero]), S⟩
  case round =>
    clear F HL S
    obtain ⟨j, L, hj, rfl, HL, S⟩ := hrel
    have F := factsAll HL S
    simp only [factsOf, cellsFrom, and_true, true_and, Nat.reduceAdd] at F
    by_cases hlt : j < R
    · obtain ⟨m1, hm1'⟩ : ∃ m1, j * C = m1 := ⟨_, rfl⟩
      have HM1 := Lib.hid hm1'
      have CR := fun w => C_rowOf R C j N k1 ba oa m1 w hlt r2 c1 c2 hm1' HN.out hk1 hm1
      clear hm1'
      go_wp2_with (first | (go_at_call 161; refine (CR _).mono ?_; rintro e w ⟨rfl, hb⟩; replace S := S.grow hb; clear hb))
      clear CR
      go_loopw [23] (fun i wr => ∃ (k : Nat) (L : List Ent), k ≤ C ∧ i = .int .i64 k ∧ Hid (L = [.box g5 55 [.int .i64 R, .int .i64 1, .slice (some ⟨gn, 0, none⟩) R cap'], .row 3 1 (.slice (some ⟨gn, 0, none⟩) R cap') R (ints (rsTo xs R C j k)), .box gr 55 [.int .i64 0, .int .i64 0, .slice none 0 0], .box ga 55 [.int .i64 R, .int .i64 C, .slice (some ⟨ba, oa, none⟩) N k1]]) ∧ St w0 wr L) (fun i _ => C - (intOf i).toNat)
      case atStart => exact ⟨0, L, Nat.zero_le _, rfl, HL, S⟩
      case round =>
        clear F HL S
        obtain ⟨k, L, hk, rfl, HL, S⟩ := hrel
        have F := factsAll HL S
        simp only [factsOf, cellsFrom, and_true, true_and, Nat.reduceAdd] at F
        by_cases hlt2 : k < C
        · have q1 : m1 + k < N := by rw [← HM1.out, ← HN.out]; exact cell_lt hlt hlt2
          have x0 := HA.out (m1 + k) _ (ints_getD xs (m1 + k) (by rw [HL1.out]; exact q1))
          rw [← Nat.add_assoc] at x0
          have c0 := (S.below.cell (p := ⟨ba, oa + m1 + k, none⟩) hba).trans x0
          have hx := getD_rv HX.out (m1 + k)
          have es := rsTo_set xs R C j k
          have eg := rsTo_get xs (C := C) (k := k) hlt
          have e1 : rowTo xs C j (k + 1) = rowTo xs C j k + xs.getD (m1 + k) 0 := by rw [← HM1.out]; rfl
          have hl0 := rsTo_length xs R C j k
          rw [e1] at es
          have ez := add_row (t := rowTo xs C j k) hx
          have y0 := ints_getD (rsTo xs R C j k) j (by rw [hl0]; exact hlt)
          rw [eg] at y0
          generalize xs.getD (m1 + k) 0 = x at *
          generalize ro (rowTo xs C j k) = y at *
          generalize ro (rowTo xs C j k + x) = z at *
          have ES := Lib.hid es
          have EZ := Lib.hid ez
          have Y0 := Lib.hid y0
          clear es eg e1 hl0 ez y0 x0 hx
          go_upto_region 10 with fail
          have d0 := fun w' (S' : St w0 w' L) => (S'.rowCell (p := 1) (atOf HL rfl) j (by omega)).trans Y0.out
          have HL0 := HL; have F0 := F; refine wp_region_tree (S := fun w' => St w0 w' L) (.calm 0 (.calm 1 (.calm 2 (.calm 3 (.calm 4 (.calm 5 (.calm 6 (.calm 7 (.calm 8 (.act 9 (.calm 10 (.act 11 .fin .stop)) .stop)))))))))) (by kernel_rfl) (by kernel_rfl) (by kernel_rfl) (by intro c a d v w h; cases d <;> exact h) ?_; replace S := S.drew
          repeat (first | (first | (refine tree_calm (v := ?_) ?_ rfl (by decide +kernel) rfl ?_ ?_; rotate_left; (focus (first | exact S | (refine S.sub (subL HL0 HL ?_); (repeat (first | exact List.Sublist.refl _ | apply List.Sublist.cons)); done))); (focus (intro w' hS'; (try dsimp only at hS'); go_simp; try rfl)); (try simp only [Act.put, List.setIfInBounds_toArray, List.set_cons_zero, List.set_cons_succ])) | (refine tree_any (v := ?_) ?_ rfl rfl ?_ ?_; rotate_left; (focus (first | exact S | (refine S.sub (subL HL0 HL ?_); (repeat (first | exact List.Sublist.refl _ | apply List.Sublist.cons)); done))); (focus (intro w'; go_simp; try rfl)); (try simp only [Act.put, List.setIfInBounds_toArray, List.set_cons_zero, List.set_cons_succ]))) | (refine tree_skip ?_ rfl rfl ?_; (focus (first | exact S | (refine S.sub (subL HL0 HL ?_); (repeat (first | exact List.Sublist.refl _ | apply List.Sublist.cons)); done))); (try simp only [Act.put, List.setIfInBounds_toArray, List.set_cons_zero, List.set_cons_succ])) | (refine tree_act rfl rfl ?_ tree_stop; intro K hK; (refine wp_store_row S _ _ _ rfl 1 _ _ _ _ _ _ _ (atOf HL rfl) rfl _ rfl (by kernel_rfl) rfl (by omega) ?_; intro w L hM T; clear F S; (try rw [HL.out] at hM); clear HL; (try simp [Act.put, Act.eval, Value.cells, splice] at hM); have HL := Lib.hid hM; clear hM; have S := T; clear T; have F := factsAll HL S; (try simp only [factsOf, cellsFrom, and_true, true_and, Nat.reduceAdd] at F)); (refine hK.out _ _ ?_ ?_; (focus (first | exact fun _ => S | (intro _; refine S.sub (subL HL0 HL ?_); (repeat (first | exact List.Sublist.refl _ | apply List.Sublist.cons)); done) | (refine sink_no ?_; kernel_rfl))); clear hK K; (try simp only [Act.put, List.setIfInBounds_toArray, List.set_cons_zero, List.set_cons_succ]))) | (refine tree_act rfl rfl ?_ tree_stop; intro K hK; go_wp2_with (first | (go_at_call 107; refine (C_addR' _ _ _ _ EZ.out).mono ?_; rintro e w' ⟨rfl, rfl⟩)); (refine hK.out _ _ ?_ ?_; (focus (first | exact fun _ => S | (intro _; refine S.sub (subL HL0 HL ?_); (repeat (first | exact List.Sublist.refl _ | apply List.Sublist.cons)); done) | (refine sink_no ?_; kernel_rfl))); clear hK K; (try simp only [Act.put, List.setIfInBounds_toArray, List.set_cons_zero, List.set_cons_succ]))))
          refine tree_fin ?_
          clear HL0 F0 d0
          go_wp2
          go_roundw
          case rel =>
            rw [← ints_set, ES.out] at HL
            exact ⟨k + 1, L, by omega, by go_num, HL, S⟩
          case measure => simp [intOf]; omega
        · obtain rfl : k = C := by omega
          go_wp2
          go_roundw
          case rel => exact ⟨j + 1, L, by omega, by go_num, by rw [← rsTo_row]; exact HL, S⟩
          case measure => simp [intOf]; omega
    · obtain rfl : j = R := by omega
      go_wp2_with (first | (refine wpList_store_box rfl S _ _ _ rfl 2 _ _ _ _ (atOf HL rfl) rfl _ rfl (by kernel_rfl) rfl rfl ?_; intro w L hM T; clear F S; (try rw [HL.out] at hM); clear HL; (try simp [Act.put, Act.eval, Value.cells, splice] at hM); have HL := Lib.hid hM; clear hM; have S := T; clear T; have F := factsAll HL S; (try simp only [factsOf, cellsFrom, and_true, true_and, Nat.reduceAdd] at F)))
      ((try simp only [Exit.inBlock, Exit.then]); refine ret1 rfl (resCell S HL 2 rfl rfl (by kernel_rfl)) rfl ?_)
      refine ⟨_, rfl, ?_⟩
      rw [rsTo_full] at HL
      exact (by rw [HL.out] at S; exact S.sub (by repeat (first | exact .refl _ | exact List.nil_sublist _ | apply List.Sublist.cons_cons | apply List.Sublist.cons)))
end Go.Proofs.Ytdfpceobfficfaa
