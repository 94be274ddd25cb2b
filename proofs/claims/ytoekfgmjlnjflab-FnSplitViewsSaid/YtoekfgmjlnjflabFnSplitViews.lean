/-
  Proved here: shares tell nothing.
-/
import Derived.Test.YtoekfgmjlnjflabDrawR
import Derived.Test.YtoekfgmjlnjflabSame
import Derived.Test.YtoekfgmjlnjflabFair
import Derived.Test.YtoekfgmjlnjflabTab
import Derived.Test.YtoekfgmjlnjflabBytes
namespace Go.Proofs.Ytoekfgmjlnjflab
set_option linter.unusedSimpArgs false
set_option linter.unusedVariables false
set_option linter.unusedSectionVars false
open Go Go.RowKit Go.ChangeShapes Go.WideShapes Go.ChangeAt
set_option maxHeartbeats 8000000 in
set_option maxRecDepth 20000 in
theorem L_FnSplitViews (v : Value) (w0 : World) (h : Bytes w0 v) : Calls Try.prog 3 #[v] w0 fun e w' => e = .returned (.bool true) ∧ Below w0.heap.size w0 w' := by
  have HB0 := Lib.hid h
  obtain ⟨A, n, cap, rfl, hcap, hmax, _⟩ := h
  unfold maxLen at hmax
  by_cases hbig : n > 1048576
  · obtain ⟨L, HL, S⟩ := st_start w0; have F : True := trivial
    go_enter Try.func3, Try.ntmps3
    go_wp2_with (first | (refine wpList_box rfl S _ _ rfl ?_; intro g w L hM T; clear F S; (try rw [HL.out] at hM); clear HL; (try simp [Act.put, Act.eval, Value.cells, splice] at hM); have HL := Lib.hid hM; clear hM; have S := T; clear T; have F := factsAll HL S; (try simp only [factsOf, cellsFrom, and_true, true_and, Nat.reduceAdd] at F))  | (refine wpList_store_box rfl S _ _ _ rfl 0 _ _ _ _ (atOf HL rfl) rfl _ rfl (by kernel_rfl) rfl rfl ?_; intro w L hM T; clear F S; (try rw [HL.out] at hM); clear HL; (try simp [Act.put, Act.eval, Value.cells, splice] at hM); have HL := Lib.hid hM; clear hM; have S := T; clear T; have F := factsAll HL S; (try simp only [factsOf, cellsFrom, and_true, true_and, Nat.reduceAdd] at F)) | (refine wpList_store_box rfl S _ _ _ rfl 1 _ _ _ _ (atOf HL rfl) rfl _ rfl (by kernel_rfl) rfl rfl ?_; intro w L hM T; clear F S; (try rw [HL.out] at hM); clear HL; (try simp [Act.put, Act.eval, Value.cells, splice] at hM); have HL := Lib.hid hM; clear hM; have S := T; clear T; have F := factsAll HL S; (try simp only [factsOf, cellsFrom, and_true, true_and, Nat.reduceAdd] at F)) | (refine wpList_store_box rfl S _ _ _ rfl 2 _ _ _ _ (atOf HL rfl) rfl _ rfl (by kernel_rfl) rfl rfl ?_; intro w L hM T; clear F S; (try rw [HL.out] at hM); clear HL; (try simp [Act.put, Act.eval, Value.cells, splice] at hM); have HL := Lib.hid hM; clear hM; have S := T; clear T; have F := factsAll HL S; (try simp only [factsOf, cellsFrom, and_true, true_and, Nat.reduceAdd] at F)) | (refine wpList_store_box rfl S _ _ _ rfl 3 _ _ _ _ (atOf HL rfl) rfl _ rfl (by kernel_rfl) rfl rfl ?_; intro w L hM T; clear F S; (try rw [HL.out] at hM); clear HL; (try simp [Act.put, Act.eval, Value.cells, splice] at hM); have HL := Lib.hid hM; clear hM; have S := T; clear T; have F := factsAll HL S; (try simp only [factsOf, cellsFrom, and_true, true_and, Nat.reduceAdd] at F))  )
    go_ret
    exact ⟨rfl, S.below⟩
  obtain ⟨L, HL, S⟩ := st_start w0; have F : True := trivial
  go_enter Try.func3, Try.ntmps3
  go_upto_region 4 with (first | (go_at_call 15; refine (C_DrawSplitViews _ _ (HB0.out.below S.below)).mono ?_; rintro e w1 ⟨x, rfl, hB⟩; replace S := S.grow hB; clear hB))
  have CI := fun w => C_impl_SplitViews x w
  have CS := fun w => C_spec_SplitViews x w
  cases hs : rv x with
  | false =>
    have hx : (splitV1 x).length = 0 := by simp [splitV1, hs]
    have hy : (splitV2 x).length = 0 := by simp [splitV2, hs]
    generalize splitV1 x = xs at CI CS hx
    generalize splitV2 x = ys at CI CS hy
    go_upto_region 9 with (first | (go_at_call 17; refine (CS _).mono ?_; rintro e w ⟨u, v, rfl, n, m, hn, hm, T0⟩; obtain ⟨L, hM, T⟩ := st_name (S.call T0); clear T0; clear F S; (try rw [HL.out] at hM); clear HL; (try simp [Act.put, Act.eval, Value.cells, splice] at hM); have HL := Lib.hid hM; clear hM; have S := T; clear T; have F := factsAll HL S; (try simp only [factsOf, cellsFrom, and_true, true_and, Nat.reduceAdd] at F)) | (go_at_call 16; refine (CI _).mono ?_; rintro e w ⟨u, v, rfl, n, m, hn, hm, T0⟩; obtain ⟨L, hM, T⟩ := st_name (S.call T0); clear T0; clear F S; (try rw [HL.out] at hM); clear HL; (try simp [Act.put, Act.eval, Value.cells, splice] at hM); have HL := Lib.hid hM; clear hM; have S := T; clear T; have F := factsAll HL S; (try simp only [factsOf, cellsFrom, and_true, true_and, Nat.reduceAdd] at F)) | (go_at_call 18; refine (C_sameInts _ _ _ _ ((Sees.row S (by first | exact atOf HL (p := 0) rfl | exact atOf HL (p := 1) rfl | exact atOf HL (p := 2) rfl | exact atOf HL (p := 3) rfl | exact atOf HL (p := 4) rfl | exact atOf HL (p := 5) rfl | exact atOf HL (p := 6) rfl | exact atOf HL (p := 7) rfl | exact atOf HL (p := 8) rfl | exact atOf HL (p := 9) rfl)).ints) ((Sees.row S (by first | exact atOf HL (p := 0) rfl | exact atOf HL (p := 1) rfl | exact atOf HL (p := 2) rfl | exact atOf HL (p := 3) rfl | exact atOf HL (p := 4) rfl | exact atOf HL (p := 5) rfl | exact atOf HL (p := 6) rfl | exact atOf HL (p := 7) rfl | exact atOf HL (p := 8) rfl | exact atOf HL (p := 9) rfl)).ints)).mono ?_; rintro e w ⟨rfl, hb⟩; replace S := S.grow hb; clear hb) | (go_at_call 19; refine (C_spec_RingValid _ _).mono ?_; rintro e w' ⟨rfl, rfl⟩))
    clear hn hm
    rename xs.length = _ => hn1
    rename ys.length = _ => hm1
    have z0 := hn1.symm.trans hx
    have z1 := hm1.symm.trans hy
    subst z0 z1
    rcases S.rowShape (atOf HL (p := 3) rfl) with ⟨rfl, h0⟩ | ⟨gg, cc, rfl, h1, h2⟩
    · rcases S.rowShape (atOf HL (p := 2) rfl) with ⟨rfl, h0⟩ | ⟨gh, cd, rfl, h3, h4⟩
      · go_wp2_with (first | (go_at_call 20; refine (C_alive _).mono ?_; rintro e w' ⟨rfl, rfl⟩))
        go_ret
        exact ⟨rfl, S.below⟩
      · go_wp2_with (first | (go_at_call 20; refine (C_alive _).mono ?_; rintro e w' ⟨rfl, rfl⟩))
        go_ret
        exact ⟨rfl, S.below⟩
    · rcases S.rowShape (atOf HL (p := 2) rfl) with ⟨rfl, h0⟩ | ⟨gh, cd, rfl, h3, h4⟩
      · go_wp2_with (first | (go_at_call 20; refine (C_alive _).mono ?_; rintro e w' ⟨rfl, rfl⟩))
        go_ret
        exact ⟨rfl, S.below⟩
      · go_wp2_with (first | (go_at_call 20; refine (C_alive _).mono ?_; rintro e w' ⟨rfl, rfl⟩))
        go_ret
        exact ⟨rfl, S.below⟩
  | true =>
    have hx : fair (splitV1 x) = true := by rw [splitV1, if_pos hs]; exact fair_first
    have hy : fair (splitV2 x) = true := by rw [splitV2, if_pos hs]; exact fair_sub _
    generalize splitV1 x = xs at CI CS hx
    generalize splitV2 x = ys at CI CS hy
    go_wp2_with (first | (refine wpList_box rfl S _ _ rfl ?_; intro g w L hM T; clear F S; (try rw [HL.out] at hM); clear HL; (try simp [Act.put, Act.eval, Value.cells, splice] at hM); have HL := Lib.hid hM; clear hM; have S := T; clear T; have F := factsAll HL S; (try simp only [factsOf, cellsFrom, and_true, true_and, Nat.reduceAdd] at F))  | (refine wpList_store_box rfl S _ _ _ rfl 0 _ _ _ _ (atOf HL rfl) rfl _ rfl (by kernel_rfl) rfl rfl ?_; intro w L hM T; clear F S; (try rw [HL.out] at hM); clear HL; (try simp [Act.put, Act.eval, Value.cells, splice] at hM); have HL := Lib.hid hM; clear hM; have S := T; clear T; have F := factsAll HL S; (try simp only [factsOf, cellsFrom, and_true, true_and, Nat.reduceAdd] at F)) | (refine wpList_store_box rfl S _ _ _ rfl 1 _ _ _ _ (atOf HL rfl) rfl _ rfl (by kernel_rfl) rfl rfl ?_; intro w L hM T; clear F S; (try rw [HL.out] at hM); clear HL; (try simp [Act.put, Act.eval, Value.cells, splice] at hM); have HL := Lib.hid hM; clear hM; have S := T; clear T; have F := factsAll HL S; (try simp only [factsOf, cellsFrom, and_true, true_and, Nat.reduceAdd] at F)) | (refine wpList_store_box rfl S _ _ _ rfl 2 _ _ _ _ (atOf HL rfl) rfl _ rfl (by kernel_rfl) rfl rfl ?_; intro w L hM T; clear F S; (try rw [HL.out] at hM); clear HL; (try simp [Act.put, Act.eval, Value.cells, splice] at hM); have HL := Lib.hid hM; clear hM; have S := T; clear T; have F := factsAll HL S; (try simp only [factsOf, cellsFrom, and_true, true_and, Nat.reduceAdd] at F)) | (refine wpList_store_box rfl S _ _ _ rfl 3 _ _ _ _ (atOf HL rfl) rfl _ rfl (by kernel_rfl) rfl rfl ?_; intro w L hM T; clear F S; (try rw [HL.out] at hM); clear HL; (try simp [Act.put, Act.eval, Value.cells, splice] at hM); have HL := Lib.hid hM; clear hM; have S := T; clear T; have F := factsAll HL S; (try simp only [factsOf, cellsFrom, and_true, true_and, Nat.reduceAdd] at F)) | (go_at_call 19; refine (C_spec_RingValid _ _).mono ?_; rintro e w' ⟨rfl, rfl⟩) | (go_at_call 17; refine (CS _).mono ?_; rintro e w ⟨u, v, rfl, n, m, hn, hm, T0⟩; obtain ⟨L, hM, T⟩ := st_name (S.call T0); clear T0; clear F S; (try rw [HL.out] at hM); clear HL; (try simp [Act.put, Act.eval, Value.cells, splice] at hM); have HL := Lib.hid hM; clear hM; have S := T; clear T; have F := factsAll HL S; (try simp only [factsOf, cellsFrom, and_true, true_and, Nat.reduceAdd] at F)) | (go_at_call 16; refine (CI _).mono ?_; rintro e w ⟨u, v, rfl, n, m, hn, hm, T0⟩; obtain ⟨L, hM, T⟩ := st_name (S.call T0); clear T0; clear F S; (try rw [HL.out] at hM); clear HL; (try simp [Act.put, Act.eval, Value.cells, splice] at hM); have HL := Lib.hid hM; clear hM; have S := T; clear T; have F := factsAll HL S; (try simp only [factsOf, cellsFrom, and_true, true_and, Nat.reduceAdd] at F)) | (go_at_call 18; refine (C_sameInts _ _ _ _ ((Sees.row S (by first | exact atOf HL (p := 0) rfl | exact atOf HL (p := 1) rfl | exact atOf HL (p := 2) rfl | exact atOf HL (p := 3) rfl | exact atOf HL (p := 4) rfl | exact atOf HL (p := 5) rfl | exact atOf HL (p := 6) rfl | exact atOf HL (p := 7) rfl | exact atOf HL (p := 8) rfl | exact atOf HL (p := 9) rfl)).ints) ((Sees.row S (by first | exact atOf HL (p := 0) rfl | exact atOf HL (p := 1) rfl | exact atOf HL (p := 2) rfl | exact atOf HL (p := 3) rfl | exact atOf HL (p := 4) rfl | exact atOf HL (p := 5) rfl | exact atOf HL (p := 6) rfl | exact atOf HL (p := 7) rfl | exact atOf HL (p := 8) rfl | exact atOf HL (p := 9) rfl)).ints)).mono ?_; rintro e w ⟨rfl, hb⟩; replace S := S.grow hb; clear hb) | (go_at_call 21; refine (C_impl_FairViews _ _ _ ((Sees.row S (by first | exact atOf HL (p := 0) rfl | exact atOf HL (p := 1) rfl | exact atOf HL (p := 2) rfl | exact atOf HL (p := 3) rfl | exact atOf HL (p := 4) rfl | exact atOf HL (p := 5) rfl | exact atOf HL (p := 6) rfl | exact atOf HL (p := 7) rfl | exact atOf HL (p := 8) rfl | exact atOf HL (p := 9) rfl)).ints)).mono ?_; rintro e w' ⟨rfl, rfl⟩))
    go_ret
    exact ⟨rfl, S.below⟩

set_option maxRecDepth 100000 in
theorem FnSplitViews_lifted (os : Os) (started : os.Started) (H : Type) (enc : TypeId × Value → H) :
    ReturnsInHanded {} Try.checked os 3 .any (Rows.fnSplitViewsSpec.pre6 enc Try.prog Try.f3 Rows.fnSplitViewsRow.domain false) (Rows.fnSplitViewsSpec.post enc Try.prog Try.f3 false true false false) := by
  refine returnsInHanded_of_change (C := Try.checked) Try.ownKnob_ started (by kernel_rfl) Try.func3
    (ChangeSpec.witness6 (enc := enc) (C := Try.checked) false ⟨#[], #[.slice none 0 0], []⟩ 8 (by kernel_rfl) (by kernel_rfl) (by kernel_rfl) (by kernel_rfl)) ?_
  intro W base args ds gs before hval0 hW _ _
  have hval : ∀ (j : Nat) t v, Try.f3.params[j]? = some t → args[j]? = some v → Value.okWide Try.prog W .any base t v := hval0
  have hW' := hW
  obtain ⟨p, q, hA0, hV, rfl, _, _⟩ := hW
  have hA : DataW.TrodAll enc Try.prog W 0 (fun _ => true) true Try.f3.params.toList args.toList ds p := hA0
  rw [Try.params3] at hA hval
  obtain ⟨v0, vs0, d0, ds0, p0, q0, hargs, rfl, rfl, h0, r0⟩ := trodAll_cons hA
  obtain ⟨rfl, rfl, rfl⟩ := trodAll_nil r0
  obtain rfl : args = #[v0] := by cases args; simp_all
  obtain ⟨rfl, rfl⟩ := trodVars_none hV
  clear hA0 hval0
  have s0 := open_bytes (e := 5) (by kernel_rfl) (hval 0 _ v0 rfl rfl) h0
  refine (L_FnSplitViews _ W s0).mono fun e W' ⟨he, hb⟩ => ⟨_, he, ?_⟩
  exact law_post 4 Try.underlying4 Try.laidOut_ (by kernel_rfl) rfl rfl hW' ⟨rfl, rfl, rfl⟩ hb

theorem FnSplitViews_holds : Rows.FnSplitViewsSaid :=
  OpenClaim.holds_of_wide 3 Try.f3 rfl rfl rfl rfl rfl rfl rfl ⟨rfl, rfl, rfl, rfl, rfl⟩ rfl rfl rfl rfl rfl (by kernel_rfl) Try.func3 (by kernel_rfl)
    (of_decide_eq_true (by kernel_rfl)) (by unfold Func.isWrapper; first | (rw [if_pos (by decide +kernel)]; kernel_rfl) | (rw [if_neg (by decide +kernel)]; exact ⟨rfl, rfl⟩))
    (fun os started H enc _ => FnSplitViews_lifted os started H enc)

end Go.Proofs.Ytoekfgmjlnjflab
